/-
  FACTS of the program's types and functions.
  CONTRACTS: small functions of the references that only read.
  CONTRACTS: functions of the references on hypotheses and frames.
  CONTRACTS: labels, pairs and hypotheses of the references.
  CONTRACTS: hypotheses of the references.
  CONTRACTS: the check of a database by the reference.
  CONTRACTS: the check of a database by the reference, whole.
  CONTRACTS: what uses what, by the reference.
  CONTRACTS of the program: look-ups, functions that take functions.
  CONTRACTS of the library: slices' functions.
  CONTRACTS of the library: slices.DeleteFunc.
-/
import Derived.Test.YtnpgmdffjemnbaaGreatDoorJR
import Derived.Laws.StructEq
import Derived.Test.YtnpgmdffjemnbaaGreatDoorJO
import Derived.Test.YtnpgmdffjemnbaaGreatDoorJF
import Derived.Test.YtnpgmdffjemnbaaGreatDoorJH
import Derived.Test.YtnpgmdffjemnbaaGreatDoorJP
set_option maxHeartbeats 8000000
set_option maxRecDepth 100000
namespace Go.Proofs.YtnpgmdffjemnbaaGreatDoor
open Go.RowKit

theorem YJ : Tryz.prog.follows .mixedOrders = true := by kernel_rfl
theorem Zjd : (Tryz.prog.fieldsOf 148).toList = [{ name := "A", type := 9, offset := 0, embedded := false, tag := "", pkgPath := "", byteOffset := 0 }, { name := "B", type := 9, offset := 1, embedded := false, tag := "", pkgPath := "", byteOffset := 16 }] := by kernel_rfl
theorem Zjc : Tryz.prog.underlying 148 = some (.struct (Tryz.prog.fieldsOf 148)) := by kernel_rfl
theorem und9 : Tryz.prog.underlying 9 = some .string := by kernel_rfl
theorem Zbh (c : Array Value) (i : Nat) (v : Value) (h : c[i]? = some v) (w : World) : (part 9 c i).run Tryz.prog w = .ok v w := by
  simp [part, Tryz.isAgg9, h]
theorem ZjW : ZhB Tryz.prog 148 := by
  intro a b c d w x y
  refine ⟨by simp [eqGuard], by simp [eqGuard], ?_⟩
  unfold Op.equal Op.maxDepth
  rw [run_equalIn_struct w 9999 148 _ _ Zjc (by kernel_rfl), Zjd]
  have e1 := fun (c : Array Value) (v : Value) (i : Nat) (h : c[i]? = some v) => Zbh c i v h
  have q1 := run_equalIn_string (P := Tryz.prog) w 9998 9 a c und9
  have q2 := run_equalIn_string (P := Tryz.prog) w 9998 9 b d und9
  rw [Zae] at q1 q2
  simp only [Op.eqFields]
  rw [if_pos (by decide), if_pos (by decide)]
  simp only [Sem.run_bind]
  rw [e1 _ (.string a) 0 rfl w, Result.andThen_ok, e1 _ (.string c) 0 rfl w, Result.andThen_ok, q1, Result.andThen_ok]
  by_cases h1 : a = c
  · simp only [h1, decide_true, Bool.not_true, Bool.false_eq_true, if_false, Sem.run_bind]
    rw [e1 _ (.string b) 1 rfl w, Result.andThen_ok, e1 _ (.string d) 1 rfl w, Result.andThen_ok, q2, Result.andThen_ok]
    by_cases h2 : b = d
    · simp [h2, Sem.run_pure]
    · simp [h2, Sem.run_pure]
  · simp [h1, Sem.run_pure]

theorem Zr : Tryz.prog.underlying 22 = some (.slice 9) := by kernel_rfl
theorem Zh : Yi Tryz.prog 22 9 1 := ⟨by kernel_rfl, fun w => by kernel_rfl⟩
theorem Za7 : X3 Tryz.prog 9 := fun w => by kernel_rfl
theorem Ym : Tryz.prog.underlying 28 = some (.slice 3) := by kernel_rfl
theorem Zq : Yi Tryz.prog 28 3 1 := ⟨by kernel_rfl, fun w => by kernel_rfl⟩
theorem one_3 : X3 Tryz.prog 3 := fun w => by kernel_rfl
theorem ZY : Tryz.prog.underlying 57 = some (.slice 148) := by kernel_rfl
theorem Zv : Yi Tryz.prog 57 148 2 := ⟨by kernel_rfl, fun w => by kernel_rfl⟩
theorem Zfl : X2 Tryz.prog 148 2 := ⟨fun w => by kernel_rfl, fun w => by kernel_rfl⟩
theorem Zz : Tryz.prog.underlying 9 = some .string := by kernel_rfl
theorem Zl4 : Zj Tryz.prog 163 := Zp Tryz.func163 rfl rfl
theorem Zmj : Zj Tryz.prog 133 := Zp Tryz.func133 rfl rfl
theorem Zdh : YD Tryz.prog 59 2 2 := fun b off w => by kernel_rfl
theorem Zjo : X3 Tryz.prog 56 := fun w => by kernel_rfl
theorem Zib : YD Tryz.prog 59 5 5 := fun b off w => by kernel_rfl
theorem Xj : Zgm Tryz.prog 56 109 3 48 := ZoV (.agg #[.string ⟨#[]⟩, .bool false, .slice none 0 0]) (by kernel_rfl) (by kernel_rfl) rfl (by decide) (fun w => by kernel_rfl)
theorem Zd2 : Zj Tryz.prog 106 := Zp Tryz.func106 rfl rfl
theorem one_4 : X3 Tryz.prog 4 := fun w => by kernel_rfl
theorem Qx : YD Tryz.prog 109 2 2 := fun b off w => by kernel_rfl
theorem Zdb : X3 Tryz.prog 22 := fun w => by kernel_rfl
theorem YE : Zj Tryz.prog 105 := Zp Tryz.func105 rfl rfl
theorem Qy : YD Tryz.prog 109 0 0 := fun b off w => by kernel_rfl
theorem ZmS : Tryz.prog.underlying 4 = some .bool := by kernel_rfl
theorem Zl3 : Zj Tryz.prog 164 := Zp Tryz.func164 rfl rfl
theorem Zd8 : X2 Tryz.prog 25 3 := ⟨fun w => by kernel_rfl, fun w => by kernel_rfl⟩
theorem Zd0 : Zj Tryz.prog 108 := Zp Tryz.func108 rfl rfl
theorem Zgn : Zbx Tryz.prog 148 := ⟨.agg #[.string ⟨#[]⟩, .string ⟨#[]⟩], fun w => by kernel_rfl⟩
theorem Zbc : Zgm Tryz.prog 57 148 2 32 := ZoV (.agg #[.string ⟨#[]⟩, .string ⟨#[]⟩]) (by kernel_rfl) (by kernel_rfl) rfl (by decide) (fun w => by kernel_rfl)
theorem ZbS : Tryz.prog.underlying 145 = some (.slice 22) := by kernel_rfl
theorem YM : Yi Tryz.prog 145 22 1 := ⟨by kernel_rfl, fun w => by kernel_rfl⟩
theorem Zal : Zbx Tryz.prog 9 := ⟨.string ⟨#[]⟩, fun w => by kernel_rfl⟩
theorem Xu : Zgm Tryz.prog 22 9 1 16 := ZoV (.string ⟨#[]⟩) (by kernel_rfl) (by kernel_rfl) rfl (by decide) (fun w => by kernel_rfl)
theorem Zs : Tryz.prog.underlying 56 = some (.slice 109) := by kernel_rfl
theorem Zm : Yi Tryz.prog 56 109 3 := ⟨by kernel_rfl, fun w => by kernel_rfl⟩
theorem Zdq : Zbx Tryz.prog 22 := ⟨.slice none 0 0, fun w => by kernel_rfl⟩
theorem Zdn : Zgm Tryz.prog 145 22 1 24 := ZoV (.slice none 0 0) (by kernel_rfl) (by kernel_rfl) rfl (by decide) (fun w => by kernel_rfl)
theorem Zaa : YD Tryz.prog 25 2 2 := fun b off w => by kernel_rfl
theorem ZgZ : X3 Tryz.prog 23 := fun w => by kernel_rfl
theorem ZD : Yi Tryz.prog 23 59 8 := ⟨by kernel_rfl, fun w => by kernel_rfl⟩
theorem ZmN : X2 Tryz.prog 59 8 := ⟨fun w => by kernel_rfl, fun w => by kernel_rfl⟩
theorem Zhv : Zj Tryz.prog 114 := Zp Tryz.func114 rfl rfl
theorem XS : YD Tryz.prog 59 0 0 := fun b off w => by kernel_rfl
theorem ZbK : Zj Tryz.prog 109 := Zp Tryz.func109 rfl rfl
theorem ZlY : Zj Tryz.prog 179 := Zp Tryz.func179 rfl rfl
theorem Zhp : Zj Tryz.prog 165 := Zp Tryz.func165 rfl rfl
theorem Zd1 : Zj Tryz.prog 107 := Zp Tryz.func107 rfl rfl
theorem Zhw : Zj Tryz.prog 111 := Zp Tryz.func111 rfl rfl
theorem ZaW : X2 Tryz.prog 109 3 := ⟨fun w => by kernel_rfl, fun w => by kernel_rfl⟩
theorem ZaS : Zj Tryz.prog 134 := Zp Tryz.func134 rfl rfl
theorem ZbJ : Zj Tryz.prog 135 := Zp Tryz.func135 rfl rfl
theorem Zic : YD Tryz.prog 59 4 4 := fun b off w => by kernel_rfl
theorem Zmh : Zj Tryz.prog 137 := Zp Tryz.func137 rfl rfl
theorem Zmi : Zj Tryz.prog 136 := Zp Tryz.func136 rfl rfl
theorem Zee : ZoZ Tryz.prog 148 2 := ⟨(#[.string ⟨#[]⟩, .string ⟨#[]⟩]), rfl, by kernel_rfl⟩
theorem Zmg : Zj Tryz.prog 139 := Zp Tryz.func139 rfl rfl
theorem Zhr : Zj Tryz.prog 138 := Zp Tryz.func138 rfl rfl
theorem Zmf : Zj Tryz.prog 140 := Zp Tryz.func140 rfl rfl
theorem Zhx : Zj Tryz.prog 104 := Zp Tryz.func104 rfl rfl
theorem Zds : ZoZ Tryz.prog 59 8 := ⟨(#[.string ⟨#[]⟩, .bool false, .slice none 0 0, .slice none 0 0, .slice none 0 0, .slice none 0 0, .slice none 0 0, .slice none 0 0]), rfl, by kernel_rfl⟩
theorem Zmy : Zj Tryz.prog 110 := Zp Tryz.func110 rfl rfl
theorem Zmx : Zj Tryz.prog 112 := Zp Tryz.func112 rfl rfl
theorem Zmw : Zj Tryz.prog 113 := Zp Tryz.func113 rfl rfl
theorem Zmu : Zj Tryz.prog 116 := Zp Tryz.func116 rfl rfl
theorem Zmv : Zj Tryz.prog 115 := Zp Tryz.func115 rfl rfl
theorem Z7 : Tryz.prog.underlying 23 = some (.slice 59) := by kernel_rfl
theorem Zop : Zj Tryz.prog 79 := Zp Tryz.func79 rfl rfl
theorem Zoo : Zj Tryz.prog 80 := Zp Tryz.func80 rfl rfl
theorem Zf7 : Zj Tryz.prog 62 := Zp Tryz.func62 rfl rfl
theorem Zav : Zj Tryz.prog 46 := Zp Tryz.func46 rfl rfl
theorem XT : Zbx Tryz.prog 3 := ⟨.int .i64 0, fun w => by kernel_rfl⟩
theorem YT : Zgm Tryz.prog 28 3 1 8 := ZoV (.int .i64 0) (by kernel_rfl) (by kernel_rfl) rfl (by decide) (fun w => by kernel_rfl)
theorem Zf9 : Zj Tryz.prog 45 := Zp Tryz.func45 rfl rfl
theorem Znb : X3 Tryz.prog 99 := fun w => by kernel_rfl
theorem ZP : Zim Tryz.prog 99 9 4 keyS.kind := ⟨by kernel_rfl, by kernel_rfl⟩
theorem ZL : Zgl Tryz.prog 4 (.bool false) := ⟨(.bool false), fun w => by kernel_rfl, fun S w => Rel.of_lit _⟩
theorem Zf1 : YD Tryz.prog 103 1 1 := fun b off w => by kernel_rfl
theorem ZeL : X3 Tryz.prog 97 := fun w => by kernel_rfl
theorem ZdX : Zj Tryz.prog 87 := Zp Tryz.func87 rfl rfl
theorem Zmm : Zj Tryz.prog 129 := Zp Tryz.func129 rfl rfl
theorem Zhs : Zj Tryz.prog 131 := Zp Tryz.func131 rfl rfl
theorem Zkg : Zj Tryz.prog 58 := Zp Tryz.func58 rfl rfl
theorem Zkc : Zj Tryz.prog 69 := Zp Tryz.func69 rfl rfl
theorem Zax : ZoZ Tryz.prog 109 3 := ⟨(#[.string ⟨#[]⟩, .bool false, .slice none 0 0]), rfl, by kernel_rfl⟩
theorem XA : X1 Tryz.prog 109 3 := fun w => by kernel_rfl
theorem Zfs : Zd9 Tryz.prog 109 3 := ⟨(.agg #[.string ⟨#[]⟩, .bool false, .slice none 0 0]), fun w => by kernel_rfl, rfl, by simp [Value.cells, Value.oneCell']⟩
theorem Zl1 : Zj Tryz.prog 174 := Zp Tryz.func174 rfl rfl
theorem Zc0 : X1 Tryz.prog 148 2 := fun w => by kernel_rfl
theorem Zfr : Zd9 Tryz.prog 148 2 := ⟨(.agg #[.string ⟨#[]⟩, .string ⟨#[]⟩]), fun w => by kernel_rfl, rfl, by simp [Value.cells, Value.oneCell']⟩
theorem Zed : Zd9 Tryz.prog 3 1 := ⟨(.int .i64 0), fun w => by kernel_rfl, rfl, by simp [Value.cells, Value.oneCell']⟩
theorem Zhq : Zj Tryz.prog 155 := Zp Tryz.func155 rfl rfl
theorem Zmc : Zj Tryz.prog 154 := Zp Tryz.func154 rfl rfl
theorem Zl9 : Zj Tryz.prog 158 := Zp Tryz.func158 rfl rfl
theorem Zma : Zj Tryz.prog 157 := Zp Tryz.func157 rfl rfl
theorem Zmb : Zj Tryz.prog 156 := Zp Tryz.func156 rfl rfl
theorem Zmz : Zj Tryz.prog 103 := Zp Tryz.func103 rfl rfl
theorem ZmA : Zj Tryz.prog 102 := Zp Tryz.func102 rfl rfl
theorem ZmB : Zj Tryz.prog 101 := Zp Tryz.func101 rfl rfl
theorem Xi : Zil Tryz.prog 109 [.lit (.string ⟨#[]⟩), .lit (.bool false), .sl []] := ⟨(.agg #[.string ⟨#[]⟩, .bool false, .slice none 0 0]), fun w => by kernel_rfl, fun S w => (show RdL S w [.lit (.string ⟨#[]⟩), .lit (.bool false), .sl []] [.string ⟨#[]⟩, .bool false, .slice none 0 0] from ⟨.lit _ (Nat.zero_le _), .lit _ True.intro, .nil _ _ (Nat.zero_le _), trivial⟩)⟩
theorem Zmk : Zj Tryz.prog 132 := Zp Tryz.func132 rfl rfl
theorem ZiS : X1 Tryz.prog 22 1 := fun w => by kernel_rfl
theorem Zms : Zj Tryz.prog 123 := Zp Tryz.func123 rfl rfl
theorem ZdW : Zj Tryz.prog 93 := Zp Tryz.func93 rfl rfl
theorem Zaz : Zil Tryz.prog 176 ((List.replicate 256 (0 : UInt8)).map u8D) := ZkB (.agg (Array.replicate 256 (.int .u8 0))) (fun w => by kernel_rfl) (by simp [Value.cells])
theorem ZcX : Tryz.prog.underlying 3 = some (.int .i64) := by kernel_rfl
theorem ZiC : Tryz.prog.underlying 5 = some (.int .u8) := by kernel_rfl
theorem Xc : ArrT Tryz.prog 176 5 256 := ⟨by kernel_rfl, fun w => by kernel_rfl, by decide⟩
theorem ZbB : X1 Tryz.prog 5 1 := fun w => by kernel_rfl
theorem ZcC : X2 Tryz.prog 176 256 := ⟨fun w => by kernel_rfl, fun w => by kernel_rfl⟩
theorem Zbg : X1 Tryz.prog 176 256 := fun w => by kernel_rfl
theorem ZhE : Tryz.prog.underlying 175 = some (.slice 5) := by kernel_rfl
theorem QZ : Yi Tryz.prog 175 5 1 := ⟨by kernel_rfl, fun w => by kernel_rfl⟩
theorem one_5 : X3 Tryz.prog 5 := fun w => by kernel_rfl
theorem Zl2 : Zj Tryz.prog 172 := Zp Tryz.func172 rfl rfl
theorem Zme : Zj Tryz.prog 152 := Zp Tryz.func152 rfl rfl
theorem Zmd : Zj Tryz.prog 153 := Zp Tryz.func153 rfl rfl
theorem zero_5 : Zbx Tryz.prog 5 := ⟨.int .u8 0, fun w => by kernel_rfl⟩
theorem Zhu : Zj Tryz.prog 120 := Zp Tryz.func120 rfl rfl
theorem Ziq : Zd9 Tryz.prog 5 1 := ⟨(.int .u8 0), fun w => by kernel_rfl, rfl, by simp [Value.cells, Value.oneCell']⟩
theorem Zhn : Zj Tryz.prog 177 := Zp Tryz.func177 rfl rfl
theorem Zf6 : Zj Tryz.prog 86 := Zp Tryz.func86 rfl rfl
theorem ZlZ : Zj Tryz.prog 178 := Zp Tryz.func178 rfl rfl
theorem Zho : Zj Tryz.prog 176 := Zp Tryz.func176 rfl rfl
theorem QM : Tryz.prog.underlying 199 = some (.array 10 198) := by kernel_rfl
theorem Q2 : X1 Tryz.prog 198 4 := fun w => by kernel_rfl
theorem Zfk : X2 Tryz.prog 198 4 := ⟨fun w => by kernel_rfl, fun w => by kernel_rfl⟩
theorem Zay : Zil Tryz.prog 198 [.lit (.string ⟨#[]⟩), .lit (.bool false), .lit (.int .i64 0), .lit (.int .i64 0)] := ⟨(.agg #[.string ⟨#[]⟩, .bool false, .int .i64 0, .int .i64 0]), fun w => by kernel_rfl, fun S w => (show RdL S w [.lit (.string ⟨#[]⟩), .lit (.bool false), .lit (.int .i64 0), .lit (.int .i64 0)] [.string ⟨#[]⟩, .bool false, .int .i64 0, .int .i64 0] from ⟨.lit _ (Nat.zero_le _), .lit _ True.intro, .lit _ True.intro, .lit _ True.intro, trivial⟩)⟩
theorem Zf5 : Zj Tryz.prog 88 := Zp Tryz.func88 rfl rfl
theorem ZfY : YD Tryz.prog 156 2 2 := fun b off w => by kernel_rfl
theorem ZfX : YD Tryz.prog 156 3 3 := fun b off w => by kernel_rfl
theorem Zl6 : Zj Tryz.prog 161 := Zp Tryz.func161 rfl rfl
theorem QL : Tryz.prog.underlying 157 = some (.slice 156) := by kernel_rfl
theorem Qf : Yi Tryz.prog 157 156 4 := ⟨by kernel_rfl, fun w => by kernel_rfl⟩
theorem Zl0 : Zj Tryz.prog 175 := Zp Tryz.func175 rfl rfl
theorem ZfW : YD Tryz.prog 198 0 0 := fun b off w => by kernel_rfl
theorem Zl7 : Zj Tryz.prog 160 := Zp Tryz.func160 rfl rfl
theorem Zl8 : Zj Tryz.prog 159 := Zp Tryz.func159 rfl rfl
theorem Zix : ZoZ Tryz.prog 156 4 := ⟨(#[.int .i64 0, .string ⟨#[]⟩, .slice none 0 0, .slice none 0 0]), rfl, by kernel_rfl⟩
theorem Zl5 : Zj Tryz.prog 162 := Zp Tryz.func162 rfl rfl
theorem Zgg : Zfn Tryz.prog 156 4 := ⟨#[.int .i64 0, .string ⟨#[]⟩, .slice none 0 0, .slice none 0 0], rfl, fun i => (#[(0, 1), (1, 1), (2, 1), (3, 1)] : Array (Nat × Nat))[i]?, fun j hj => by rcases j with _ | _ | _ | _ | j <;> first | rfl | omega, fun parts => by kernel_rfl⟩
theorem Zkx : Zbx Tryz.prog 156 := ⟨.agg #[.int .i64 0, .string ⟨#[]⟩, .slice none 0 0, .slice none 0 0], fun w => by kernel_rfl⟩
theorem Zml : Zj Tryz.prog 130 := Zp Tryz.func130 rfl rfl
theorem Zf0 : YD Tryz.prog 103 2 2 := fun b off w => by kernel_rfl
theorem Zcl : YD Tryz.prog 112 1 1 := fun b off w => by kernel_rfl
theorem ZfO : X3 Tryz.prog 101 := fun w => by kernel_rfl
theorem Qa : Zim Tryz.prog 101 9 9 keyS.kind := ⟨by kernel_rfl, by kernel_rfl⟩
theorem ZbN : Zgl Tryz.prog 9 (.str default) := ⟨(.string ⟨#[]⟩), fun w => by kernel_rfl, fun S w => (show Rel S w (.str ⟨#[]⟩) _ from Rel.of_lit _ (Nat.zero_le _))⟩
theorem ZfZ : YD Tryz.prog 103 4 4 := fun b off w => by kernel_rfl
theorem XW : YD Tryz.prog 103 3 3 := fun b off w => by kernel_rfl
theorem Zcb : X3 Tryz.prog 100 := fun w => by kernel_rfl
theorem Y9 : Zim Tryz.prog 100 9 109 keyS.kind := ⟨by kernel_rfl, by kernel_rfl⟩
theorem X4 : Zgl Tryz.prog 109 (.agg (hyC default)) := ⟨(.agg #[.string ⟨#[]⟩, .bool false, .slice none 0 0]), fun w => by kernel_rfl, fun S w => (show Rel S w (.agg [.lit (.string ⟨#[]⟩), .lit (.bool false), .sl []]) _ from (by simp only [Rel]; exact ⟨[.string ⟨#[]⟩, .bool false, .slice none 0 0], rfl, .lit _ (Nat.zero_le _), .lit _ True.intro, .nil _ _ (Nat.zero_le _), trivial⟩))⟩
theorem Zht : Zj Tryz.prog 122 := Zp Tryz.func122 rfl rfl
theorem Zj8 : Zj Tryz.prog 91 := Zp Tryz.func91 rfl rfl
theorem Zmq : Zj Tryz.prog 125 := Zp Tryz.func125 rfl rfl
theorem Zmr : Zj Tryz.prog 124 := Zp Tryz.func124 rfl rfl
theorem Zfx : Tryz.prog.underlying 99 = some (.map 9 4) := by kernel_rfl
theorem Zfv : Zil Tryz.prog 148 [.lit (.string ⟨#[]⟩), .lit (.string ⟨#[]⟩)] := ⟨(.agg #[.string ⟨#[]⟩, .string ⟨#[]⟩]), fun w => by kernel_rfl, fun S w => (show RdL S w [.lit (.string ⟨#[]⟩), .lit (.string ⟨#[]⟩)] [.string ⟨#[]⟩, .string ⟨#[]⟩] from ⟨.lit _ (Nat.zero_le _), .lit _ (Nat.zero_le _), trivial⟩)⟩
theorem Zmp : Zj Tryz.prog 126 := Zp Tryz.func126 rfl rfl
theorem Zmn : Zj Tryz.prog 128 := Zp Tryz.func128 rfl rfl
theorem Zmo : Zj Tryz.prog 127 := Zp Tryz.func127 rfl rfl
theorem Zoi : Zj Tryz.prog 95 := Zp Tryz.func95 rfl rfl
theorem ZbT : Tryz.prog.underlying 140 = some (.slice 56) := by kernel_rfl
theorem XP : Yi Tryz.prog 140 56 1 := ⟨by kernel_rfl, fun w => by kernel_rfl⟩
theorem Zmt : Zj Tryz.prog 121 := Zp Tryz.func121 rfl rfl
theorem Zem : Tryz.prog.underlying 101 = some (.map 9 9) := by kernel_rfl
theorem Zoj : Zj Tryz.prog 94 := Zp Tryz.func94 rfl rfl
theorem Zof : Zj Tryz.prog 98 := Zp Tryz.func98 rfl rfl
theorem Zgh : Zfn Tryz.prog 112 2 := ⟨#[.map none, .map none], rfl, fun i => (#[(0, 1), (1, 1)] : Array (Nat × Nat))[i]?, fun j hj => by rcases j with _ | _ | j <;> first | rfl | omega, fun parts => by kernel_rfl⟩
theorem Zfw : Zil Tryz.prog 112 [.lit (.map none), .lit (.map none)] := ⟨(.agg #[.map none, .map none]), fun w => by kernel_rfl, fun S w => (show RdL S w [.lit (.map none), .lit (.map none)] [.map none, .map none] from ⟨.lit _ True.intro, .lit _ True.intro, trivial⟩)⟩
theorem ZhJ : X1 Tryz.prog 112 2 := fun w => by kernel_rfl
theorem ZcS : Zd9 Tryz.prog 56 1 := ⟨(.slice none 0 0), fun w => by kernel_rfl, rfl, by simp [Value.cells, Value.oneCell']⟩
theorem Zj9 : Zj Tryz.prog 89 := Zp Tryz.func89 rfl rfl
theorem Zol : Zj Tryz.prog 90 := Zp Tryz.func90 rfl rfl
theorem Zok : Zj Tryz.prog 92 := Zp Tryz.func92 rfl rfl
theorem Zka : Zj Tryz.prog 77 := Zp Tryz.func77 rfl rfl
theorem Zoh : Zj Tryz.prog 96 := Zp Tryz.func96 rfl rfl
theorem Zog : Zj Tryz.prog 97 := Zp Tryz.func97 rfl rfl
theorem Zoe : Zj Tryz.prog 99 := Zp Tryz.func99 rfl rfl
theorem ZmC : Zj Tryz.prog 100 := Zp Tryz.func100 rfl rfl
theorem Zgi : Zfn Tryz.prog 103 5 := ⟨#[.map none, .map none, .map none, .map none, .map none], rfl, fun i => (#[(0, 1), (1, 1), (2, 1), (3, 1), (4, 1)] : Array (Nat × Nat))[i]?, fun j hj => by rcases j with _ | _ | _ | _ | _ | j <;> first | rfl | omega, fun parts => by kernel_rfl⟩
theorem Zos : Zj Tryz.prog 75 := Zp Tryz.func75 rfl rfl
theorem Zor : Zj Tryz.prog 76 := Zp Tryz.func76 rfl rfl
theorem Zom : Zj Tryz.prog 82 := Zp Tryz.func82 rfl rfl
theorem Zoy : Zj Tryz.prog 54 := Zp Tryz.func54 rfl rfl
theorem Zkm : Zno Tryz.prog 66 := fun x y z => by kernel_rfl
theorem QD : Zil Tryz.prog 59 [.lit (.string ⟨#[]⟩), .lit (.bool false), .sl [], .sl [], .sl [], .sl [], .sl [], .sl []] := ⟨(.agg #[.string ⟨#[]⟩, .bool false, .slice none 0 0, .slice none 0 0, .slice none 0 0, .slice none 0 0, .slice none 0 0, .slice none 0 0]), fun w => by kernel_rfl, fun S w => (show RdL S w [.lit (.string ⟨#[]⟩), .lit (.bool false), .sl [], .sl [], .sl [], .sl [], .sl [], .sl []] [.string ⟨#[]⟩, .bool false, .slice none 0 0, .slice none 0 0, .slice none 0 0, .slice none 0 0, .slice none 0 0, .slice none 0 0] from ⟨.lit _ (Nat.zero_le _), .lit _ True.intro, .nil _ _ (Nat.zero_le _), .nil _ _ (Nat.zero_le _), .nil _ _ (Nat.zero_le _), .nil _ _ (Nat.zero_le _), .nil _ _ (Nat.zero_le _), .nil _ _ (Nat.zero_le _), trivial⟩)⟩
theorem Zer : X1 Tryz.prog 59 8 := fun w => by kernel_rfl
theorem Zot : Zj Tryz.prog 71 := Zp Tryz.func71 rfl rfl
theorem Zcf : Zim Tryz.prog 89 9 3 keyS.kind := ⟨by kernel_rfl, by kernel_rfl⟩
theorem Zft : Zgl Tryz.prog 3 (.int default) := ⟨(.int .i64 0), fun w => by kernel_rfl, fun S w => (show Rel S w (.int 0) _ from Rel.of_lit _)⟩
theorem Yw : Zim Tryz.prog 70 3 4 keyI.kind := ⟨by kernel_rfl, by kernel_rfl⟩
theorem Q9 : YD Tryz.prog 66 1 3 := fun b off w => by kernel_rfl
theorem Zjp : X3 Tryz.prog 44 := fun w => by kernel_rfl
theorem Zf8 : Zj Tryz.prog 48 := Zp Tryz.func48 rfl rfl
theorem XI : Yi Tryz.prog 44 28 1 := ⟨by kernel_rfl, fun w => by kernel_rfl⟩
theorem Znp : Zbx Tryz.prog 28 := ⟨.slice none 0 0, fun w => by kernel_rfl⟩
theorem Zfj : Zgm Tryz.prog 44 28 1 24 := ZoV (.slice none 0 0) (by kernel_rfl) (by kernel_rfl) rfl (by decide) (fun w => by kernel_rfl)
theorem ZiP : X1 Tryz.prog 44 1 := fun w => by kernel_rfl
theorem ZgY : X3 Tryz.prog 70 := fun w => by kernel_rfl
theorem one_62 : X3 Tryz.prog 62 := fun w => by kernel_rfl
theorem Znc : X3 Tryz.prog 91 := fun w => by kernel_rfl
theorem Zkb : Zj Tryz.prog 72 := Zp Tryz.func72 rfl rfl
theorem Zef : Zil Tryz.prog 70 [.lit (.map none)] := ⟨(.map none), fun w => by kernel_rfl, fun S w => (show RdL S w [.lit (.map none)] [.map none] from ⟨.lit _ True.intro, trivial⟩)⟩
theorem Zeq : X1 Tryz.prog 70 1 := fun w => by kernel_rfl
theorem Ziy : Zil Tryz.prog 91 [.lit .nilFunc] := ⟨(.nilFunc), fun w => by kernel_rfl, fun S w => (show RdL S w [.lit .nilFunc] [.nilFunc] from ⟨.lit _ True.intro, trivial⟩)⟩
theorem ZiN : X1 Tryz.prog 91 1 := fun w => by kernel_rfl
theorem ZoK : Zj Tryz.prog 26 := Zp Tryz.func26 rfl rfl
theorem Zcy : Zj Tryz.prog 43 := Zp Tryz.func43 rfl rfl
theorem ZcW : Tryz.prog.underlying 44 = some (.slice 28) := by kernel_rfl
theorem Zki : Zj Tryz.prog 24 := Zp Tryz.func24 rfl rfl
theorem Zcx : Zj Tryz.prog 47 := Zp Tryz.func47 rfl rfl
theorem ZoN : Zj Tryz.prog 15 := Zp Tryz.func15 rfl rfl
theorem ZhW : ZoX Tryz.prog 96 4 1 (.bool false) := makeT (by kernel_rfl) (by kernel_rfl) rfl True.intro
theorem Qz : Yi Tryz.prog 96 4 1 := ⟨by kernel_rfl, fun w => by kernel_rfl⟩
theorem Zgw : X1 Tryz.prog 4 1 := fun w => by kernel_rfl
theorem Zoz : Zj Tryz.prog 49 := Zp Tryz.func49 rfl rfl
theorem Zia : YD Tryz.prog 66 0 0 := fun b off w => by kernel_rfl
theorem Zox : Zj Tryz.prog 56 := Zp Tryz.func56 rfl rfl
theorem Zii : Zkq Tryz.prog 66 := fun x y z ad k cap => by kernel_rfl
theorem ZiQ : X1 Tryz.prog 28 1 := fun w => by kernel_rfl
theorem ZbM : Zd9 Tryz.prog 9 1 := ⟨(.string ⟨#[]⟩), fun w => by kernel_rfl, rfl, by simp [Value.cells, Value.oneCell']⟩
theorem Zij : Zkr Tryz.prog 59 := fun s b ad ad' k c k' c' => by kernel_rfl
theorem ZdY : Zj Tryz.prog 70 := Zp Tryz.func70 rfl rfl
theorem Zfu : Zil Tryz.prog 25 [.sl [], .sl [], .sl []] := ⟨(.agg #[.slice none 0 0, .slice none 0 0, .slice none 0 0]), fun w => by kernel_rfl, fun S w => (show RdL S w [.sl [], .sl [], .sl []] [.slice none 0 0, .slice none 0 0, .slice none 0 0] from ⟨.nil _ _ (Nat.zero_le _), .nil _ _ (Nat.zero_le _), .nil _ _ (Nat.zero_le _), trivial⟩)⟩
theorem Zik : Zks Tryz.prog 25 := fun ad ad' k c k' c' => by kernel_rfl
theorem ZiR : X1 Tryz.prog 25 3 := fun w => by kernel_rfl
theorem ZoA : Zj Tryz.prog 42 := Zp Tryz.func42 rfl rfl
theorem ZkA : ZoZ Tryz.prog 25 3 := ⟨(#[.slice none 0 0, .slice none 0 0, .slice none 0 0]), rfl, by kernel_rfl⟩
theorem ZoM : Zj Tryz.prog 23 := Zp Tryz.func23 rfl rfl
theorem ZdZ : Zj Tryz.prog 14 := Zp Tryz.func14 rfl rfl
theorem ZoB : Zj Tryz.prog 41 := Zp Tryz.func41 rfl rfl
theorem ZoC : Zj Tryz.prog 40 := Zp Tryz.func40 rfl rfl
theorem call_8 : Zj Tryz.prog 8 := Zp Tryz.func8 rfl rfl
theorem Znk : Zj Tryz.prog 9 := Zp Tryz.func9 rfl rfl
theorem Zov : Zj Tryz.prog 60 := Zp Tryz.func60 rfl rfl
theorem ZoJ : Zj Tryz.prog 27 := Zp Tryz.func27 rfl rfl
theorem Zoq : Zj Tryz.prog 78 := Zp Tryz.func78 rfl rfl
theorem Zow : Zj Tryz.prog 59 := Zp Tryz.func59 rfl rfl
theorem Ziz : Zil Tryz.prog 62 [.lit (.pointer none)] := ⟨(.pointer none), fun w => by kernel_rfl, fun S w => (show RdL S w [.lit (.pointer none)] [.pointer none] from ⟨.lit _ True.intro, trivial⟩)⟩
theorem ZiO : X1 Tryz.prog 62 1 := fun w => by kernel_rfl
theorem Zkh : Zj Tryz.prog 57 := Zp Tryz.func57 rfl rfl
theorem Zkf : Zj Tryz.prog 66 := Zp Tryz.func66 rfl rfl
theorem ZoL : Zj Tryz.prog 25 := Zp Tryz.func25 rfl rfl
set_option maxRecDepth 100000 in
theorem tb_one : ∀ t ∈ [3, 4, 5, 9, 22, 23, 28, 44, 56, 57, 62, 70, 91, 97, 99, 100, 101, 107], X3 Tryz.prog t := by
  intro t h
  simp only [List.mem_cons, List.not_mem_nil, or_false] at h
  rcases h with rfl | rfl | rfl | rfl | rfl | rfl | rfl | rfl | rfl | rfl | rfl | rfl | rfl | rfl | rfl | rfl | rfl | rfl <;> exact fun w => by kernel_rfl
set_option maxRecDepth 100000 in
theorem tb_agg : ∀ q ∈ [(25, 3), (59, 8), (109, 3), (112, 2), (148, 2), (156, 4), (198, 4)], X2 Tryz.prog q.1 q.2 := by
  intro q h
  simp only [List.mem_cons, List.not_mem_nil, or_false] at h
  rcases h with rfl | rfl | rfl | rfl | rfl | rfl | rfl <;> exact ⟨fun w => by kernel_rfl, fun w => by kernel_rfl⟩
set_option maxRecDepth 100000 in
theorem tb_fld : ∀ q ∈ [(25, 0, 0), (25, 1, 1), (25, 2, 2), (59, 0, 0), (59, 1, 1), (59, 2, 2), (59, 3, 3), (59, 4, 4), (59, 5, 5), (59, 6, 6), (59, 7, 7), (66, 0, 0), (66, 1, 3), (103, 0, 0), (103, 1, 1), (103, 2, 2), (103, 3, 3), (103, 4, 4), (109, 0, 0), (109, 1, 1), (109, 2, 2), (112, 0, 0), (112, 1, 1), (148, 0, 0), (148, 1, 1), (156, 0, 0), (156, 1, 1), (156, 2, 2), (156, 3, 3), (198, 0, 0), (198, 1, 1), (198, 2, 2), (198, 3, 3)], YD Tryz.prog q.1 q.2.1 q.2.2 := by
  intro q h
  simp only [List.mem_cons, List.not_mem_nil, or_false] at h
  rcases h with rfl | rfl | rfl | rfl | rfl | rfl | rfl | rfl | rfl | rfl | rfl | rfl | rfl | rfl | rfl | rfl | rfl | rfl | rfl | rfl | rfl | rfl | rfl | rfl | rfl | rfl | rfl | rfl | rfl | rfl | rfl | rfl | rfl <;> exact fun b off w => by kernel_rfl
def tb : Tbl Tryz.prog where
  one := ZnZ [3, 4, 5, 9, 22, 23, 28, 44, 56, 57, 62, 70, 91, 97, 99, 100, 101, 107]
  agg := lk1 [(25, 3), (59, 8), (109, 3), (112, 2), (148, 2), (156, 4), (198, 4)]
  fld := lk2 [(25, 0, 0), (25, 1, 1), (25, 2, 2), (59, 0, 0), (59, 1, 1), (59, 2, 2), (59, 3, 3), (59, 4, 4), (59, 5, 5), (59, 6, 6), (59, 7, 7), (66, 0, 0), (66, 1, 3), (103, 0, 0), (103, 1, 1), (103, 2, 2), (103, 3, 3), (103, 4, 4), (109, 0, 0), (109, 1, 1), (109, 2, 2), (112, 0, 0), (112, 1, 1), (148, 0, 0), (148, 1, 1), (156, 0, 0), (156, 1, 1), (156, 2, 2), (156, 3, 3), (198, 0, 0), (198, 1, 1), (198, 2, 2), (198, 3, 3)]
  h1 := fun t h => tb_one t (Zhb h)
  h2 := fun t k h => tb_agg (t, k + 1) (ZjB h)
  h3 := fun s f d h => tb_fld (s, f, d) (ZjA h)
  mix := YJ

end Go.Proofs.YtnpgmdffjemnbaaGreatDoor
set_option maxHeartbeats 8000000
set_option maxRecDepth 100000
namespace Go.Proofs.YtnpgmdffjemnbaaGreatDoor
open Go.RowKit

theorem Zak {J : World → Prop} (hJ : Stab J) (xs : List ByteArray) (s : ByteArray)  : Fn Tryz.prog J 105 [.rd (Zf xs), .str s] (.bool (decide (s ∈ xs))) := by
 refine Zn (N := 18) Tryz.func105 rfl rfl (lb rfl) fun S w0 hS hJ0 => ?_
 clear hJ0
 refine ln 0 fun hl1 => ?_
 refine qs tb hJ [0,1] [_] [_,_] ?_
 refine Zd (qs tb hJ [0,1,1000] [_] [_,_,_] ?_)
 refine Zb (lp (ι := Nat) (fun k => (k ≤ xs.length) ∧ (∀ j, j < k → ge xs j ≠ s)) (fun k => [(5, .int (k : Nat))]) (fun k => xs.length - k) [0,1,2] [_,_] 0 (show (0 ≤ xs.length) ∧ (∀ j, j < 0 → ge xs j ≠ s) from by first | trivial | grind) ?_)
 rintro k ⟨f1_1, f1_2⟩
 refine Zd (hqs tb hJ [0,1,2,1003] [_,_,.int (xs.length : Nat),_] [2] [_,_,_,_] rfl ⟨ZZ Zr, trivial⟩ ?_)
 refine cj 3 (fun hb1 => ?_) fun hb1 => ?_
 try simp at hb1
 refine Za (nx (Zd (Zb (hqs tb hJ [0,1,2,1005] [_,_,.ptr [.lit (.string (ge xs k))],_,_,_] [2] [_,_,_,_] rfl ⟨iIx Zh, trivial⟩ ?_))))
 refine cj 3 (fun hb2 => ?_) fun hb2 => ?_
 try simp at hb2
 refine qs tb hJ [1000] [_] [_] ?_
 exact Ze (rtn (m := 0) rfl rfl (eB (by grind [Zg])))
 try simp at hb2
 refine Za (nx (hqp tb hJ [0,1,1002] [_,.int (k + 1 : Nat),_] [1] [_,_,_] rfl ⟨Z2, trivial⟩ ?_))
 exact lpE (k + 1) [0,1,2] ⟨by first | omega | (simp; omega) | grind [Zg], by first | omega | (simp; omega) | grind [Zg]⟩
 try simp at hb1
 refine Zl (nx (qs tb hJ [1000] [_] [_] ?_))
 exact Ze (rtn (m := 0) rfl rfl (eB (by grind [Y6])))
theorem ZoQ {J : World → Prop} (hJ : Stab J) (xs : List Int) (n : Int)  : Fn Tryz.prog J 46 [.rd (ZJ xs), .int n] (.bool (decide (n ∈ xs))) := by
 refine Zn (N := 18) Tryz.func46 rfl rfl (lb rfl) fun S w0 hS hJ0 => ?_
 clear hJ0
 refine ln 0 fun hl1 => ?_
 refine qs tb hJ [0,1] [_] [_,_] ?_
 refine Zd (qs tb hJ [0,1,1000] [_] [_,_,_] ?_)
 refine Zb (lp (ι := Nat) (fun k => (k ≤ xs.length) ∧ (∀ j, j < k → ge xs j ≠ n)) (fun k => [(5, .int (k : Nat))]) (fun k => xs.length - k) [0,1,2] [_,_] 0 (show (0 ≤ xs.length) ∧ (∀ j, j < 0 → ge xs j ≠ n) from by first | trivial | grind) ?_)
 rintro k ⟨f1_1, f1_2⟩
 refine Zd (hqs tb hJ [0,1,2,1003] [_,_,.int (xs.length : Nat),_] [2] [_,_,_,_] rfl ⟨ZZ Ym, trivial⟩ ?_)
 refine cj 3 (fun hb1 => ?_) fun hb1 => ?_
 try simp at hb1
 refine Za (nx (Zd (Zb (hqs tb hJ [0,1,2,1005] [_,_,.ptr [.lit (.int .i64 (ge xs k))],_,_,_] [2] [_,_,_,_] rfl ⟨iIx Zq, trivial⟩ ?_))))
 refine cj 3 (fun hb2 => ?_) fun hb2 => ?_
 try simp at hb2
 refine qs tb hJ [1000] [_] [_] ?_
 exact Ze (rtn (m := 0) rfl rfl (eB (by grind [Zg])))
 try simp at hb2
 refine Za (nx (hqp tb hJ [0,1,1002] [_,.int (k + 1 : Nat),_] [1] [_,_,_] rfl ⟨Z2, trivial⟩ ?_))
 exact lpE (k + 1) [0,1,2] ⟨by first | omega | (simp; omega) | grind [Zg], by first | omega | (simp; omega) | grind [Zg]⟩
 try simp at hb1
 refine Zl (nx (qs tb hJ [1000] [_] [_] ?_))
 exact Ze (rtn (m := 0) rfl rfl (eB (by grind [Y6])))
theorem Zgb {J : World → Prop} (hJ : Stab J) (xs : List ByteArray) (ys : List ByteArray)  : Fn Tryz.prog J 164 [.rd (Zf xs), .rd (Zf ys)] (.bool (decide (xs = ys))) := by
 refine Zn (N := 26) Tryz.func164 rfl rfl (lb rfl) fun S w0 hS hJ0 => ?_
 clear hJ0
 refine ln 0 fun hl1 => ?_
 refine ln 1 fun hl2 => ?_
 refine qs tb hJ [0,1] [_] [_,_] ?_
 refine Zd (hqs tb hJ [0,1,1004] [_,.int (xs.length : Nat),_,.int (ys.length : Nat),_] [1,3] [_,_,_] rfl ⟨ZZ Zr, ZZ Zr, trivial⟩ ?_)
 refine cj 2 (fun hb1 => ?_) fun hb1 => ?_
 try simp at hb1
 refine qs tb hJ [1000] [_] [_] ?_
 exact Ze (rtn (m := 0) rfl rfl (eB (by first | rfl | grind [Zg])))
 try simp at hb1
 refine Za (nx (Zd (qs tb hJ [0,1,1000] [_] [_,_,_] ?_)))
 refine Zb (lp (ι := Nat) (fun k => (k ≤ xs.length) ∧ (∀ j, j < k → ge xs j = ge ys j)) (fun k => [(5, .int (k : Nat))]) (fun k => xs.length - k) [0,1,2] [_,_] 0 (show (0 ≤ xs.length) ∧ (∀ j, j < 0 → ge xs j = ge ys j) from by first | trivial | grind) ?_)
 rintro k ⟨f1_1, f1_2⟩
 refine Zd (hqs tb hJ [0,1,2,1003] [_,_,.int (xs.length : Nat),_] [2] [_,_,_,_] rfl ⟨ZZ Zr, trivial⟩ ?_)
 refine cj 3 (fun hb2 => ?_) fun hb2 => ?_
 try simp at hb2
 refine Za (nx (Zd (Zb (hqs tb hJ [0,1,2,1008] [_,_,.ptr [.lit (.string (ge xs k))],_,_,_,.ptr [.lit (.string (ge ys k))],_,_] [2,6] [_,_,_,_] rfl ⟨iIx Zh, iIx Zh, trivial⟩ ?_))))
 refine cj 3 (fun hb3 => ?_) fun hb3 => ?_
 try simp at hb3
 refine qs tb hJ [1000] [_] [_] ?_
 exact Ze (rtn (m := 0) rfl rfl (eB (by first | rfl | grind [Zg])))
 try simp at hb3
 refine Za (nx (hqp tb hJ [0,1,1002] [_,.int (k + 1 : Nat),_] [1] [_,_,_] rfl ⟨Z2, trivial⟩ ?_))
 exact lpE (k + 1) [0,1,2] ⟨by first | omega | (simp; omega) | grind [Zg], by first | omega | (simp; omega) | grind [Zg]⟩
 try simp at hb2
 refine Zl (nx (qs tb hJ [1000] [_] [_] ?_))
 exact Ze (rtn (m := 0) rfl rfl (eB (by have := XX (xs := xs) (ys := ys) (by omega) (fun j hj => f1_2 j (by omega)); simp [this])))
theorem Zcz {J : World → Prop} (hJ : Stab J) (xs : List Pr) (ys : List Pr)  : Fn Tryz.prog J 138 [.rd (YI xs), .rd (YI ys)] (.bool (decide (xs = ys))) := by
 refine Zn (N := 26) Tryz.func138 rfl rfl (lb rfl) fun S w0 hS hJ0 => ?_
 clear hJ0
 refine ln 0 fun hl1 => ?_
 refine ln 1 fun hl2 => ?_
 refine qs tb hJ [0,1] [_] [_,_] ?_
 refine Zd (hqs tb hJ [0,1,1004] [_,.int (xs.length : Nat),_,.int (ys.length : Nat),_] [1,3] [_,_,_] rfl ⟨ZZ ZY, ZZ ZY, trivial⟩ ?_)
 refine cj 2 (fun hb1 => ?_) fun hb1 => ?_
 try simp at hb1
 refine qs tb hJ [1000] [_] [_] ?_
 exact Ze (rtn (m := 0) rfl rfl (eB (by first | rfl | grind [Zg])))
 try simp at hb1
 refine Za (nx (Zd (qs tb hJ [0,1,1000] [_] [_,_,_] ?_)))
 refine Zb (lp (ι := Nat) (fun k => (k ≤ xs.length) ∧ (∀ j, j < k → ZcJ (ge xs j) (ge ys j) = true)) (fun k => [(5, .int (k : Nat))]) (fun k => xs.length - k) [0,1,2] [_,_] 0 (show (0 ≤ xs.length) ∧ (∀ j, j < 0 → ZcJ (ge xs j) (ge ys j) = true) from by first | trivial | grind) ?_)
 rintro k ⟨f1_1, f1_2⟩
 refine Zd (hqs tb hJ [0,1,2,1003] [_,_,.int (xs.length : Nat),_] [2] [_,_,_,_] rfl ⟨ZZ ZY, trivial⟩ ?_)
 refine cj 3 (fun hb2 => ?_) fun hb2 => ?_
 try simp at hb2
 refine Za (nx (Zd (Zb (hqs tb hJ [0,1,2,1008] [_,_,.ptr (prC (ge xs k)),_,_,_,.ptr (prC (ge ys k)),_,.bool (!(decide ((ge xs k).a = (ge ys k).a) && decide ((ge xs k).b = (ge ys k).b)))] [2,6,8] [_,_,_,_] rfl ⟨iIx Zv, iIx Zv, fun _ _ _ hx hl _ => ZiZ ZjW rfl (hl.dep 3 20 _ rfl rfl rfl rfl) (hl.dep 7 24 _ rfl rfl rfl rfl) hx, trivial⟩ ?_))))
 refine cj 3 (fun hb3 => ?_) fun hb3 => ?_
 try simp at hb3
 refine qs tb hJ [1000] [_] [_] ?_
 exact Ze (rtn (m := 0) rfl rfl (eB (by symm; rw [decide_eq_false_iff_not]; intro e; subst e; simp at hb3)))
 try simp at hb3
 refine Za (nx (hqp tb hJ [0,1,1002] [_,.int (k + 1 : Nat),_] [1] [_,_,_] rfl ⟨Z2, trivial⟩ ?_))
 exact lpE (k + 1) [0,1,2] ⟨by first | omega | (intro j hj; by_cases e : j = k; (subst e; simp [ZcJ, hb3]); exact f1_2 j (by omega)), by first | omega | (intro j hj; by_cases e : j = k; (subst e; simp [ZcJ, hb3]); exact f1_2 j (by omega))⟩
 try simp at hb2
 refine Zl (nx (qs tb hJ [1000] [_] [_] ?_))
 exact Ze (rtn (m := 0) rfl rfl (eB (by have := XX (xs := xs) (ys := ys) (by omega) (fun j hj => prEq_iff.1 (f1_2 j (by omega))); simp [this])))
theorem Zge {J : World → Prop} (hJ : Stab J) (c : UInt8)  : Fn Tryz.prog J 163 [.rd (.lit (.int .u8 (c.toNat : Int)))] (.bool (QF c)) := by
 refine Zn (N := 9) Tryz.func163 rfl rfl (lb rfl) fun S w0 hS hJ0 => ?_
 clear hJ0
 refine qs tb hJ [0] [_] [_] ?_
 refine qs tb hJ [1006] [_,_,_,_,_,_,_] [_] ?_
 exact Ze (rtn (m := 0) rfl rfl (eB (by first | rfl | grind [Zg])))
theorem ZmH {J : World → Prop} (hJ : Stab J) (s : ByteArray)  : Fn Tryz.prog J 133 [.str s] (.bool (Zdr s)) := by
 refine Zn (N := 17) Tryz.func133 rfl rfl (lb rfl) fun S w0 hS hJ0 => ?_
 clear hJ0
 refine lnS 0 fun hl1 => ?_
 refine qs tb hJ [0] [_] [_] ?_
 refine Zd (qs tb hJ [0,1000] [_] [_,_] ?_)
 refine Zb (lp (ι := Nat) (fun k => (k ≤ s.size) ∧ (∀ j, j < k → QF (bt s j) = true)) (fun k => [(3, .int (k : Nat))]) (fun k => s.size - k) [0,1] [_] 0 (show (0 ≤ s.size) ∧ (∀ j, j < 0 → QF (bt s j) = true) from by first | trivial | grind) ?_)
 rintro k ⟨f1_1, f1_2⟩
 refine Zd (hqs tb hJ [0,1,1003] [_,_,.int (s.size : Nat),_] [2] [_,_,_] rfl ⟨Zfo Zz, trivial⟩ ?_)
 refine cj 2 (fun hb1 => ?_) fun hb1 => ?_
 try simp at hb1
 refine Za (nx (Zd (Zb (hqs tb hJ [0,1,1004] [_,_,.rd (.lit (.int .u8 ((ge s.data.toList k).toNat : Int))),.bool (QF (ge s.data.toList k)),_] [2,3] [_,_,_] rfl ⟨fun _ _ _ hx hl _ => Zez (i := (k : Int)) Zz rfl (hl.dep 0 10 _ rfl rfl rfl rfl) (hl.dep 1 11 _ rfl rfl rfl rfl) (Int.natCast_nonneg _) (ZaV (s := s) (k := k) (by first | omega | (simp; omega) | grind [Zg])) hx, iFn hS hJ (Zge hJ (c := (ge s.data.toList k)) ) Zl4, trivial⟩ ?_))))
 refine cj 2 (fun hb2 => ?_) fun hb2 => ?_
 try simp at hb2
 refine qs tb hJ [1000] [_] [_] ?_
 exact Ze (rtn (m := 0) rfl rfl (eB ((Zkz hb1 hb2).symm)))
 try simp at hb2
 refine Za (nx (hqp tb hJ [0,1002] [_,.int (k + 1 : Nat),_] [1] [_,_] rfl ⟨Z2, trivial⟩ ?_))
 exact lpE (k + 1) [0,1] ⟨by omega, ZH f1_2 hb2⟩
 try simp at hb1
 refine Zl (nx (qs tb hJ [1002] [_,_,_] [_] ?_))
 exact Ze (rtn (m := 0) rfl rfl (eB ((Ziu fun j hj => f1_2 j (by omega)).symm)))
theorem Zdm {J : World → Prop} (hJ : Stab J) (s : ByteArray)  : Fn Tryz.prog J 104 [.str s] (.bool (Zdt s)) := by
 refine Zn (N := 21) Tryz.func104 rfl rfl (lb rfl) fun S w0 hS hJ0 => ?_
 clear hJ0
 refine lnS 0 fun hl1 => ?_
 refine qs tb hJ [0] [_] [_] ?_
 refine Zd (qs tb hJ [0,1000] [_] [_,_] ?_)
 refine Zb (lp (ι := Nat) (fun k => (k ≤ s.size) ∧ (∀ j, j < k → ¬ ((bt s j).toNat : Int) = 36)) (fun k => [(3, .int (k : Nat))]) (fun k => s.size - k) [0,1] [_] 0 (show (0 ≤ s.size) ∧ (∀ j, j < 0 → ¬ ((bt s j).toNat : Int) = 36) from by first | trivial | grind) ?_)
 rintro k ⟨f1_1, f1_2⟩
 refine Zd (hqs tb hJ [0,1,1003] [_,_,.int (s.size : Nat),_] [2] [_,_,_] rfl ⟨Zfo Zz, trivial⟩ ?_)
 refine cj 2 (fun hb1 => ?_) fun hb1 => ?_
 try simp at hb1
 refine Za (nx (Zd (Zb (hqs tb hJ [0,1,1003] [_,_,.rd (.lit (.int .u8 ((ge s.data.toList k).toNat : Int))),_] [2] [_,_,_] rfl ⟨fun _ _ _ hx hl _ => Zez (i := (k : Int)) Zz rfl (hl.dep 0 10 _ rfl rfl rfl rfl) (hl.dep 1 11 _ rfl rfl rfl rfl) (Int.natCast_nonneg _) (ZaV (s := s) (k := k) (by first | omega | (simp; omega) | grind [Zg])) hx, trivial⟩ ?_))))
 refine cj 2 (fun hb2 => ?_) fun hb2 => ?_
 try simp at hb2
 refine qs tb hJ [1000] [_] [_] ?_
 exact Ze (rtn (m := 0) rfl rfl (eB ((Znw hb1 hb2).symm)))
 try simp at hb2
 refine Za (nx (hqp tb hJ [0,1002] [_,.int (k + 1 : Nat),_] [1] [_,_] rfl ⟨Z2, trivial⟩ ?_))
 exact lpE (k + 1) [0,1] ⟨by omega, ZH f1_2 hb2⟩
 try simp at hb1
 refine Zl (nx (hqs tb hJ [1007] [_,.bool (Zdr s),_,_,.int (s.size : Nat),_,_,_] [1,4] [_] rfl ⟨iFn hS hJ (ZmH hJ (s := s) ) Zmj, Zfo Zz, trivial⟩ ?_))
 exact Ze (rtn (m := 0) rfl rfl (eB ((ZkH fun j hj => f1_2 j (by omega)).symm)))
theorem ZcA {J : World → Prop} (hJ : Stab J) (s : ByteArray)  : Fn Tryz.prog J 106 [.str s] (.bool (Zbn s)) := by
 refine Zn (N := 58) Tryz.func106 rfl rfl (lb rfl) fun S w0 hS hJ0 => ?_
 clear hJ0
 refine lnS 0 fun hl1 => ?_
 refine qs tb hJ [0] [_] [_] ?_
 refine Zd (qs tb hJ [0,1000] [_] [_,_] ?_)
 refine Zb (lp (ι := Nat) (fun k => (k ≤ s.size) ∧ (∀ j, j < k → Zio (bt s j) = false)) (fun k => [(3, .int (k : Nat))]) (fun k => s.size - k) [0,1] [_] 0 (show (0 ≤ s.size) ∧ (∀ j, j < 0 → Zio (bt s j) = false) from by first | trivial | grind) ?_)
 rintro k ⟨f1_1, f1_2⟩
 refine Zd (hqs tb hJ [0,1,1003] [_,_,.int (s.size : Nat),_] [2] [_,_,_] rfl ⟨Zfo Zz, trivial⟩ ?_)
 refine cj 2 (fun hb1 => ?_) fun hb1 => ?_
 try simp at hb1
 refine Za (nx (Zd (Zb (hqs tb hJ [0,1,1003] [_,_,.rd (.lit (.int .u8 ((ge s.data.toList k).toNat : Int))),_] [2] [_,_,_] rfl ⟨fun _ _ _ hx hl _ => Zez (i := (k : Int)) Zz rfl (hl.dep 0 12 _ rfl rfl rfl rfl) (hl.dep 1 13 _ rfl rfl rfl rfl) (Int.natCast_nonneg _) (ZaV (s := s) (k := k) (by first | omega | (simp; omega) | grind [Zg])) hx, trivial⟩ ?_))))
 refine qs tb hJ [0,1,2,1014] [_,_,_,_,_,_,_,_,_,_,_,_,_,_,_] [_,_,_,_] ?_
 refine qs tb hJ [0,1,1021] [_,_,_,_,_,_,_,_,_,_,_,_,_,_,_,_,_,_,_,_,_,_] [_,_,_] ?_
 refine cj 2 (fun hb2 => ?_) fun hb2 => ?_
 refine qs tb hJ [1000] [_] [_] ?_
 exact Ze (rtn (m := 0) rfl rfl (eB ((ZnX hb1 hb2).symm)))
 refine Za (nx (hqp tb hJ [0,1002] [_,.int (k + 1 : Nat),_] [1] [_,_] rfl ⟨Z2, trivial⟩ ?_))
 exact lpE (k + 1) [0,1] ⟨by omega, ZH f1_2 hb2⟩
 try simp at hb1
 refine Zl (nx (hqs tb hJ [1007] [_,_,_,_,.int (s.size : Nat),_,_,_] [4] [_] rfl ⟨Zfo Zz, trivial⟩ ?_))
 exact Ze (rtn (m := 0) rfl rfl (eB ((ZlG fun j hj => f1_2 j (by omega)).symm)))
end Go.Proofs.YtnpgmdffjemnbaaGreatDoor
set_option maxHeartbeats 8000000
set_option maxRecDepth 100000
namespace Go.Proofs.YtnpgmdffjemnbaaGreatDoor
open Go.RowKit

theorem ZmI {J : World → Prop} (hJ : Stab J) (f : Fr) (b : (f.hyps.length + f.dummies.length) * 48 ≤ 140737488351232) : Fn Tryz.prog J 109 [.agg (frC f)] (.rd (YC (f.hyps ++ f.dummies))) := by
 refine Zn (N := 10) Tryz.func109 rfl rfl (lb rfl) fun S w0 hS hJ0 => ?_
 refine tw Yb ?_
 refine ZC tb hJ [1000] [.ptr (frC f),_] [0] [_] rfl ⟨fun _ _ hk hx hl _ => Yk rfl (hl.env 0 0 _ rfl rfl) (Zo hS _ hk hx _ (Nat.le_refl _)) (jo hJ hx), trivial⟩ ?_
 refine Zd (fun a w h => X6 (id := 1) (t := 56) (e := 109) (size := 3) (bytes := 48) (i0 := 0) (fol := 7) (d := 2) (ch := [(3, (f.hyps.map hyC)), (6, (f.dummies.map hyC))]) (fun ix' => ([.any, .ptr [YC f.hyps, YI f.apart, Zf f.text, YC f.dummies, YI f.wide, Zf f.proof], .rd (YC f.hyps), .any, .ptr [YC f.dummies, YI f.wide, Zf f.proof], .rd (YC f.dummies), .any, .any] : List AV).getD ix' .any) (fun ix' => ([true, true, true, true, true, true, true, true] : List Bool).getD ix' true) [] ((f.hyps ++ f.dummies).map hyC) (by simp) ?r1_1 hJ hJ0 h YJ rfl rfl rfl rfl ⟨?o1_1_0, ⟨?o1_1_1, ⟨?o1_1_2, ⟨?o1_1_3, ⟨?o1_1_4, ⟨?o1_1_5, ⟨?o1_1_6, ⟨?o1_1_7, trivial⟩⟩⟩⟩⟩⟩⟩⟩ trivial (fun v1 => ?n1_1))
 case r1_1 =>
  refine Row.mk' Xj ⟨_, rfl, rfl, rfl, rfl, rfl⟩ ⟨?x1_1_0, ⟨?x1_1_1, trivial⟩⟩ ⟨_, _, _, _, rfl, rfl, rfl, rfl, rfl, rfl, rfl, rfl, rfl⟩ rfl rfl rfl
  case x1_1_0 => exact ⟨_, _, _, _, rfl, rfl, rfl, rfl, rfl, rfl, rfl, rfl, YX (f := hyC) (fun _ => rfl), (by have hm : maxLen = 9223372036854775807 := rfl; simp [upto]; first | omega | (simp; omega) | grind [Zg]), (by have hm : maxLen = 9223372036854775807 := rfl; simp [upto]; first | omega | (simp; omega) | grind [Zg]), fun _ _ _ _ _ hl => (hl.dep 2 5 _ rfl rfl rfl rfl)⟩
  case x1_1_1 => exact ⟨_, _, _, _, rfl, rfl, rfl, rfl, rfl, rfl, rfl, rfl, YX (f := hyC) (fun _ => rfl), (by have hm : maxLen = 9223372036854775807 := rfl; simp [upto]; first | omega | (simp; omega) | grind [Zg]), (by have hm : maxLen = 9223372036854775807 := rfl; simp [upto]; first | omega | (simp; omega) | grind [Zg]), fun _ _ _ _ _ hl => (hl.dep 5 8 _ rfl rfl rfl rfl)⟩
 case o1_1_0 => exact fun h => Zk rfl h
 case o1_1_1 => exact fun _ _ => ⟨rfl, fun _ _ _ hx hl _ => ZW Zdh rfl (hl.env 0 1 _ rfl rfl) hx⟩
 case o1_1_2 => exact fun _ _ => ⟨rfl, fun _ _ _ hx hl _ => ZO Zjo rfl (hl.dep 1 4 _ rfl rfl rfl rfl) hx⟩
 case o1_1_3 => exact fun h => Zk rfl h
 case o1_1_4 => exact fun _ _ => ⟨rfl, fun _ _ _ hx hl _ => ZW Zib rfl (hl.env 0 1 _ rfl rfl) hx⟩
 case o1_1_5 => exact fun _ _ => ⟨rfl, fun _ _ _ hx hl _ => ZO Zjo rfl (hl.dep 4 7 _ rfl rfl rfl rfl) hx⟩
 case o1_1_6 => exact fun h => Zk rfl h
 case o1_1_7 => exact fun h => Zk rfl h
 clear a w h
 refine nx (tw (fun h => ZB hS h (m := 0) (s := 2) rfl) ?_)
 exact Ze (Y2 (m := 0) rfl rfl rfl)
theorem Zkl {J : World → Prop} (hJ : Stab J) (s : ByteArray)  : Fn Tryz.prog J 113 [.str s] (.bool (Yz s)) := by
 refine Zn (N := 31) Tryz.func113 rfl rfl (lb rfl) fun S w0 hS hJ0 => ?_
 clear hJ0
 refine lnS 0 fun hl1 => ?_
 refine qs tb hJ [0] [_] [_] ?_
 refine Zd (qs tb hJ [0,1005] [_,_,_,_,_,_] [_,_] ?_)
 refine cj 1 (fun hb1 => ?_) fun hb1 => ?_
 try simp at hb1
 refine qs tb hJ [1000] [_] [_] ?_
 exact Ze (rtn (m := 0) rfl rfl (eB ((ZhR hb1).symm)))
 try simp at hb1
 refine Za (nx (Zd (qs tb hJ [0,1000] [_] [_,_] ?_)))
 refine Zb (lp (ι := Nat) (fun k => (k ≤ s.size) ∧ (∀ j, j < k → Zkv s j = false)) (fun k => [(3, .int (k : Nat))]) (fun k => s.size - k) [0,1] [_] 0 (show (0 ≤ s.size) ∧ (∀ j, j < 0 → Zkv s j = false) from by first | trivial | grind) ?_)
 rintro k ⟨f1_1, f1_2⟩
 refine Zd (hqs tb hJ [0,1,1003] [_,_,.int (s.size : Nat),_] [2] [_,_,_] rfl ⟨Zfo Zz, trivial⟩ ?_)
 refine cj 2 (fun hb2 => ?_) fun hb2 => ?_
 try simp at hb2
 refine Za (nx (Zd (Zb (hqs tb hJ [0,1,1012] [_,_,.rd (.lit (.int .u8 ((ge s.data.toList k).toNat : Int))),_,_,_,_,_,.int (k + 1 : Nat),.str (s.extract k (k + 1)),.bool (Zbn (s.extract k (k + 1))),_,_] [2,8,9,10] [_,_,_] rfl ⟨fun _ _ _ hx hl _ => Zez (i := (k : Int)) Zz rfl (hl.dep 0 16 _ rfl rfl rfl rfl) (hl.dep 1 17 _ rfl rfl rfl rfl) (Int.natCast_nonneg _) (ZaV (s := s) (k := k) (by first | omega | (simp; omega) | grind [Zg])) hx, fun _ _ _ hx hl hc => r_add (i := (k : Int)) (j := (1 : Int)) rfl (hl.dep 7 23 _ rfl rfl rfl hc) (Rel.of_lit (Go.Value.int Go.IntKind.i64 1)) (by have hc' : ((!decide (((ge s.data.toList k).toNat : Int) = (63 : Int))) == true) = true := hc; (try simp at hc'); (first | omega | (simp; omega) | grind [Zg])) (by have hc' : ((!decide (((ge s.data.toList k).toNat : Int) = (63 : Int))) == true) = true := hc; (try simp at hc'); (first | omega | (simp; omega) | grind [Zg])) hx, fun _ _ _ hx hl hc => Zdz (lo := k) (hi := k + 1) Zz rfl (hl.dep 5 21 _ rfl rfl rfl hc) (hl.dep 6 22 _ rfl rfl rfl hc) (hl.dep 8 24 _ rfl rfl rfl hc) (by have hc' : ((!decide (((ge s.data.toList k).toNat : Int) = (63 : Int))) == true) = true := hc; (try simp at hc'); (first | omega | (simp; omega) | grind [Zg])) (by have hc' : ((!decide (((ge s.data.toList k).toNat : Int) = (63 : Int))) == true) = true := hc; (try simp at hc'); (first | omega | (simp; omega) | grind [Zg])) hx, iFn hS hJ (ZcA hJ (s := (s.extract k (k + 1))) ) Zd2, trivial⟩ ?_))))
 refine cj 2 (fun hb3 => ?_) fun hb3 => ?_
 refine qs tb hJ [1000] [_] [_] ?_
 exact Ze (rtn (m := 0) rfl rfl (eB ((Zjb hb1 hb2 hb3).symm)))
 refine Za (nx (hqp tb hJ [0,1002] [_,.int (k + 1 : Nat),_] [1] [_,_] rfl ⟨Z2, trivial⟩ ?_))
 exact lpE (k + 1) [0,1] ⟨by omega, ZH f1_2 hb3⟩
 try simp at hb2
 refine Zl (nx (qs tb hJ [1002] [_,_,_] [_] ?_))
 exact Ze (rtn (m := 0) rfl rfl (eB ((ZhS hb1 fun j hj => f1_2 j (by omega)).symm)))
theorem c_of {J : World → Prop} (hJ : Stab J) (y : Hy) (vs : List ByteArray)  : Fn Tryz.prog J 134 [.agg (hyC y), .rd (Zf vs)] (.bool (ofB y vs)) := by
 refine Zn (N := 21) Tryz.func134 rfl rfl (lb rfl) fun S w0 hS hJ0 => ?_
 clear hJ0
 refine ln 1 fun hl1 => ?_
 refine hqs tb hJ [1,1000] [.ptr (hyC y),_] [0] [_,_] rfl ⟨fun _ _ hk hx hl _ => Yk rfl (hl.env 0 0 _ rfl rfl) (hS _ hk.size) (js hJ hx), trivial⟩ ?_
 refine hqs tb hJ [1016] [_,_,_,_,_,.int (y.text.length : Nat),_,_,_,_,_,_,.ptr [.lit (.string (ge y.text 1))],_,.bool (decide ((ge y.text 1) ∈ vs)),_,_] [5,12,14] [_] rfl ⟨ZZ Zr, gIx (k := 1) Zh (hk := fun (hc' : ((y.floating && (decide ((y.text.length : Int) = (2 : Int)))) == true) = true) => by (try simp at hc'); first | omega | (simp; omega) | grind [Zg]), iFn hS hJ (Zak hJ (xs := vs) (s := (ge y.text 1)) ) YE, trivial⟩ ?_
 exact Ze (rtn (m := 0) rfl rfl (eB (by first | rfl | grind [Zg])))
theorem ZaT {J : World → Prop} (hJ : Stab J) (x : Hy) (y : Hy)  : Fn Tryz.prog J 135 [.agg (hyC x), .agg (hyC y)] (.bool (Zh4 x y)) := by
 refine Zn (N := 24) Tryz.func135 rfl rfl (lb rfl) fun S w0 hS hJ0 => ?_
 clear hJ0
 refine hqs tb hJ [1000,1001] [.ptr (hyC x),.ptr (hyC y),_] [0,1] [_,_] rfl ⟨fun _ _ hk hx hl _ => Yk rfl (hl.env 0 0 _ rfl rfl) (hS _ hk.size) (js hJ hx), fun _ _ hk hx hl _ => Yk rfl (hl.env 1 1 _ rfl rfl) (hS _ hk.size) (js hJ hx), trivial⟩ ?_
 refine hqs tb hJ [1019] [_,_,_,_,_,_,_,_,_,_,.bool (x.floating == y.floating),_,_,_,_,_,_,.bool (decide (x.text = y.text)),_,_] [10,17] [_] rfl ⟨fun _ _ _ hx hl hc => Zm6 ZmS rfl (hl.dep 7 12 _ rfl rfl rfl hc) (hl.dep 9 14 _ rfl rfl rfl hc) hx, iFn hS hJ (Zgb hJ (xs := x.text) (ys := y.text) ) Zl3, trivial⟩ ?_
 exact Ze (rtn (m := 0) rfl rfl (eB (by first | rfl | grind [Zg])))
theorem Zd3 {J : World → Prop} (hJ : Stab J) (d : Db) (s : ByteArray)  : Fn Tryz.prog J 108 [.agg (dbC d), .str s] (.bool (ZaE d s)) := by
 refine Zn (N := 15) Tryz.func108 rfl rfl (lb rfl) fun S w0 hS hJ0 => ?_
 clear hJ0
 refine hqs tb hJ [1,1000] [.ptr (dbC d),_] [0] [_,_] rfl ⟨fun _ _ hk hx hl _ => Yk rfl (hl.env 0 0 _ rfl rfl) (hS _ hk.size) (js hJ hx), trivial⟩ ?_
 refine hqs tb hJ [1001,1010] [_,_,_,.bool (decide (s ∈ d.consts)),_,_,_,_,.bool (decide (s ∈ d.vars)),_,_] [3,8] [_,_] rfl ⟨iFn hS hJ (Zak hJ (xs := d.consts) (s := s) ) YE, iFn hS hJ (Zak hJ (xs := d.vars) (s := s) ) YE, trivial⟩ ?_
 refine ln 0 fun hl1 => ?_
 exact Ze (rtn (m := 1) rfl rfl (eB (by first | rfl | grind [Zg])))
theorem Zfc {J : World → Prop} (hJ : Stab J) (d : Db) (l : List ByteArray) (h0 : 0 < l.length) : Fn Tryz.prog J 111 [.agg (dbC d), .rd (Zf l)] (.int (QY d l)) := by
 refine Zn (N := 26) Tryz.func111 rfl rfl (lb rfl) fun S w0 hS hJ0 => ?_
 clear hJ0
 refine ln 1 fun hl1 => ?_
 refine hqs tb hJ [1,1000] [.ptr (dbC d),_] [0] [_,_] rfl ⟨fun _ _ hk hx hl _ => Yk rfl (hl.env 0 0 _ rfl rfl) (hS _ hk.size) (js hJ hx), trivial⟩ ?_
 refine Zd (hqs tb hJ [0,1,1001,1006] [_,_,_,.ptr [.lit (.string (ge l 0))],_,.bool (decide ((ge l 0) ∈ d.consts)),_] [3,5] [_,_,_,_] rfl ⟨iIx (k := 0) Zh, iFn hS hJ (Zak hJ (xs := d.consts) (s := (ge l 0)) ) YE, trivial⟩ ?_)
 refine ln 2 fun hl2 => ?_
 refine cj 3 (fun hb1 => ?_) fun hb1 => ?_
 try simp at hb1
 refine qs tb hJ [1000] [_] [_] ?_
 exact Ze (rtn (m := 0) rfl rfl (eI ((ZjS hb1).symm)))
 try simp at hb1
 refine Za (nx (Zd (qs tb hJ [0,1,1000] [_] [_,_,_] ?_)))
 refine Zb (lp (ι := Nat) (fun k => (1 ≤ k) ∧ (k ≤ l.length) ∧ (∀ j, 0 < j → j < k → ZaE d (ge l j) = true)) (fun k => [(5, .int (k : Nat))]) (fun k => l.length - k) [0,1,2] [_,_] 1 (show (1 ≤ 1) ∧ (1 ≤ l.length) ∧ (∀ j, 0 < j → j < 1 → ZaE d (ge l j) = true) from by first | trivial | grind) ?_)
 rintro k ⟨f1_1, f1_2, f1_3⟩
 refine Zd (hqs tb hJ [0,1,2,1003] [_,_,.int (l.length : Nat),_] [2] [_,_,_,_] rfl ⟨ZZ Zr, trivial⟩ ?_)
 refine cj 3 (fun hb2 => ?_) fun hb2 => ?_
 try simp at hb2
 refine Za (nx (Zd (Zb (hqs tb hJ [0,1,2,1006] [_,_,_,.ptr [.lit (.string (ge l k))],_,.bool (ZaE d (ge l k)),_] [3,5] [_,_,_,_] rfl ⟨iIx Zh, iFn hS hJ (Zd3 hJ (d := d) (s := (ge l k)) ) Zd0, trivial⟩ ?_))))
 refine cj 3 (fun hb3 => ?_) fun hb3 => ?_
 try simp at hb3
 refine qs tb hJ [1000] [_] [_] ?_
 exact Ze (rtn (m := 0) rfl rfl (eI ((Zhh (by omega) (by omega) hb3).symm)))
 try simp at hb3
 refine Za (nx (hqp tb hJ [0,1,1002] [_,.int (k + 1 : Nat),_] [1] [_,_,_] rfl ⟨Z2, trivial⟩ ?_))
 exact lpE (k + 1) [0,1,2] ⟨by first | omega | (simp; omega) | grind [Zg], by first | omega | (simp; omega) | grind [Zg], by first | omega | (simp; omega) | grind [Zg]⟩
 try simp at hb2
 refine Zl (nx (qs tb hJ [1000] [_] [_] ?_))
 exact Ze (rtn (m := 0) rfl rfl (eI ((Zhg hb1 fun j h1 h2 => f1_3 j h1 (by omega)).symm)))
theorem ZmE {J : World → Prop} (hJ : Stab J) (xs : List ByteArray) (ys : List ByteArray)  : Fn Tryz.prog J 115 [.rd (Zf xs), .rd (Zf ys)] (.int (ZbG xs ys : Nat)) := by
 refine Zn (N := 30) Tryz.func115 rfl rfl (lb rfl) fun S w0 hS hJ0 => ?_
 clear hJ0
 refine ln 0 fun hl1 => ?_
 refine ln 1 fun hl2 => ?_
 refine qs tb hJ [0,1] [_] [_,_] ?_
 refine qs tb hJ [0,1,1000] [_] [_,_,_] ?_
 refine Zd (Zb (lp (ι := Nat) (fun k => (k ≤ xs.length) ∧ (k ≤ ys.length) ∧ (∀ j, j < k → ge xs j = ge ys j)) (fun k => [(5, .int (k : Nat))]) (fun k => xs.length - k) [0,1,2] [_,_] 0 (show (0 ≤ xs.length) ∧ (0 ≤ ys.length) ∧ (∀ j, j < 0 → ge xs j = ge ys j) from by first | trivial | grind) ?_))
 rintro k ⟨f1_1, f1_2, f1_3⟩
 refine Zd (hqs tb hJ [0,1,2,1020] [_,_,.int (xs.length : Nat),_,_,_,_,.int (ys.length : Nat),_,_,_,_,_,.ptr [.lit (.string (ge xs k))],_,_,_,.ptr [.lit (.string (ge ys k))],_,_,_] [2,7,13,17] [_,_,_,_] rfl ⟨ZZ Zr, ZZ Zr, gIx Zh (hk := fun (hc' : (((decide ((k : Int) < (xs.length : Int))) && (decide ((k : Int) < (ys.length : Int)))) == true) = true) => by (try simp at hc'); first | omega | (simp; omega) | grind [Zg]), gIx Zh (hk := fun (hc' : (((decide ((k : Int) < (xs.length : Int))) && (decide ((k : Int) < (ys.length : Int)))) == true) = true) => by (try simp at hc'); first | omega | (simp; omega) | grind [Zg]), trivial⟩ ?_)
 refine cj 3 (fun hb1 => ?_) fun hb1 => ?_
 try simp at hb1
 refine Za (nx (Zb (hqp tb hJ [0,1,1002] [_,.int (k + 1 : Nat),_] [1] [_,_,_] rfl ⟨Z2, trivial⟩ ?_)))
 exact lpE (k + 1) [0,1,2] ⟨by first | omega | (simp; omega) | grind [Zg], by first | omega | (simp; omega) | grind [Zg], by first | omega | (simp; omega) | grind [Zg]⟩
 try simp at hb1
 refine Zl (nx (qs tb hJ [1001] [_,_] [_] ?_))
 exact Ze (rtn (m := 0) rfl rfl (eI (by rw [Zf3 xs ys k f1_1 f1_2 f1_3 (by grind)])))
theorem ZmD {J : World → Prop} (hJ : Stab J) (l : List Pr) (vs : List ByteArray) (b : l.length * 32 ≤ 140737488351232) : Fn Tryz.prog J 140 [.rd (YI l), .rd (Zf vs)] (.rd (YI (l.filter (inV vs)))) := by
 refine Zn (N := 38) Tryz.func140 rfl rfl (lb rfl) fun S w0 hS hJ0 => ?_
 refine tw Yb ?_
 refine ln 0 fun hl1 => ?_
 refine ln 1 fun hl2 => ?_
 refine qso tb hJ [0,1] [_] [_,_] ?_
 refine tsq ?_
 refine Xo Zv hJ rfl rfl rfl (lb rfl) fun v1 => ?_
 refine snK 1 tb rfl ?_
 refine seK [0,2,3] [_,_,_] rfl ?_
 refine nx (Zd (qso tb hJ [0,1,2,1000] [_] [_,_,_,_] ?_))
 refine Zb (lpo (ι := Nat × Value × (List Pr)) (fun (k, _, out) => (k ≤ l.length) ∧ (out = (l.take k).filter (inV vs)) ∧ (out.length ≤ k)) (fun (_, v, out) => [OB.row v 148 2 (out.map prC)]) (fun (k, v, _) => [(6, .int (k : Nat)), (5, .lit v)]) (fun (k, _, _) => l.length - k) [1,2,3,0] [_,_] (0, v1, ([] : List Pr)) ⟨Nat.zero_le _, by simp, by simp⟩ ?_)
 rintro ⟨k, v, out⟩ ⟨f1_1, f1_2, f1_3⟩
 refine Zd (ZC tb hJ [0,1,2,3,1003] [_,_,.int (l.length : Nat),_] [2] [_,_,_,_,_] rfl ⟨ZZ ZY, trivial⟩ ?_)
 refine cj 4 (fun hb1 => ?_) fun hb1 => ?_
 try simp at hb1
 refine Za (nx (Zd (Zb (ZC tb hJ [0,1,2,3,1015] [_,_,_,.ptr (prC (ge l k)),_,_,.bool (decide (((ge l k).a) ∈ vs)),_,_,_,_,.ptr (prC (ge l k)),_,_,.bool (decide (((ge l k).b) ∈ vs)),_] [3,6,11,14] [_,_,_,_,_] rfl ⟨iIx Zv, iFo hS hJ (Zak hJ (xs := vs) (s := ((ge l k).a)) ) YE, gIx Zv (hk := fun (hc' : ((decide (((ge l k).a) ∈ vs)) == true) = true) => by (try simp at hc'); first | omega | (simp; omega) | grind [Zg]), iFo hS hJ (Zak hJ (xs := vs) (s := ((ge l k).b)) ) YE, trivial⟩ ?_))))
 refine cj 4 (fun hb2 => ?_) fun hb2 => ?_
 try simp at hb2
 refine ZN (snK 3 tb rfl ?_)
 refine sq (.ptr (prC (ge l k))) rfl rfl (lb rfl) (fun _ _ h => Z0 (i := (k : Int)) Zv rfl (h.get 1 rfl) (h.get 0 rfl) (Int.natCast_nonneg _) (Yh (xs := l) (k := k) (by first | omega | (simp; omega) | grind [Zg])) rfl h.x) ?_
 refine snK 1 tb rfl ?_
 refine sq (.rd (YI ([(ge l k)]))) rfl rfl (lb rfl) (fun _ _ h => ZaI Zv Zgn (by decide) rfl rfl (h.get 0 rfl) (Zo hS _ h.keep h.x _ (Nat.le_refl _)) (jo hJ h.x)) ?_
 refine ZM (f := prC) (m := 5) (s := 30) out ([(ge l k)]) (fun _ => rfl) Zbc hJ hJ0 rfl rfl rfl (lb rfl) rfl rfl (fun a w h => (h.get 0 rfl)) (by first | omega | (simp; omega) | grind [Zg]) (by first | omega | (simp; omega) | grind [Zg]) fun v2 => ?_
 refine snK 1 tb rfl ?_
 refine seK [0,2,8,9,10] [_,_,_,_,_] rfl ?_
 refine nx (ln 1 fun hl3 => ?_)
 refine Yj tb hJ [0,2,3,1002] [_,.int (k + 1 : Nat),_] [1] [_,_,_,_] rfl ⟨Z2, trivial⟩ ?_
 exact Yr (k + 1, v2, out ++ ([(ge l k)])) [1,2,3,0] ⟨by omega, by rw [ZA (by omega), f1_2]; simp [inV, hb2], by simp; omega⟩
 try simp at hb2
 refine Za (nx (Yj tb hJ [0,1,3,1002] [_,.int (k + 1 : Nat),_] [1] [_,_,_,_] rfl ⟨Z2, trivial⟩ ?_))
 exact Yr (k + 1, v, out) [0,1,3,2] ⟨by omega, by rw [ZA (by omega), f1_2]; simp [inV]; grind, by omega⟩
 try simp at hb1
 refine Zl (nx (qso tb hJ [1001] [_,_] [_] ?_))
 refine tw (fun h => ZB hS h (m := 0) (s := 4) rfl) ?_
 exact Ze (Y2 (m := 0) rfl rfl (congrArg (fun z => AV.rd (YI z)) (show out = (l.filter (inV vs)) from by rw [f1_2, Zu (by omega)])))
theorem Zgc {J : World → Prop} (hJ : Stab J) (l : List (List ByteArray)) (vs : List ByteArray) (b : vs.length ≤ 8000) : Fn Tryz.prog J 136 [.rd (QO l), .rd (Zf vs)] (.rd (Zf (XM vs l.flatten))) := by
 refine Zn (N := 46) Tryz.func136 rfl rfl (lb rfl) fun S w0 hS hJ0 => ?_
 refine tw Yb ?_
 refine ln 0 fun hl1 => ?_
 refine ln 1 fun hl2 => ?_
 refine qso tb hJ [0,1] [_] [_,_] ?_
 refine tsq ?_
 refine Xo Zh hJ rfl rfl rfl (lb rfl) fun v1 => ?_
 refine snK 1 tb rfl ?_
 refine seK [0,2,3] [_,_,_] rfl ?_
 refine nx (Zd (qso tb hJ [0,1,2,1000] [_] [_,_,_,_] ?_))
 refine Zb (lpo (ι := Nat × Value × (List ByteArray)) (fun (k, _, out) => (k ≤ l.length) ∧ (out = XM vs (l.take k).flatten)) (fun (_, v, out) => [OB.row v 9 1 (out.map QJ)]) (fun (k, v, _) => [(6, .int (k : Nat)), (5, .lit v)]) (fun (k, _, _) => l.length - k) [1,2,3,0] [_,_] (0, v1, ([] : List ByteArray)) ⟨Nat.zero_le _, by simp [XM]⟩ ?_)
 rintro ⟨k, v, out⟩ ⟨f1_1, f1_2⟩
 refine Zd (ZC tb hJ [0,1,2,3,1003] [_,_,.int (l.length : Nat),_] [2] [_,_,_,_,_] rfl ⟨ZZ ZbS, trivial⟩ ?_)
 refine cj 4 (fun hb1 => ?_) fun hb1 => ?_
 try simp at hb1
 refine Za (nx (Zd (Zb (qso tb hJ [0,1,2,3,1000] [_] [_,_,_,_,_] ?_))))
 refine Zb (lpo (ι := Nat × Value × (List ByteArray)) (fun (j, _, out2) => (j ≤ (ge l k).length) ∧ (out2 = XM vs ((l.take k).flatten ++ (ge l k).take j))) (fun (_, vb, out2) => [OB.row vb 9 1 (out2.map QJ)]) (fun (j, vb, _) => [(7, .int (j : Nat)), (5, .lit vb)]) (fun (j, _, _) => (ge l k).length - j) [0,1,2,4,3] [_,_,_] (0, v, out) ⟨Nat.zero_le _, by simp [f1_2]⟩ ?_)
 rintro ⟨j, vb, out2⟩ ⟨f2_1, f2_2⟩
 refine Zd (ZC tb hJ [0,1,2,3,4,1004,1006] [_,_,_,.ptr [Zf (ge l k)],_,.int ((ge l k).length : Nat),_] [3,5] [_,_,_,_,_,_,_] rfl ⟨iIx YM, ZZ Zr, trivial⟩ ?_)
 refine ln 5 fun hl3 => ?_
 refine cj 6 (fun hb2 => ?_) fun hb2 => ?_
 try simp at hb2
 refine Za (nx (Zd (Zb (ZC tb hJ [0,1,2,3,4,1007] [_,_,.ptr [Zf (ge l k)],_,_,.ptr [.lit (.string (ge (ge l k) j))],_,_] [2,5] [_,_,_,_,_,_] rfl ⟨iIx YM, iIx Zh, trivial⟩ ?_))))
 refine Zfp tb hJ [0,1,2,3,4,5,1008] [_,_,.bool (decide ((ge (ge l k) j) ∈ vs)),_,_,_,.bool (decide ((ge (ge l k) j) ∈ out2)),_,_] [2,6] [_,_,_,_,_,_,_] rfl ⟨iFr hS hJ (Zak hJ (xs := vs) (s := (ge (ge l k) j)) ) YE, fun _ _ hk hx hl hc => Zbi (Zak hJ (xs := out2) (s := (ge (ge l k) j)) ) YE rfl (nm hS hk) (hx.1) (Zc (YA hS hx (mo 0 rfl) (hl.dep 4 36 _ rfl rfl rfl hc)) (Zc (hl.dep 5 37 _ rfl rfl rfl hc) Zi)) (jo hJ hx), trivial⟩ ?_
 refine cj 6 (fun hb3 => ?_) fun hb3 => ?_
 try simp at hb3
 refine ZN (snK 2 tb rfl ?_)
 refine sq (.rd (Zf ([(ge (ge l k) j)]))) rfl rfl (lb rfl) (fun _ _ h => ZV Zh Zal rfl (h.get 0 rfl) (Zo hS _ h.keep h.x _ (Nat.le_refl _)) (jo hJ h.x)) ?_
 refine ZM (f := QJ) (m := 2) (s := 41) out2 ([(ge (ge l k) j)]) (fun _ => rfl) Xu hJ hJ0 rfl rfl rfl (lb rfl) rfl rfl (fun a w h => (h.get 0 rfl)) (by have := Zjr vs ((l.take k).flatten ++ (ge l k).take j); simp [f2_2]; omega) (by have := Zjr vs ((l.take k).flatten ++ (ge l k).take j); simp [f2_2]; omega) fun v2 => ?_
 refine snK 1 tb rfl ?_
 refine seK [0,2,5,6,7,8] [_,_,_,_,_,_] rfl ?_
 refine nx (ln 1 fun hl4 => ?_)
 refine Yj tb hJ [0,2,3,4,1002] [_,.int (j + 1 : Nat),_] [1] [_,_,_,_,_] rfl ⟨Z2, trivial⟩ ?_
 exact Yr (j + 1, v2, out2 ++ ([(ge (ge l k) j)])) [1,2,3,4,0] ⟨by omega, by rw [ZI (by omega), ← List.append_assoc, QU, ← f2_2]; simp [hb3]⟩
 try simp at hb3
 refine Za (nx (Yj tb hJ [0,1,2,4,1002] [_,.int (j + 1 : Nat),_] [1] [_,_,_,_,_] rfl ⟨Z2, trivial⟩ ?_))
 exact Yr (j + 1, vb, out2) [0,1,2,4,3] ⟨by omega, by rw [ZI (by omega), ← List.append_assoc, QU, ← f2_2]; simp; grind⟩
 try simp at hb2
 refine Zl (nx (Yj tb hJ [0,1,4,1002] [_,.int (k + 1 : Nat),_] [1] [_,_,_,_] rfl ⟨Z2, trivial⟩ ?_))
 exact Yr (k + 1, vb, out2) [0,1,3,2] ⟨by omega, by rw [f2_2, Zu (xs := ge l k) (by omega), ZI (by omega)]; simp⟩
 try simp at hb1
 refine Zl (nx (qso tb hJ [1001] [_,_] [_] ?_))
 refine tw (fun h => ZB hS h (m := 0) (s := 4) rfl) ?_
 exact Ze (Y2 (m := 0) rfl rfl (congrArg (fun z => AV.rd (Zf z)) (show out = (XM vs l.flatten) from by rw [f1_2, Zu (by omega)])))
theorem Zbs {J : World → Prop} (hJ : Stab J) (f : Fr) (b : f.hyps.length * 48 ≤ 140737488351232) : Fn Tryz.prog J 114 [.agg (frC f)] (.rd (Zf ((Yt f.hyps).map Hy.label))) := by
 refine Zn (N := 30) Tryz.func114 rfl rfl (lb rfl) fun S w0 hS hJ0 => ?_
 refine tw Yb ?_
 refine ZC tb hJ [1000] [.ptr (frC f),_] [0] [_] rfl ⟨fun _ _ hk hx hl _ => Yk rfl (hl.env 0 0 _ rfl rfl) (Zo hS _ hk hx _ (Nat.le_refl _)) (jo hJ hx), trivial⟩ ?_
 refine tsq ?_
 refine Xo Zh hJ rfl rfl rfl (lb rfl) fun v1 => ?_
 refine snK 1 tb rfl ?_
 refine seK [0,2] [_,_] rfl ?_
 refine nx (Zd (qso tb hJ [0,1,1000] [_] [_,_,_] ?_))
 refine Zb (lpo (ι := Nat × Value × (List ByteArray)) (fun (k, _, out) => (k ≤ f.hyps.length) ∧ (out = (Yt (f.hyps.take k)).map Hy.label) ∧ (out.length ≤ k)) (fun (_, v, out) => [OB.row v 9 1 (out.map QJ)]) (fun (k, v, _) => [(4, .int (k : Nat)), (3, .lit v)]) (fun (k, _, _) => f.hyps.length - k) [1,2,0] [_] (0, v1, ([] : List ByteArray)) ⟨Nat.zero_le _, by simp [Yt], by simp⟩ ?_)
 rintro ⟨k, v, out⟩ ⟨f1_1, f1_2, f1_3⟩
 refine Zd (ZC tb hJ [0,1,2,1002,1004] [_,_,_,.int (f.hyps.length : Nat),_] [3] [_,_,_,_,_] rfl ⟨ZZ Zs, trivial⟩ ?_)
 refine ln 3 fun hl1 => ?_
 refine cj 4 (fun hb1 => ?_) fun hb1 => ?_
 try simp at hb1
 refine Za (nx (Zd (Zb (ZC tb hJ [0,1,2,1006] [_,_,_,.ptr (hyC (ge f.hyps k)),_,_,_] [3] [_,_,_,_] rfl ⟨iIx Zm, trivial⟩ ?_))))
 refine cj 3 (fun hb2 => ?_) fun hb2 => ?_
 try simp at hb2
 refine ZN (snK 4 tb rfl ?_)
 refine sq (.ptr (hyC (ge f.hyps k))) rfl rfl (lb rfl) (fun _ _ h => Z0 (i := (k : Int)) Zm rfl (h.get 1 rfl) (h.get 0 rfl) (Int.natCast_nonneg _) (Yh (xs := f.hyps) (k := k) (by first | omega | (simp; omega) | grind [Zg])) rfl h.x) ?_
 refine snK 2 tb rfl ?_
 refine sq (.rd (Zf ([(ge f.hyps k).label]))) rfl rfl (lb rfl) (fun _ _ h => ZV Zh Zal rfl (h.get 0 rfl) (Zo hS _ h.keep h.x _ (Nat.le_refl _)) (jo hJ h.x)) ?_
 refine ZM (f := QJ) (m := 7) (s := 20) out ([(ge f.hyps k).label]) (fun _ => rfl) Xu hJ hJ0 rfl rfl rfl (lb rfl) rfl rfl (fun a w h => (h.get 0 rfl)) (by first | omega | (simp; omega) | grind [Zg]) (by first | omega | (simp; omega) | grind [Zg]) fun v2 => ?_
 refine snK 1 tb rfl ?_
 refine seK [0,2,10,11] [_,_,_,_] rfl ?_
 refine nx (ln 1 fun hl2 => ?_)
 refine Yj tb hJ [0,2,1002] [_,.int (k + 1 : Nat),_] [1] [_,_,_] rfl ⟨Z2, trivial⟩ ?_
 exact Yr (k + 1, v2, out ++ ([(ge f.hyps k).label])) [1,2,0] ⟨by omega, by rw [Yt, ZA (by omega), f1_2]; simp [Yt, hb2], by simp; omega⟩
 try simp at hb2
 refine Za (nx (Yj tb hJ [0,2,1002] [_,.int (k + 1 : Nat),_] [1] [_,_,_] rfl ⟨Z2, trivial⟩ ?_))
 exact Yr (k + 1, v, out) [0,2,1] ⟨by omega, by rw [Yt, ZA (by omega), f1_2]; simp [Yt, hb2], by omega⟩
 try simp at hb1
 refine Zl (nx (qso tb hJ [1001] [_,_] [_] ?_))
 refine tw (fun h => ZB hS h (m := 0) (s := 2) rfl) ?_
 exact Ze (Y2 (m := 0) rfl rfl (congrArg (fun z => AV.rd (Zf z)) (show out = ((Yt f.hyps).map Hy.label) from by rw [f1_2, Zu (by omega)])))
theorem Zih {J : World → Prop} (hJ : Stab J) (hs : List Hy) (t : List ByteArray) (b : hs.length ≤ 40) : Fn Tryz.prog J 137 [.rd (YC hs), .rd (Zf t)] (.rd (QO (t :: (Yt hs).map Hy.text))) := by
 refine Zn (N := 30) Tryz.func137 rfl rfl (lb rfl) fun S w0 hS hJ0 => ?_
 refine tw Yb ?_
 refine ln 0 fun hl1 => ?_
 refine ln 1 fun hl2 => ?_
 refine qso tb hJ [0,1] [_] [_,_] ?_
 refine tsq ?_
 refine snK 1 tb rfl ?_
 refine ZiJ YM Zdq hJ rfl rfl rfl (lb rfl) (fun _ _ h => (h.get 0 rfl)) fun v1 => ?_
 refine snK 1 tb rfl ?_
 refine seK [0,3] [_,_] rfl ?_
 refine nx (Zd (qso tb hJ [0,1,1000] [_] [_,_,_] ?_))
 refine Zb (lpo (ι := Nat × Value × (List (List ByteArray))) (fun (k, _, out) => (k ≤ hs.length) ∧ (out = t :: (Yt (hs.take k)).map Hy.text) ∧ (out.length ≤ k + 1)) (fun (_, v, out) => [OB.row v 22 1 (out.map Zeo)]) (fun (k, v, _) => [(6, .int (k : Nat)), (5, .lit v)]) (fun (k, _, _) => hs.length - k) [1,2,0] [_] (0, v1, [t]) ⟨Nat.zero_le _, by simp [Yt], by simp⟩ ?_)
 rintro ⟨k, v, out⟩ ⟨f1_1, f1_2, f1_3⟩
 refine Zd (ZC tb hJ [0,1,2,1003] [_,_,.int (hs.length : Nat),_] [2] [_,_,_,_] rfl ⟨ZZ Zs, trivial⟩ ?_)
 refine cj 3 (fun hb1 => ?_) fun hb1 => ?_
 try simp at hb1
 refine Za (nx (Zd (Zb (ZC tb hJ [0,1,2,1005] [_,_,.ptr (hyC (ge hs k)),_,_,_] [2] [_,_,_,_] rfl ⟨iIx Zm, trivial⟩ ?_))))
 refine cj 3 (fun hb2 => ?_) fun hb2 => ?_
 try simp at hb2
 refine ZN (snK 3 tb rfl ?_)
 refine sq (.ptr (hyC (ge hs k))) rfl rfl (lb rfl) (fun _ _ h => Z0 (i := (k : Int)) Zm rfl (h.get 1 rfl) (h.get 0 rfl) (Int.natCast_nonneg _) (Yh (xs := hs) (k := k) (by first | omega | (simp; omega) | grind [Zg])) rfl h.x) ?_
 refine snK 2 tb rfl ?_
 refine sq (.rd (QO ([(ge hs k).text]))) rfl rfl (lb rfl) (fun _ _ h => ZV YM Zdq rfl (h.get 0 rfl) (Zo hS _ h.keep h.x _ (Nat.le_refl _)) (jo hJ h.x)) ?_
 refine ZM (f := Zeo) (m := 6) (s := 21) out ([(ge hs k).text]) (fun _ => rfl) Zdn hJ hJ0 rfl rfl rfl (lb rfl) rfl rfl (fun a w h => (h.get 0 rfl)) (by first | omega | (simp; omega) | grind [Zg]) (by first | omega | (simp; omega) | grind [Zg]) fun v2 => ?_
 refine snK 1 tb rfl ?_
 refine seK [0,2,3,9,10] [_,_,_,_,_] rfl ?_
 refine nx (ln 1 fun hl3 => ?_)
 refine ln 2 fun hl4 => ?_
 refine Yj tb hJ [0,3,1002] [_,.int (k + 1 : Nat),_] [1] [_,_,_] rfl ⟨Z2, trivial⟩ ?_
 exact Yr (k + 1, v2, out ++ ([(ge hs k).text])) [1,2,0] ⟨by omega, by rw [Yt, ZA (by omega), f1_2]; simp [Yt, hb2], by simp; omega⟩
 try simp at hb2
 refine Za (nx (Yj tb hJ [0,2,1002] [_,.int (k + 1 : Nat),_] [1] [_,_,_] rfl ⟨Z2, trivial⟩ ?_))
 exact Yr (k + 1, v, out) [0,2,1] ⟨by omega, by rw [Yt, ZA (by omega), f1_2]; simp [Yt, hb2], by omega⟩
 try simp at hb1
 refine Zl (nx (qso tb hJ [1001] [_,_] [_] ?_))
 refine tw (fun h => ZB hS h (m := 0) (s := 4) rfl) ?_
 exact Ze (Y2 (m := 0) rfl rfl (congrArg (fun z => AV.rd (QO z)) (show out = (t :: (Yt hs).map Hy.text) from by rw [f1_2, Zu (by omega)])))
end Go.Proofs.YtnpgmdffjemnbaaGreatDoor
set_option maxHeartbeats 8000000
set_option maxRecDepth 100000
namespace Go.Proofs.YtnpgmdffjemnbaaGreatDoor
open Go.RowKit

theorem ZmF {J : World → Prop} (hJ : Stab J) (d : Db) (k : Nat) (hn : k ≤ d.frames.length) (hk0 : k ≤ 400) (hz : 0 < k → (ge d.frames (k - 1)).hyps.length ≤ 40) : Fn Tryz.prog J 116 [.agg (dbC d), .int (k : Nat)] (.rd (Zf (Zgj d k))) := by
 refine Zn (N := 14) Tryz.func116 rfl rfl (lb rfl) fun S w0 hS hJ0 => ?_
 clear hJ0
 refine hqs tb hJ [1,1000] [.ptr (dbC d),_] [0] [_,_] rfl ⟨fun _ _ hk hx hl _ => Yk rfl (hl.env 0 0 _ rfl rfl) (hS _ hk.size) (js hJ hx), trivial⟩ ?_
 refine Zd (qs tb hJ [0,1,1001] [_,_] [_,_,_] ?_)
 refine cj 2 (fun hb1 => ?_) fun hb1 => ?_
 try simp at hb1
 refine qs tb hJ [1000] [_] [_] ?_
 refine tw (fun h => Ys h (m := 0) (s := 4) rfl) ?_
 exact Ze (rtn (m := 0) rfl rfl (congrArg (fun z => AV.rd (Zf z)) (show ([] : List ByteArray) = (Zgj d k) from by simp [Zgj, hb1])))
 try simp at hb1
 refine Za (nx (hqs tb hJ [1001,1006,1007] [_,_,_,.int ((k : Int) - (1 : Int)),.ptr (frC (ge d.frames ((k : Int) - (1 : Int)).toNat)),_,.rd (Zf ((Yt (ge d.frames ((k : Int) - (1 : Int)).toNat).hyps).map Hy.label)),_] [3,4,6] [_,_,_] rfl ⟨iSub, iIz ZD, iFn hS hJ (Zbs hJ (f := (ge d.frames ((k : Int) - (1 : Int)).toNat)) (by have := hz (by omega); rw [show ((k : Int) - 1).toNat = k - 1 by omega]; omega)) Zhv, trivial⟩ ?_))
 refine ln 0 fun hl1 => ?_
 refine ln 1 fun hl2 => ?_
 exact Ze (rtn (m := 2) rfl rfl (congrArg (fun z => AV.rd (Zf z)) (show ((Yt (ge d.frames ((k : Int) - (1 : Int)).toNat).hyps).map Hy.label) = (Zgj d k) from by rw [Zgj, if_neg hb1, show ((k : Int) - 1).toNat = k - 1 by omega])))
theorem Zgd {J : World → Prop} (hJ : Stab J) (d : Db) (n : Nat) (s : ByteArray) (hn : n ≤ d.frames.length) (hz : ∀ i, i < n → (ge d.frames i).hyps.length ≤ 40 ∧ (ge d.frames i).dummies.length ≤ 40) : Fn Tryz.prog J 107 [.agg (dbC d), .int (n : Nat), .str s] (.tup [.bool (frL d n s), .bool (hyL d n s)]) := by
 refine Zn (N := 51) Tryz.func107 rfl rfl (lb rfl) fun S w0 hS hJ0 => ?_
 clear hJ0
 refine hqs tb hJ [1,2,1000,1001,1002] [.ptr (dbC d),_,_] [0] [_,_,_,_,_] rfl ⟨fun _ _ hk hx hl _ => Yk rfl (hl.env 0 0 _ rfl rfl) (hS _ hk.size) (js hJ hx), trivial⟩ ?_
 refine Zd (qs tb hJ [0,1,2,3,4,1000] [_] [_,_,_,_,_,_] ?_)
 refine Zb (lp (ι := Nat × Bool × Bool) (fun (k, p, q) => (k ≤ n) ∧ (p = frL d k s) ∧ (q = hyL d k s)) (fun (k, p, q) => [(8, .int (k : Nat)), (6, .bool p), (7, .bool q)]) (fun (k, _, _) => n - k) [0,1,2,5,3,4] [_,_,_] (0, false, false) ⟨Nat.zero_le _, by simp [frL], by simp [hyL]⟩ ?_)
 rintro ⟨k, p, q⟩ ⟨f1_1, f1_2, f1_3⟩
 refine Zd (qs tb hJ [0,1,2,3,4,5,1002] [_,_,_] [_,_,_,_,_,_,_] ?_)
 refine cj 6 (fun hb1 => ?_) fun hb1 => ?_
 try simp at hb1
 refine Za (nx (Zd (Zb (hqs tb hJ [0,1,2,3,5,1011] [_,_,_,_,_,.ptr (frC (ge d.frames k)),_,_,_,_,_,_] [5] [_,_,_,_,_,_] rfl ⟨gIx ZD (hk := fun (hc' : (p == false) = true) => by (try simp at hc'); first | omega | (simp; omega) | grind [Zg]), trivial⟩ ?_))))
 refine hqs tb hJ [0,1,2,3,4,5,1001,1005,1006] [_,_,_,.ptr (frC (ge d.frames k)),_,.rd (YC ((ge d.frames k).hyps ++ (ge d.frames k).dummies)),_] [3,5] [_,_,_,_,_,_,_,_,_] rfl ⟨iIx ZD, iFn hS hJ (ZmI hJ (f := (ge d.frames k)) (by have := hz k (by omega); omega)) ZbK, trivial⟩ ?_
 refine ln 6 fun hl1 => ?_
 refine ln 7 fun hl2 => ?_
 refine qs tb hJ [0,1,2,3,4,5,8,1000] [_] [_,_,_,_,_,_,_,_] ?_
 refine Zb (lp (ι := Nat × Bool) (fun (j, q2) => (j ≤ ((ge d.frames k).hyps ++ (ge d.frames k).dummies).length) ∧ (q2 = (hyL d k s || (((ge d.frames k).hyps ++ (ge d.frames k).dummies).take j).any fun h => decide (h.label = s)))) (fun (j, q2) => [(10, .int (j : Nat)), (7, .bool q2)]) (fun (j, _) => ((ge d.frames k).hyps ++ (ge d.frames k).dummies).length - j) [0,1,2,3,5,6,7,4] [_,_,_,_,_,_] (0, q) ⟨Nat.zero_le _, by simp [f1_3]⟩ ?_)
 rintro ⟨j, q2⟩ ⟨f2_1, f2_2⟩
 refine Zd (hqs tb hJ [0,1,2,3,4,5,6,7,1003] [_,_,.int (((ge d.frames k).hyps ++ (ge d.frames k).dummies).length : Nat),_] [2] [_,_,_,_,_,_,_,_,_] rfl ⟨ZZ Zs, trivial⟩ ?_)
 refine cj 8 (fun hb2 => ?_) fun hb2 => ?_
 try simp at hb2
 refine Za (nx (Zd (Zb (hqp tb hJ [0,1,2,3,4,5,6,1010] [_,_,_,_,.ptr (hyC (ge ((ge d.frames k).hyps ++ (ge d.frames k).dummies) j)),_,_,_,_,_,_] [4] [_,_,_,_,_,_,_,_] rfl ⟨gIx Zm (hk := fun (hc' : (q2 == false) = true) => by (try simp at hc'); first | omega | (simp; omega) | grind [Zg]), trivial⟩ ?_))))
 refine nx (hqp tb hJ [0,1,2,3,4,5,7,1002] [_,.int (j + 1 : Nat),_] [1] [_,_,_,_,_,_,_,_] rfl ⟨Z2, trivial⟩ ?_)
 exact lpE (j + 1, q2 || (decide (((ge ((ge d.frames k).hyps ++ (ge d.frames k).dummies) j).label) = s))) [0,1,2,3,4,5,7,6] ⟨by simp; omega, by rw [Xv (by simp; omega), ← Bool.or_assoc, ← f2_2]⟩
 try simp at hb2
 refine Zl (nx (hqp tb hJ [0,1,2,4,7,1002] [_,.int (k + 1 : Nat),_] [1] [_,_,_,_,_,_] rfl ⟨Z2, trivial⟩ ?_))
 exact lpE (k + 1, p || (decide (((ge d.frames k).label) = s)), q2) [0,1,2,5,3,4] ⟨by omega, by rw [f1_2, frL, frL, Xv (by omega)], by rw [f2_2, Zu (xs := ((ge d.frames k).hyps ++ (ge d.frames k).dummies)) (by simp; omega), hyL, hyL, Xv (by omega)]⟩
 try simp at hb1
 refine Zl (nx (qs tb hJ [1002,1003] [_,_,_,_] [_,_] ?_))
 exact Ze (fun a w h => Ye (m := 0) (k := 1) rfl h rfl rfl (eB (by rw [f1_2, show k = n by omega])) (eB (by rw [f1_3, show k = n by omega])))
theorem c_less {J : World → Prop} (hJ : Stab J) (x : Pr) (y : Pr)  : Fn Tryz.prog J 179 [.agg (prC x), .agg (prC y)] (.bool (ltP x y)) := by
 refine Zn (N := 24) Tryz.func179 rfl rfl (lb rfl) fun S w0 hS hJ0 => ?_
 clear hJ0
 refine hqs tb hJ [1000,1001] [.ptr (prC x),.ptr (prC y),_] [0,1] [_,_] rfl ⟨fun _ _ hk hx hl _ => Yk rfl (hl.env 0 0 _ rfl rfl) (hS _ hk.size) (js hJ hx), fun _ _ hk hx hl _ => Yk rfl (hl.env 1 1 _ rfl rfl) (hS _ hk.size) (js hJ hx), trivial⟩ ?_
 refine qs tb hJ [1019] [_,_,_,_,_,_,_,_,_,_,_,_,_,_,_,_,_,_,_,_] [_] ?_
 exact Ze (rtn (m := 0) rfl rfl (eB (by first | rfl | grind [Zg])))
theorem c_put {J : World → Prop} (hJ : Stab J) (l : List Pr) (p : Pr) (b : (l.length + 1) * 32 ≤ 140737488351264) : Fn Tryz.prog J 165 [.rd (YI l), .agg (prC p)] (.rd (YI (ZaK l p))) := by
 refine Zn (N := 45) Tryz.func165 rfl rfl (lb rfl) fun S w0 hS hJ0 => ?_
 refine tw Yb ?_
 refine ln 0 fun hl1 => ?_
 refine ZC tb hJ [0,1000] [.ptr (prC p),_] [0] [_,_] rfl ⟨fun _ _ hk hx hl _ => Yk rfl (hl.env 1 1 _ rfl rfl) (Zo hS _ hk hx _ (Nat.le_refl _)) (jo hJ hx), trivial⟩ ?_
 refine qso tb hJ [0,1,1000] [_] [_,_,_] ?_
 refine Zd (Zb (lpo (ι := Nat) (fun k => (k ≤ l.length) ∧ (∀ j, j < k → ltP (ge l j) p = true)) (fun _ => []) (fun k => [(5, .int (k : Nat))]) (fun k => l.length - k) [0,1,2] [_,_] 0 (show (0 ≤ l.length) ∧ (∀ j, j < 0 → ltP (ge l j) p = true) from by first | trivial | grind) ?_))
 rintro k ⟨f1_1, f1_2⟩
 refine Zd (ZC tb hJ [0,1,2,1011] [_,_,.int (l.length : Nat),_,_,_,_,.ptr (prC (ge l k)),_,_,.bool (ltP (ge l k) p),_] [2,7,10] [_,_,_,_] rfl ⟨ZZ ZY, gIx Zv (hk := fun (hc' : ((decide ((k : Int) < (l.length : Int))) == true) = true) => by (try simp at hc'); first | omega | (simp; omega) | grind [Zg]), iFo hS hJ (c_less hJ (x := (ge l k)) (y := p) ) ZlY, trivial⟩ ?_)
 refine cj 3 (fun hb1 => ?_) fun hb1 => ?_
 try simp at hb1
 refine Za (nx (Zb (Yj tb hJ [0,1,1002] [_,.int (k + 1 : Nat),_] [1] [_,_,_] rfl ⟨Z2, trivial⟩ ?_)))
 exact Yr (k + 1) [0,1,2] ⟨by omega, ZH f1_2 (by simp_all)⟩
 try simp at hb1
 refine Zl (nx (Zd (ZC tb hJ [0,1,2,1011] [_,_,.int (l.length : Nat),_,_,_,_,.ptr (prC (ge l k)),_,_,.bool (decide ((ge l k).a = p.a) && decide ((ge l k).b = p.b)),_] [2,7,10] [_,_,_,_] rfl ⟨ZZ ZY, gIx Zv (hk := fun (hc' : ((decide ((k : Int) < (l.length : Int))) == true) = true) => by (try simp at hc'); first | omega | (simp; omega) | grind [Zg]), fun _ _ _ hx hl hc => r_eqlP ZjW rfl (hl.dep 8 28 _ rfl rfl rfl hc) (hl.dep 9 29 _ rfl rfl rfl hc) hx, trivial⟩ ?_)))
 refine cj 3 (fun hb2 => ?_) fun hb2 => ?_
 try simp at hb2
 refine qso tb hJ [1001] [_,_] [_] ?_
 exact Ze (Y2 (m := 0) rfl rfl (congrArg (fun z => AV.rd (YI z)) (show l = (ZaK l p) from by rw [ZfL l p k f1_1 f1_2 (by grind), if_pos ⟨hb2.1, by simp [ZcJ, hb2]⟩])))
 try simp at hb2
 refine Za (nx (Zd (fun a w h => X6 (id := 6) (t := 57) (e := 148) (size := 2) (bytes := 32) (i0 := 0) (fol := 12) (d := 4) (ch := [(4, ((l.take k).map prC)), (7, (([p]).map prC)), (11, ((l.drop k).map prC))]) (fun ix' => ([.any, .rd (YI l), .int (k : Nat), .rd (YI (l.take k)), .any, .agg (prC p), .rd (YI ([p])), .any, .rd (YI l), .int (k : Nat), .rd (YI (l.drop k)), .any, .any] : List AV).getD ix' .any) (fun ix' => ([true, true, true, true, true, true, true, true, true, true, true, true, true] : List Bool).getD ix' true) [] (((l.take k) ++ ([p]) ++ (l.drop k)).map prC) (by simp) ?r6_1 hJ hJ0 h YJ rfl rfl rfl rfl ⟨?o6_1_0, ⟨?o6_1_1, ⟨?o6_1_2, ⟨?o6_1_3, ⟨?o6_1_4, ⟨?o6_1_5, ⟨?o6_1_6, ⟨?o6_1_7, ⟨?o6_1_8, ⟨?o6_1_9, ⟨?o6_1_10, ⟨?o6_1_11, ⟨?o6_1_12, trivial⟩⟩⟩⟩⟩⟩⟩⟩⟩⟩⟩⟩⟩ trivial (fun v1 => ?n6_1))))
 case r6_1 =>
  refine Row.mk' Zbc ⟨_, rfl, rfl, rfl, rfl, rfl⟩ ⟨?x6_1_0, ⟨?x6_1_1, ⟨?x6_1_2, trivial⟩⟩⟩ ⟨_, _, _, _, rfl, rfl, rfl, rfl, rfl, rfl, rfl, rfl, rfl⟩ rfl rfl rfl
  case x6_1_0 => exact ⟨_, _, _, _, rfl, rfl, rfl, rfl, rfl, rfl, rfl, rfl, YX (f := prC) (fun _ => rfl), (by have hm : maxLen = 9223372036854775807 := rfl; simp [upto]; first | omega | (simp; omega) | grind [Zg]), (by have hm : maxLen = 9223372036854775807 := rfl; simp [upto]; first | omega | (simp; omega) | grind [Zg]), fun _ _ _ _ _ hl => (hl.dep 3 36 _ rfl rfl rfl rfl)⟩
  case x6_1_1 => exact ⟨_, _, _, _, rfl, rfl, rfl, rfl, rfl, rfl, rfl, rfl, YX (f := prC) (fun _ => rfl), (by have hm : maxLen = 9223372036854775807 := rfl; simp [upto]; first | omega | (simp; omega) | grind [Zg]), (by have hm : maxLen = 9223372036854775807 := rfl; simp [upto]; first | omega | (simp; omega) | grind [Zg]), fun _ _ _ _ _ hl => (hl.dep 6 39 _ rfl rfl rfl rfl)⟩
  case x6_1_2 => exact ⟨_, _, _, _, rfl, rfl, rfl, rfl, rfl, rfl, rfl, rfl, YX (f := prC) (fun _ => rfl), (by have hm : maxLen = 9223372036854775807 := rfl; simp [upto]; first | omega | (simp; omega) | grind [Zg]), (by have hm : maxLen = 9223372036854775807 := rfl; simp [upto]; first | omega | (simp; omega) | grind [Zg]), fun _ _ _ _ _ hl => (hl.dep 10 43 _ rfl rfl rfl rfl)⟩
 case o6_1_0 => exact fun h => Zk rfl h
 case o6_1_1 => exact fun _ _ => ⟨rfl, fun _ _ _ hx hl _ => Yd rfl (hl.env 0 0 _ rfl rfl) hx⟩
 case o6_1_2 => exact fun _ _ => ⟨rfl, fun _ _ _ hx hl _ => Yd rfl (hl.env 2 5 _ rfl rfl) hx⟩
 case o6_1_3 => exact fun _ _ => ⟨rfl, fun _ _ _ hx hl _ => YR (ys := l.take k) (lo := 0) (hi := k) List.drop_zero Zv (fun _ => rfl) rfl (hl.dep 1 34 _ rfl rfl rfl rfl) rfl (hl.dep 2 35 _ rfl rfl rfl rfl) (by first | omega | (simp; omega) | grind [Zg]) (by first | omega | (simp; omega) | grind [Zg]) hx⟩
 case o6_1_4 => exact fun h => Zk rfl h
 case o6_1_5 => exact fun _ _ => ⟨rfl, fun _ _ _ hx hl _ => Zas Zfl rfl (hl.env 1 3 _ rfl rfl) (Nat.le_refl _) hx⟩
 case o6_1_6 => exact fun _ _ => ⟨rfl, fun _ _ hk hx hl _ => ZaI Zv Zgn (by decide) rfl rfl (hl.dep 5 38 _ rfl rfl rfl rfl) (Zo hS _ hk hx _ (Nat.le_refl _)) (jo hJ hx)⟩
 case o6_1_7 => exact fun h => Zk rfl h
 case o6_1_8 => exact fun _ _ => ⟨rfl, fun _ _ _ hx hl _ => Yd rfl (hl.env 0 0 _ rfl rfl) hx⟩
 case o6_1_9 => exact fun _ _ => ⟨rfl, fun _ _ _ hx hl _ => Yd rfl (hl.env 2 5 _ rfl rfl) hx⟩
 case o6_1_10 => exact fun _ _ => ⟨rfl, fun _ _ _ hx hl _ => YR (ys := l.drop k) (lo := k) (hi := l.length) (by rw [List.take_length]) Zv (fun _ => rfl) rfl (hl.dep 8 41 _ rfl rfl rfl rfl) (hl.dep 9 42 _ rfl rfl rfl rfl) rfl (by first | omega | (simp; omega) | grind [Zg]) (by first | omega | (simp; omega) | grind [Zg]) hx⟩
 case o6_1_11 => exact fun h => Zk rfl h
 case o6_1_12 => exact fun h => Zk rfl h
 clear a w h
 refine nx (tw (fun h => ZB hS h (m := 0) (s := 4) rfl) ?_)
 exact Ze (Y2 (m := 0) rfl rfl (congrArg (fun z => AV.rd (YI z)) (show ((l.take k) ++ ([p]) ++ (l.drop k)) = (ZaK l p) from by rw [ZfL l p k f1_1 f1_2 (by grind), if_neg (by simp [ZcJ]; grind)]; simp)))
theorem c_Join {J : World → Prop} (hJ : Stab J) (ws : List Pr) (zs : List Pr) (b : (ws.length + zs.length + 1) * 32 ≤ 140737488351264) : Fn Tryz.prog J 139 [.rd (YI ws), .rd (YI zs)] (.rd (YI (ZcM ws zs))) := by
 refine Zn (N := 34) Tryz.func139 rfl rfl (lb rfl) fun S w0 hS hJ0 => ?_
 refine tw Yb ?_
 refine ln 0 fun hl1 => ?_
 refine ln 1 fun hl2 => ?_
 refine qso tb hJ [0,1] [_] [_,_] ?_
 refine tsq ?_
 refine Xo Zv hJ rfl rfl rfl (lb rfl) fun v1 => ?_
 refine snK 1 tb rfl ?_
 refine seK [0,2,3] [_,_,_] rfl ?_
 refine nx (Zd (tw (fun h => ZB hS h (m := 0) (s := 5) rfl) ?_))
 refine qso tb hJ [0,1,2,1000] [_] [_,_,_,_] ?_
 refine Zb (lpo (ι := Nat × (List Pr)) (fun (k, out) => (k ≤ ws.length) ∧ (out = (ws.take k).foldl ZaK []) ∧ (out.length ≤ k)) (fun (_, _) => []) (fun (k, out) => [(6, .int (k : Nat)), (5, .rd (YI out))]) (fun (k, _) => ws.length - k) [1,2,3,0] [_,_] (0, []) ⟨Nat.zero_le _, by simp, by simp⟩ ?_)
 rintro ⟨k, out⟩ ⟨f1_1, f1_2, f1_3⟩
 refine Zd (ZC tb hJ [0,1,2,3,1003] [_,_,.int (ws.length : Nat),_] [2] [_,_,_,_,_] rfl ⟨ZZ ZY, trivial⟩ ?_)
 refine ln 3 fun hl3 => ?_
 refine cj 4 (fun hb1 => ?_) fun hb1 => ?_
 try simp at hb1
 refine Za (nx (Zd (Zb (Yj tb hJ [0,1,2,1005,1006] [_,_,_,.ptr (prC (ge ws k)),_,.rd (YI (ZaK out (ge ws k))),_] [3,5] [_,_,_,_,_] rfl ⟨iIx Zv, iFo hS hJ (c_put hJ (l := out) (p := (ge ws k)) (by exact Nat.le_trans (Nat.mul_le_mul_right 32 (by omega)) b)) Zhp, trivial⟩ ?_))))
 refine nx (ln 3 fun hl4 => ?_)
 refine Yj tb hJ [0,1,4,1002] [_,.int (k + 1 : Nat),_] [1] [_,_,_,_] rfl ⟨Z2, trivial⟩ ?_
 exact Yr (k + 1, (ZaK out (ge ws k))) [0,1,3,2] ⟨by omega, by rw [f1_2, Zck (by omega)], by have := ZgT out (ge ws k); omega⟩
 try simp at hb1
 refine Zl (nx (Zd (qso tb hJ [1,3,1000] [_] [_,_,_] ?_)))
 refine Zb (lpo (ι := Nat × (List Pr)) (fun (j, out2) => (j ≤ zs.length) ∧ (out2 = (ws ++ zs.take j).foldl ZaK []) ∧ (out2.length ≤ ws.length + j)) (fun (_, _) => []) (fun (j, out2) => [(7, .int (j : Nat)), (5, .rd (YI out2))]) (fun (j, _) => zs.length - j) [0,2,1] [_] (0, out) ⟨Nat.zero_le _, by rw [f1_2, Zu (by omega)]; simp, by omega⟩ ?_)
 rintro ⟨j, out2⟩ ⟨f2_1, f2_2, f2_3⟩
 refine Zd (ZC tb hJ [0,1,2,1003] [_,_,.int (zs.length : Nat),_] [2] [_,_,_,_] rfl ⟨ZZ ZY, trivial⟩ ?_)
 refine ln 2 fun hl5 => ?_
 refine cj 3 (fun hb2 => ?_) fun hb2 => ?_
 try simp at hb2
 refine Za (nx (Zd (Zb (Yj tb hJ [0,1,1005,1006] [_,_,_,.ptr (prC (ge zs j)),_,.rd (YI (ZaK out2 (ge zs j))),_] [3,5] [_,_,_,_] rfl ⟨iIx Zv, iFo hS hJ (c_put hJ (l := out2) (p := (ge zs j)) (by exact Nat.le_trans (Nat.mul_le_mul_right 32 (by omega)) b)) Zhp, trivial⟩ ?_))))
 refine nx (ln 2 fun hl6 => ?_)
 refine Yj tb hJ [0,3,1002] [_,.int (j + 1 : Nat),_] [1] [_,_,_] rfl ⟨Z2, trivial⟩ ?_
 exact Yr (j + 1, (ZaK out2 (ge zs j))) [0,2,1] ⟨by omega, by rw [f2_2, ZI (by omega), ← List.append_assoc]; simp only [List.foldl_append, List.foldl_cons, List.foldl_nil], by have := ZgT out2 (ge zs j); omega⟩
 try simp at hb2
 refine Zl (nx (qso tb hJ [1001] [_,_] [_] ?_))
 exact Ze (Y2 (m := 0) rfl rfl (congrArg (fun z => AV.rd (YI z)) (show out2 = (ZcM ws zs) from by rw [f2_2, Zu (xs := zs) (by omega)]; rfl)))
end Go.Proofs.YtnpgmdffjemnbaaGreatDoor
set_option maxHeartbeats 8000000
set_option maxRecDepth 100000
namespace Go.Proofs.YtnpgmdffjemnbaaGreatDoor
open Go.RowKit

theorem Zfb {J : World → Prop} (hJ : Stab J) (d : Db) (k : Nat) (y : Hy) (bs : List Hy) (dm : Bool) (hk0 : k < d.frames.length) (hf : d.frames.length ≤ 400) (hz : ∀ i, i < k + 1 → (ge d.frames i).hyps.length ≤ 40 ∧ (ge d.frames i).dummies.length ≤ 40) (hb : bs.length ≤ 80) : Fn Tryz.prog J 110 [.agg (dbC d), .int (k : Nat), .agg (hyC y), .rd (YC bs), .bool dm] (.int (Zbo d k y bs dm)) := by
 refine Zn (N := 206) Tryz.func110 rfl rfl (lb rfl) fun S w0 hS hJ0 => ?_
 refine tw Yb ?_
 refine ln 3 fun hl1 => ?_
 refine ZC tb hJ [1,3,4,1000,1001] [.ptr (dbC d),.ptr (hyC y),_] [0,1] [_,_,_,_,_] rfl ⟨fun _ _ hk hx hl _ => Yk rfl (hl.env 0 0 _ rfl rfl) (Zo hS _ hk hx _ (Nat.le_refl _)) (jo hJ hx), fun _ _ hk hx hl _ => Yk rfl (hl.env 2 2 _ rfl rfl) (Zo hS _ hk hx _ (Nat.le_refl _)) (jo hJ hx), trivial⟩ ?_
 refine ZC tb hJ [0,1,2,3,4,1001,1003] [_,_,.int (y.text.length : Nat),_] [2] [_,_,_,_,_,_,_] rfl ⟨ZZ Zr, trivial⟩ ?_
 refine ln 5 fun hl2 => ?_
 refine Zd (ZC tb hJ [0,1,3,4,1032] [_,_,.bool (Zbn y.label),_,_,_,_,_,_,_,_,_,_,_,_,_,_,_,_,_,_,_,_,_,_,_,_,_,_,_,_,_,_] [2] [_,_,_,_,_] rfl ⟨iFo hS hJ (ZcA hJ (s := y.label) ) Zd2, trivial⟩ ?_)
 refine cj 4 (fun hb1 => ?_) fun hb1 => ?_
 ·
  replace hb1 : Qd y dm = true := hb1
  refine qso tb hJ [1000] [_] [_] ?_
  exact Ze (Y2 (m := 0) rfl rfl (eI (by subst_vars; grind [Zbo])))
 ·
  replace hb1 : Qd y dm = false := hb1
  have hy1 := ZeY hb1
  refine Za (nx (ZC tb hJ [0,1,2,3,1009] [_,_,.int (k + 1 : Nat),_,_,.tup [.bool (frL d (k + 1) y.label), .bool (hyL d (k + 1) y.label)],_,_,_,_,_] [2,5] [_,_,_,_,_] rfl ⟨Z2, iFo hS hJ (Zgd hJ (d := d) (n := (k + 1)) (s := y.label) (by first | omega | (simp; omega) | grind [Zg]) (hz)) Zd1, trivial⟩ ?_))
  refine Zd (ZC tb hJ [0,1,2,3,1006] [_,_,_,_,_,.bool (ZaE d y.label),_] [5] [_,_,_,_,_] rfl ⟨iFo hS hJ (Zd3 hJ (d := d) (s := y.label) ) Zd0, trivial⟩ ?_)
  refine cj 4 (fun hb2 => ?_) fun hb2 => ?_
  ·
   replace hb2 : (frL d (k + 1) y.label || ZaE d y.label) = true := hb2
   refine qso tb hJ [1000] [_] [_] ?_
   exact Ze (Y2 (m := 0) rfl rfl (eI (by subst_vars; grind [Zbo])))
  ·
   replace hb2 : (frL d (k + 1) y.label || ZaE d y.label) = false := hb2
   refine Za (nx (Zd (qso tb hJ [0,1,2,3,1000] [_] [_,_,_,_,_] ?_)))
   refine Zb (lpo (ι := Nat) (fun j => (j ≤ bs.length) ∧ ((bs.take j).any (Zh5 y) = false)) (fun _ => []) (fun j => [(14, .int (j : Nat))]) (fun j => bs.length - j) [0,1,2,3,4] [_,_,_,_] 0 ⟨Nat.zero_le _, rfl⟩ ?_)
   rintro j ⟨f1_1, f1_2⟩
   refine Zd (ZC tb hJ [0,1,2,3,4,1003] [_,_,.int (bs.length : Nat),_] [2] [_,_,_,_,_,_] rfl ⟨ZZ Zs, trivial⟩ ?_)
   refine cj 5 (fun hb3 => ?_) fun hb3 => ?_
   ·
    try simp at hb3
    refine Za (nx (Zd (Zb (ZC tb hJ [0,1,2,3,4,1007] [_,_,.ptr (hyC (ge bs j)),_,_,_,_,_] [2] [_,_,_,_,_,_] rfl ⟨iIx Zm, trivial⟩ ?_))))
    refine cj 5 (fun hb4 => ?_) fun hb4 => ?_
    ·
     try simp at hb4
     have q4 := X0 (p := Zh5 y) (xs := bs) (k := j) (by omega) (by simpa [Zh5] using hb4)
     refine qso tb hJ [1000] [_] [_] ?_
     exact Ze (Y2 (m := 0) rfl rfl (eI (by subst_vars; grind [Zbo])))
    ·
     try simp at hb4
     refine Za (nx (Yj tb hJ [0,1,2,3,1002] [_,.int (j + 1 : Nat),_] [1] [_,_,_,_,_] rfl ⟨Z2, trivial⟩ ?_))
     exact Yr (j + 1) [0,1,2,3,4] ⟨by omega, Xx (by omega) f1_2 (by simpa [Zh5] using hb4)⟩
   ·
    try simp at hb3
    have e3 := Xw (p := Zh5 y) f1_2 (by omega)
    refine Zl (nx (Zd (ZC tb hJ [0,1,2,3,1021] [_,_,_,_,_,_,_,.ptr [.lit (.string (ge y.text 0))],_,.bool (decide ((ge y.text 0) ∈ d.consts)),_,_,_,_,_,_,.ptr [.lit (.string (ge y.text 1))],_,.bool (decide ((ge y.text 1) ∈ d.vars)),_,_,_] [7,9,16,18] [_,_,_,_,_] rfl ⟨gIx (k := 0) Zh (hk := fun (hc' : (y.floating == true) = true) => by (try simp at hc'); omega), iFo hS hJ (Zak hJ (xs := d.consts) (s := (ge y.text 0)) ) YE, gIx (k := 1) Zh (hk := fun (hc' : ((y.floating == true) && ((!(decide ((ge y.text 0) ∈ d.consts))) == false)) = true) => by (try simp at hc'); have := Yf hb1 (by simp_all); omega), iFo hS hJ (Zak hJ (xs := d.vars) (s := (ge y.text 1)) ) YE, trivial⟩ ?_)))
    refine cj 4 (fun hb5 => ?_) fun hb5 => ?_
    ·
     replace hb5 : Zdd d y = true := hb5
     refine qso tb hJ [1000] [_] [_] ?_
     exact Ze (Y2 (m := 0) rfl rfl (eI (by subst_vars; grind [Zbo])))
    ·
     replace hb5 : Zdd d y = false := hb5
     refine Za (nx (Zd (qso tb hJ [0,1,2,3,1002] [_,_,_] [_,_,_,_,_] ?_)))
     refine cj 4 (fun hb6 => ?_) fun hb6 => ?_
     ·
      try simp at hb6
      refine ZC tb hJ [0,1,2,3,1004] [_,_,_,.int (QY d y.text),_] [3] [_,_,_,_,_] rfl ⟨iFo hS hJ (Zfc hJ (d := d) (l := y.text) (by first | omega | (simp; omega) | grind [Zg])) Zhw, trivial⟩ ?_
      refine qso tb hJ [0,1,2,3,4,1001] [_,_] [_,_,_,_,_,_] ?_
      refine cj 5 (fun hb7 => ?_) fun hb7 => ?_
      ·
       refine qso tb hJ [1001] [_,_] [_] ?_
       exact Ze (Y2 (m := 0) rfl rfl (eI (by subst_vars; grind [Zbo])))
      ·
       refine Za (nx (tsq ?_))
       refine Xo Zm hJ rfl rfl rfl (lb rfl) fun v1 => ?_
       refine snK 1 tb rfl ?_
       refine seK [0,2,3,4,5] [_,_,_,_,_] rfl ?_
       refine nx (Zd (qso tb hJ [0,1,2,3,4,1000] [_] [_,_,_,_,_,_] ?_))
       refine Zb (lpo (ι := Nat × Value × (List Hy)) (fun (i, _, others) => (i ≤ k) ∧ (others = oth d i) ∧ (others.length ≤ 80 * i)) (fun (_, vo, others) => [OB.row vo 109 3 (others.map hyC)]) (fun (i, vo, _) => [(17, .int (i : Nat)), (16, .lit vo)]) (fun (i, _, _) => k - i) [1,2,3,4,5,0] [_,_,_,_] (0, v1, ([] : List Hy)) ⟨Nat.zero_le _, rfl, Nat.zero_le _⟩ ?_)
       rintro ⟨i, vo, others⟩ ⟨f2_1, f2_2, f2_3⟩
       refine Zd (qso tb hJ [0,1,2,3,4,5,1002] [_,_,_] [_,_,_,_,_,_,_] ?_)
       refine cj 6 (fun hb8 => ?_) fun hb8 => ?_
       ·
        try simp at hb8
        refine Za (nx (Zd (Zb (ZN (snK 4 tb rfl ?_)))))
        refine sq (.ptr (frC (ge d.frames i))) rfl rfl (lb rfl) (fun _ _ h => Z0 (i := (i : Int)) ZD rfl (h.get 1 rfl) (h.get 0 rfl) (Int.natCast_nonneg _) (Yh (xs := d.frames) (k := i) (by first | omega | (simp; omega) | grind [Zg])) rfl h.x) ?_
        refine snK 1 tb rfl ?_
        refine sq (.rd (YC ((ge d.frames i).hyps ++ (ge d.frames i).dummies))) rfl rfl (lb rfl) (fun _ _ h => Zbi (ZmI hJ (f := (ge d.frames i)) (by have := hz i (by omega); omega)) ZbK rfl (Zo hS _ h.keep h.x) (h.x.1) (Zc (h.get 0 rfl) Zi) (jo hJ h.x)) ?_
        refine ZM (f := hyC) (m := 6) (s := 126) others ((ge d.frames i).hyps ++ (ge d.frames i).dummies) (fun _ => rfl) Xj hJ hJ0 rfl rfl rfl (lb rfl) rfl rfl (fun a w h => (h.get 0 rfl)) (by first | (have := hz i (by omega); simp; omega) | (have := hz i (by omega); refine Xf ?_; simp; omega)) (by first | (have := hz i (by omega); simp; omega) | (have := hz i (by omega); refine Xf ?_; simp; omega)) fun v2 => ?_
        refine snK 1 tb rfl ?_
        refine seK [0,2,6,9,10,11,12,13] [_,_,_,_,_,_,_,_] rfl ?_
        refine nx (ln 1 fun hl3 => ?_)
        refine ln 2 fun hl4 => ?_
        refine Yj tb hJ [0,3,4,5,6,1002] [_,.int (i + 1 : Nat),_] [1] [_,_,_,_,_,_] rfl ⟨Z2, trivial⟩ ?_
        exact Yr (i + 1, v2, others ++ ((ge d.frames i).hyps ++ (ge d.frames i).dummies)) [1,2,3,4,5,0] ⟨by omega, by rw [Q6 (by omega), f2_2], by have := hz i (by omega); simp; omega⟩
       ·
        try simp at hb8
        have hik : i = k := by omega
        rw [hik] at f2_2 f2_3
        refine Zl (nx (Zd (tw (fun h => ZB hS h (m := 5) (s := 16) rfl) ?_)))
        refine qso tb hJ [0,2,4,1001] [_,_] [_,_,_,_] ?_
        refine ln 0 fun hl5 => ?_
        refine cj 3 (fun hb9 => ?_) fun hb9 => ?_
        ·
         try simp at hb9
         have hy2 := Yf hb1 hb9
         refine Zd (fun a w h => X6 (id := 24) (t := 56) (e := 109) (size := 3) (bytes := 48) (i0 := 0) (fol := 5) (d := 18) (ch := [(2, (others.map hyC)), (4, (bs.map hyC))]) (fun ix' => ([.any, .rd (YC others), .any, .rd (YC bs), .any, .any] : List AV).getD ix' .any) (fun ix' => ([true, true, true, true, true, true] : List Bool).getD ix' true) [(0, 16, .rd (YC others)), (1, 3, .rd (YC bs)), (2, 7, .ptr (hyC y))] ((others ++ bs).map hyC) (by simp) ?r24_1 hJ hJ0 h YJ rfl rfl rfl rfl ⟨?o24_1_0, ⟨?o24_1_1, ⟨?o24_1_2, ⟨?o24_1_3, ⟨?o24_1_4, ⟨?o24_1_5, trivial⟩⟩⟩⟩⟩⟩ ⟨rfl, rfl, ⟨rfl, rfl, ⟨rfl, rfl, trivial⟩⟩⟩ (fun v3 => ?n24_1))
         case r24_1 =>
          refine Row.mk' Xj ⟨_, rfl, rfl, rfl, rfl, rfl⟩ ⟨?x24_1_0, ⟨?x24_1_1, trivial⟩⟩ ⟨_, _, _, _, rfl, rfl, rfl, rfl, rfl, rfl, rfl, rfl, rfl⟩ rfl rfl rfl
          case x24_1_0 => exact ⟨_, _, _, _, rfl, rfl, rfl, rfl, rfl, rfl, rfl, rfl, YX (f := hyC) (fun _ => rfl), (by have hm : maxLen = 9223372036854775807 := rfl; simp [upto]; first | (have := hz i (by omega); simp; omega) | (have := hz i (by omega); refine Xf ?_; simp; omega)), (by have hm : maxLen = 9223372036854775807 := rfl; simp [upto]; first | (have := hz i (by omega); simp; omega) | (have := hz i (by omega); refine Xf ?_; simp; omega)), fun _ _ _ _ _ hl => (hl.dep 1 137 _ rfl rfl rfl rfl)⟩
          case x24_1_1 => exact ⟨_, _, _, _, rfl, rfl, rfl, rfl, rfl, rfl, rfl, rfl, YX (f := hyC) (fun _ => rfl), (by have hm : maxLen = 9223372036854775807 := rfl; simp [upto]; first | (have := hz i (by omega); simp; omega) | (have := hz i (by omega); refine Xf ?_; simp; omega)), (by have hm : maxLen = 9223372036854775807 := rfl; simp [upto]; first | (have := hz i (by omega); simp; omega) | (have := hz i (by omega); refine Xf ?_; simp; omega)), fun _ _ _ _ _ hl => (hl.dep 3 139 _ rfl rfl rfl rfl)⟩
         case o24_1_0 => exact fun h => Zk rfl h
         case o24_1_1 => exact fun _ _ => ⟨rfl, fun _ _ _ hx hl _ => Yd rfl (hl.env 0 16 _ rfl rfl) hx⟩
         case o24_1_2 => exact fun h => Zk rfl h
         case o24_1_3 => exact fun _ _ => ⟨rfl, fun _ _ _ hx hl _ => Yd rfl (hl.env 1 3 _ rfl rfl) hx⟩
         case o24_1_4 => exact fun h => Zk rfl h
         case o24_1_5 => exact fun h => Zk rfl h
         clear a w h
         refine nx (Zd (tw (fun h => ZB hS h (m := 0) (s := 18) rfl) ?_))
         refine qso tb hJ [0,1,2,3,1000] [_] [_,_,_,_,_] ?_
         refine ln 0 fun hl6 => ?_
         refine Zb (lpo (ι := Nat) (fun j => (j ≤ (others ++ bs).length) ∧ (((others ++ bs).take j).any (ZeX y) = false)) (fun _ => []) (fun j => [(19, .int (j : Nat))]) (fun j => (others ++ bs).length - j) [0,1,2,3,4] [_,_,_,_] 0 ⟨Nat.zero_le _, rfl⟩ ?_)
         rintro j ⟨f3_1, f3_2⟩
         refine Zd (ZC tb hJ [0,1,2,3,4,1003] [_,_,.int ((others ++ bs).length : Nat),_] [2] [_,_,_,_,_,_] rfl ⟨ZZ Zs, trivial⟩ ?_)
         refine cj 5 (fun hb10 => ?_) fun hb10 => ?_
         ·
          try simp at hb10
          refine Za (nx (Zd (Zb (ZC tb hJ [0,1,2,3,4,1006,1021] [_,_,.ptr (hyC (ge (others ++ bs) j)),_,_,_,.rd (Zf (y.text.drop 1)),.bool (ofB (ge (others ++ bs) j) (y.text.drop 1)),_,_,_,.ptr (hyC (ge (others ++ bs) j)),_,_,.ptr [.lit (.string (ge ((ge (others ++ bs) j).text) 0))],_,_,_,.ptr [.lit (.string (ge y.text 0))],_,_,_] [2,6,7,11,14,18] [_,_,_,_,_,_,_] rfl ⟨iIx Zm, fun _ _ _ hx hl _ => YR (ys := y.text.drop 1) (lo := 1) (hi := y.text.length) (by rw [List.take_length]) Zh (fun _ => rfl) rfl (hl.dep 5 152 _ rfl rfl rfl rfl) (Rel.of_lit (Go.Value.int Go.IntKind.i64 1)) rfl (by first | omega | (simp; omega) | grind [Zg]) (by first | omega | (simp; omega) | grind [Zg]) hx, iFo hS hJ (c_of hJ (y := (ge (others ++ bs) j)) (vs := (y.text.drop 1)) ) ZaS, gIx Zm (hk := fun (hc' : ((ofB (ge (others ++ bs) j) (y.text.drop 1)) == true) = true) => by (try simp at hc'); first | omega | (simp; omega) | grind [Zg]), gIx (k := 0) Zh (hk := fun (hc' : ((ofB (ge (others ++ bs) j) (y.text.drop 1)) == true) = true) => by (try simp at hc'); have := Zjq hc'; omega), gIx (k := 0) Zh (hk := fun (hc' : ((ofB (ge (others ++ bs) j) (y.text.drop 1)) == true) = true) => by (try simp at hc'); first | omega | (simp; omega) | grind [Zg]), trivial⟩ ?_))))
          refine ln 5 fun hl7 => ?_
          refine cj 6 (fun hb11 => ?_) fun hb11 => ?_
          ·
           try simp at hb11
           have q11 := X0 (p := ZeX y) (xs := others ++ bs) (k := j) (by simp; omega) (by simpa [ZeX] using hb11)
           refine qso tb hJ [1000] [_] [_] ?_
           exact Ze (Y2 (m := 0) rfl rfl (eI (by subst_vars; grind [Zbo])))
          ·
           try simp at hb11
           refine Za (nx (Yj tb hJ [0,1,2,3,1002] [_,.int (j + 1 : Nat),_] [1] [_,_,_,_,_] rfl ⟨Z2, trivial⟩ ?_))
           exact Yr (j + 1) [0,1,2,3,4] ⟨by simp; omega, Xx (by simp; omega) f3_2 (by simp [ZeX]; grind)⟩
         ·
          try simp at hb10
          have e10 := Xw (p := ZeX y) f3_2 (by simp; omega)
          refine Zl (nx (qso tb hJ [1,2,3,1000] [_] [_,_,_,_] ?_))
          refine Zb (lpo (ι := Nat) (fun j => (j ≤ bs.length) ∧ ((bs.take j).any (hOf y) = false)) (fun _ => []) (fun j => [(20, .int (j : Nat))]) (fun j => bs.length - j) [0,1,2,3] [_,_,_] 0 ⟨Nat.zero_le _, rfl⟩ ?_)
          rintro j ⟨f4_1, f4_2⟩
          refine Zd (ZC tb hJ [0,1,2,3,1003] [_,_,.int (bs.length : Nat),_] [2] [_,_,_,_,_] rfl ⟨ZZ Zs, trivial⟩ ?_)
          refine cj 4 (fun hb12 => ?_) fun hb12 => ?_
          ·
           try simp at hb12
           refine Za (nx (Zd (Zb (ZC tb hJ [0,1,2,3,1006,1007] [_,_,.ptr (hyC (ge bs j)),_,_,_,.rd (Zf (y.text.drop 1)),.bool (ofB (ge bs j) (y.text.drop 1))] [2,6,7] [_,_,_,_,_,_] rfl ⟨iIx Zm, fun _ _ _ hx hl _ => YR (ys := y.text.drop 1) (lo := 1) (hi := y.text.length) (by rw [List.take_length]) Zh (fun _ => rfl) rfl (hl.dep 5 180 _ rfl rfl rfl rfl) (Rel.of_lit (Go.Value.int Go.IntKind.i64 1)) rfl (by first | omega | (simp; omega) | grind [Zg]) (by first | omega | (simp; omega) | grind [Zg]) hx, iFo hS hJ (c_of hJ (y := (ge bs j)) (vs := (y.text.drop 1)) ) ZaS, trivial⟩ ?_))))
           refine ln 4 fun hl8 => ?_
           refine cj 5 (fun hb13 => ?_) fun hb13 => ?_
           ·
            try simp at hb13
            have q13 := X0 (p := hOf y) (xs := bs) (k := j) (by omega) (by simpa [hOf] using hb13)
            refine qso tb hJ [1000] [_] [_] ?_
            exact Ze (Y2 (m := 0) rfl rfl (eI (by subst_vars; grind [Zbo])))
           ·
            try simp at hb13
            refine Za (nx (Yj tb hJ [0,1,2,1002] [_,.int (j + 1 : Nat),_] [1] [_,_,_,_] rfl ⟨Z2, trivial⟩ ?_))
            exact Yr (j + 1) [0,1,2,3] ⟨by omega, Xx (by omega) f4_2 (by simpa [hOf] using hb13)⟩
          ·
           try simp at hb12
           have e12 := Xw (p := hOf y) f4_2 (by omega)
           refine Zl (nx (Zd (qso tb hJ [0,2,1000] [_] [_,_,_] ?_)))
           refine Zb (lpo (ι := Nat) (fun j => (j ≤ others.length) ∧ ((others.take j).any (Zba y) = false)) (fun _ => []) (fun j => [(21, .int (j : Nat))]) (fun j => others.length - j) [0,1,2] [_,_] 0 ⟨Nat.zero_le _, rfl⟩ ?_)
           rintro j ⟨f5_1, f5_2⟩
           refine Zd (ZC tb hJ [0,1,2,1003] [_,_,.int (others.length : Nat),_] [2] [_,_,_,_] rfl ⟨ZZ Zs, trivial⟩ ?_)
           refine cj 3 (fun hb14 => ?_) fun hb14 => ?_
           ·
            try simp at hb14
            refine Za (nx (Zd (Zb (ZC tb hJ [0,1,2,1016] [_,_,.ptr (hyC (ge others j)),_,_,_,_,_,_,_,_,.ptr (hyC (ge others j)),_,_,.bool (Zh4 (ge others j) y),_,_] [2,11,14] [_,_,_,_] rfl ⟨iIx Zm, gIx Zm (hk := fun (hc' : ((decide (((ge others j).label) = y.label)) == true) = true) => by (try simp at hc'); first | omega | (simp; omega) | grind [Zg]), iFo hS hJ (ZaT hJ (x := (ge others j)) (y := y) ) ZbJ, trivial⟩ ?_))))
            refine cj 3 (fun hb15 => ?_) fun hb15 => ?_
            ·
             try simp at hb15
             have q15 := X0 (p := Zba y) (xs := others) (k := j) (by omega) (by simpa [Zba] using hb15)
             refine qso tb hJ [1000] [_] [_] ?_
             exact Ze (Y2 (m := 0) rfl rfl (eI (by subst_vars; grind [Zbo])))
            ·
             try simp at hb15
             refine Za (nx (Yj tb hJ [0,1,1002] [_,.int (j + 1 : Nat),_] [1] [_,_,_] rfl ⟨Z2, trivial⟩ ?_))
             exact Yr (j + 1) [0,1,2] ⟨by omega, Xx (by omega) f5_2 (by simp [Zba]; grind)⟩
           ·
            try simp at hb14
            have e14 := Xw (p := Zba y) f5_2 (by omega)
            refine Zl (nx (qso tb hJ [1000] [_] [_] ?_))
            exact Ze (Y2 (m := 0) rfl rfl (eI (by subst_vars; grind [Zbo])))
        ·
         try simp at hb9
         refine Za (nx (Zd (qso tb hJ [0,2,1000] [_] [_,_,_] ?_)))
         refine Zb (lpo (ι := Nat) (fun j => (j ≤ others.length) ∧ ((others.take j).any (Zba y) = false)) (fun _ => []) (fun j => [(21, .int (j : Nat))]) (fun j => others.length - j) [0,1,2] [_,_] 0 ⟨Nat.zero_le _, rfl⟩ ?_)
         rintro j ⟨f5_1, f5_2⟩
         refine Zd (ZC tb hJ [0,1,2,1003] [_,_,.int (others.length : Nat),_] [2] [_,_,_,_] rfl ⟨ZZ Zs, trivial⟩ ?_)
         refine cj 3 (fun hb14 => ?_) fun hb14 => ?_
         ·
          try simp at hb14
          refine Za (nx (Zd (Zb (ZC tb hJ [0,1,2,1016] [_,_,.ptr (hyC (ge others j)),_,_,_,_,_,_,_,_,.ptr (hyC (ge others j)),_,_,.bool (Zh4 (ge others j) y),_,_] [2,11,14] [_,_,_,_] rfl ⟨iIx Zm, gIx Zm (hk := fun (hc' : ((decide (((ge others j).label) = y.label)) == true) = true) => by (try simp at hc'); first | omega | (simp; omega) | grind [Zg]), iFo hS hJ (ZaT hJ (x := (ge others j)) (y := y) ) ZbJ, trivial⟩ ?_))))
          refine cj 3 (fun hb15 => ?_) fun hb15 => ?_
          ·
           try simp at hb15
           have q15 := X0 (p := Zba y) (xs := others) (k := j) (by omega) (by simpa [Zba] using hb15)
           refine qso tb hJ [1000] [_] [_] ?_
           exact Ze (Y2 (m := 0) rfl rfl (eI (by subst_vars; grind [Zbo])))
          ·
           try simp at hb15
           refine Za (nx (Yj tb hJ [0,1,1002] [_,.int (j + 1 : Nat),_] [1] [_,_,_] rfl ⟨Z2, trivial⟩ ?_))
           exact Yr (j + 1) [0,1,2] ⟨by omega, Xx (by omega) f5_2 (by simp [Zba]; grind)⟩
         ·
          try simp at hb14
          have e14 := Xw (p := Zba y) f5_2 (by omega)
          refine Zl (nx (qso tb hJ [1000] [_] [_] ?_))
          exact Ze (Y2 (m := 0) rfl rfl (eI (by subst_vars; grind [Zbo])))
     ·
      try simp at hb6
      refine Za (nx (tsq ?_))
      refine Xo Zm hJ rfl rfl rfl (lb rfl) fun v4 => ?_
      refine snK 1 tb rfl ?_
      refine seK [0,2,3,4,5] [_,_,_,_,_] rfl ?_
      refine nx (Zd (qso tb hJ [0,1,2,3,4,1000] [_] [_,_,_,_,_,_] ?_))
      refine Zb (lpo (ι := Nat × Value × (List Hy)) (fun (i, _, others) => (i ≤ k) ∧ (others = oth d i) ∧ (others.length ≤ 80 * i)) (fun (_, vo, others) => [OB.row vo 109 3 (others.map hyC)]) (fun (i, vo, _) => [(17, .int (i : Nat)), (16, .lit vo)]) (fun (i, _, _) => k - i) [1,2,3,4,5,0] [_,_,_,_] (0, v4, ([] : List Hy)) ⟨Nat.zero_le _, rfl, Nat.zero_le _⟩ ?_)
      rintro ⟨i, vo, others⟩ ⟨f2_1, f2_2, f2_3⟩
      refine Zd (qso tb hJ [0,1,2,3,4,5,1002] [_,_,_] [_,_,_,_,_,_,_] ?_)
      refine cj 6 (fun hb8 => ?_) fun hb8 => ?_
      ·
       try simp at hb8
       refine Za (nx (Zd (Zb (ZN (snK 4 tb rfl ?_)))))
       refine sq (.ptr (frC (ge d.frames i))) rfl rfl (lb rfl) (fun _ _ h => Z0 (i := (i : Int)) ZD rfl (h.get 1 rfl) (h.get 0 rfl) (Int.natCast_nonneg _) (Yh (xs := d.frames) (k := i) (by first | omega | (simp; omega) | grind [Zg])) rfl h.x) ?_
       refine snK 1 tb rfl ?_
       refine sq (.rd (YC ((ge d.frames i).hyps ++ (ge d.frames i).dummies))) rfl rfl (lb rfl) (fun _ _ h => Zbi (ZmI hJ (f := (ge d.frames i)) (by have := hz i (by omega); omega)) ZbK rfl (Zo hS _ h.keep h.x) (h.x.1) (Zc (h.get 0 rfl) Zi) (jo hJ h.x)) ?_
       refine ZM (f := hyC) (m := 6) (s := 126) others ((ge d.frames i).hyps ++ (ge d.frames i).dummies) (fun _ => rfl) Xj hJ hJ0 rfl rfl rfl (lb rfl) rfl rfl (fun a w h => (h.get 0 rfl)) (by first | (have := hz i (by omega); simp; omega) | (have := hz i (by omega); refine Xf ?_; simp; omega)) (by first | (have := hz i (by omega); simp; omega) | (have := hz i (by omega); refine Xf ?_; simp; omega)) fun v5 => ?_
       refine snK 1 tb rfl ?_
       refine seK [0,2,6,9,10,11,12,13] [_,_,_,_,_,_,_,_] rfl ?_
       refine nx (ln 1 fun hl9 => ?_)
       refine ln 2 fun hl10 => ?_
       refine Yj tb hJ [0,3,4,5,6,1002] [_,.int (i + 1 : Nat),_] [1] [_,_,_,_,_,_] rfl ⟨Z2, trivial⟩ ?_
       exact Yr (i + 1, v5, others ++ ((ge d.frames i).hyps ++ (ge d.frames i).dummies)) [1,2,3,4,5,0] ⟨by omega, by rw [Q6 (by omega), f2_2], by have := hz i (by omega); simp; omega⟩
      ·
       try simp at hb8
       have hik : i = k := by omega
       rw [hik] at f2_2 f2_3
       refine Zl (nx (Zd (tw (fun h => ZB hS h (m := 5) (s := 16) rfl) ?_)))
       refine qso tb hJ [0,2,4,1001] [_,_] [_,_,_,_] ?_
       refine ln 0 fun hl11 => ?_
       refine cj 3 (fun hb9 => ?_) fun hb9 => ?_
       ·
        try simp at hb9
        have hy2 := Yf hb1 hb9
        refine Zd (fun a w h => X6 (id := 24) (t := 56) (e := 109) (size := 3) (bytes := 48) (i0 := 0) (fol := 5) (d := 18) (ch := [(2, (others.map hyC)), (4, (bs.map hyC))]) (fun ix' => ([.any, .rd (YC others), .any, .rd (YC bs), .any, .any] : List AV).getD ix' .any) (fun ix' => ([true, true, true, true, true, true] : List Bool).getD ix' true) [(0, 16, .rd (YC others)), (1, 3, .rd (YC bs)), (2, 7, .ptr (hyC y))] ((others ++ bs).map hyC) (by simp) ?r24_2 hJ hJ0 h YJ rfl rfl rfl rfl ⟨?o24_2_0, ⟨?o24_2_1, ⟨?o24_2_2, ⟨?o24_2_3, ⟨?o24_2_4, ⟨?o24_2_5, trivial⟩⟩⟩⟩⟩⟩ ⟨rfl, rfl, ⟨rfl, rfl, ⟨rfl, rfl, trivial⟩⟩⟩ (fun v6 => ?n24_2))
        case r24_2 =>
         refine Row.mk' Xj ⟨_, rfl, rfl, rfl, rfl, rfl⟩ ⟨?x24_2_0, ⟨?x24_2_1, trivial⟩⟩ ⟨_, _, _, _, rfl, rfl, rfl, rfl, rfl, rfl, rfl, rfl, rfl⟩ rfl rfl rfl
         case x24_2_0 => exact ⟨_, _, _, _, rfl, rfl, rfl, rfl, rfl, rfl, rfl, rfl, YX (f := hyC) (fun _ => rfl), (by have hm : maxLen = 9223372036854775807 := rfl; simp [upto]; first | (have := hz i (by omega); simp; omega) | (have := hz i (by omega); refine Xf ?_; simp; omega)), (by have hm : maxLen = 9223372036854775807 := rfl; simp [upto]; first | (have := hz i (by omega); simp; omega) | (have := hz i (by omega); refine Xf ?_; simp; omega)), fun _ _ _ _ _ hl => (hl.dep 1 137 _ rfl rfl rfl rfl)⟩
         case x24_2_1 => exact ⟨_, _, _, _, rfl, rfl, rfl, rfl, rfl, rfl, rfl, rfl, YX (f := hyC) (fun _ => rfl), (by have hm : maxLen = 9223372036854775807 := rfl; simp [upto]; first | (have := hz i (by omega); simp; omega) | (have := hz i (by omega); refine Xf ?_; simp; omega)), (by have hm : maxLen = 9223372036854775807 := rfl; simp [upto]; first | (have := hz i (by omega); simp; omega) | (have := hz i (by omega); refine Xf ?_; simp; omega)), fun _ _ _ _ _ hl => (hl.dep 3 139 _ rfl rfl rfl rfl)⟩
        case o24_2_0 => exact fun h => Zk rfl h
        case o24_2_1 => exact fun _ _ => ⟨rfl, fun _ _ _ hx hl _ => Yd rfl (hl.env 0 16 _ rfl rfl) hx⟩
        case o24_2_2 => exact fun h => Zk rfl h
        case o24_2_3 => exact fun _ _ => ⟨rfl, fun _ _ _ hx hl _ => Yd rfl (hl.env 1 3 _ rfl rfl) hx⟩
        case o24_2_4 => exact fun h => Zk rfl h
        case o24_2_5 => exact fun h => Zk rfl h
        clear a w h
        refine nx (Zd (tw (fun h => ZB hS h (m := 0) (s := 18) rfl) ?_))
        refine qso tb hJ [0,1,2,3,1000] [_] [_,_,_,_,_] ?_
        refine ln 0 fun hl12 => ?_
        refine Zb (lpo (ι := Nat) (fun j => (j ≤ (others ++ bs).length) ∧ (((others ++ bs).take j).any (ZeX y) = false)) (fun _ => []) (fun j => [(19, .int (j : Nat))]) (fun j => (others ++ bs).length - j) [0,1,2,3,4] [_,_,_,_] 0 ⟨Nat.zero_le _, rfl⟩ ?_)
        rintro j ⟨f3_1, f3_2⟩
        refine Zd (ZC tb hJ [0,1,2,3,4,1003] [_,_,.int ((others ++ bs).length : Nat),_] [2] [_,_,_,_,_,_] rfl ⟨ZZ Zs, trivial⟩ ?_)
        refine cj 5 (fun hb10 => ?_) fun hb10 => ?_
        ·
         try simp at hb10
         refine Za (nx (Zd (Zb (ZC tb hJ [0,1,2,3,4,1006,1021] [_,_,.ptr (hyC (ge (others ++ bs) j)),_,_,_,.rd (Zf (y.text.drop 1)),.bool (ofB (ge (others ++ bs) j) (y.text.drop 1)),_,_,_,.ptr (hyC (ge (others ++ bs) j)),_,_,.ptr [.lit (.string (ge ((ge (others ++ bs) j).text) 0))],_,_,_,.ptr [.lit (.string (ge y.text 0))],_,_,_] [2,6,7,11,14,18] [_,_,_,_,_,_,_] rfl ⟨iIx Zm, fun _ _ _ hx hl _ => YR (ys := y.text.drop 1) (lo := 1) (hi := y.text.length) (by rw [List.take_length]) Zh (fun _ => rfl) rfl (hl.dep 5 152 _ rfl rfl rfl rfl) (Rel.of_lit (Go.Value.int Go.IntKind.i64 1)) rfl (by first | omega | (simp; omega) | grind [Zg]) (by first | omega | (simp; omega) | grind [Zg]) hx, iFo hS hJ (c_of hJ (y := (ge (others ++ bs) j)) (vs := (y.text.drop 1)) ) ZaS, gIx Zm (hk := fun (hc' : ((ofB (ge (others ++ bs) j) (y.text.drop 1)) == true) = true) => by (try simp at hc'); first | omega | (simp; omega) | grind [Zg]), gIx (k := 0) Zh (hk := fun (hc' : ((ofB (ge (others ++ bs) j) (y.text.drop 1)) == true) = true) => by (try simp at hc'); have := Zjq hc'; omega), gIx (k := 0) Zh (hk := fun (hc' : ((ofB (ge (others ++ bs) j) (y.text.drop 1)) == true) = true) => by (try simp at hc'); first | omega | (simp; omega) | grind [Zg]), trivial⟩ ?_))))
         refine ln 5 fun hl13 => ?_
         refine cj 6 (fun hb11 => ?_) fun hb11 => ?_
         ·
          try simp at hb11
          have q11 := X0 (p := ZeX y) (xs := others ++ bs) (k := j) (by simp; omega) (by simpa [ZeX] using hb11)
          refine qso tb hJ [1000] [_] [_] ?_
          exact Ze (Y2 (m := 0) rfl rfl (eI (by subst_vars; grind [Zbo])))
         ·
          try simp at hb11
          refine Za (nx (Yj tb hJ [0,1,2,3,1002] [_,.int (j + 1 : Nat),_] [1] [_,_,_,_,_] rfl ⟨Z2, trivial⟩ ?_))
          exact Yr (j + 1) [0,1,2,3,4] ⟨by simp; omega, Xx (by simp; omega) f3_2 (by simp [ZeX]; grind)⟩
        ·
         try simp at hb10
         have e10 := Xw (p := ZeX y) f3_2 (by simp; omega)
         refine Zl (nx (qso tb hJ [1,2,3,1000] [_] [_,_,_,_] ?_))
         refine Zb (lpo (ι := Nat) (fun j => (j ≤ bs.length) ∧ ((bs.take j).any (hOf y) = false)) (fun _ => []) (fun j => [(20, .int (j : Nat))]) (fun j => bs.length - j) [0,1,2,3] [_,_,_] 0 ⟨Nat.zero_le _, rfl⟩ ?_)
         rintro j ⟨f4_1, f4_2⟩
         refine Zd (ZC tb hJ [0,1,2,3,1003] [_,_,.int (bs.length : Nat),_] [2] [_,_,_,_,_] rfl ⟨ZZ Zs, trivial⟩ ?_)
         refine cj 4 (fun hb12 => ?_) fun hb12 => ?_
         ·
          try simp at hb12
          refine Za (nx (Zd (Zb (ZC tb hJ [0,1,2,3,1006,1007] [_,_,.ptr (hyC (ge bs j)),_,_,_,.rd (Zf (y.text.drop 1)),.bool (ofB (ge bs j) (y.text.drop 1))] [2,6,7] [_,_,_,_,_,_] rfl ⟨iIx Zm, fun _ _ _ hx hl _ => YR (ys := y.text.drop 1) (lo := 1) (hi := y.text.length) (by rw [List.take_length]) Zh (fun _ => rfl) rfl (hl.dep 5 180 _ rfl rfl rfl rfl) (Rel.of_lit (Go.Value.int Go.IntKind.i64 1)) rfl (by first | omega | (simp; omega) | grind [Zg]) (by first | omega | (simp; omega) | grind [Zg]) hx, iFo hS hJ (c_of hJ (y := (ge bs j)) (vs := (y.text.drop 1)) ) ZaS, trivial⟩ ?_))))
          refine ln 4 fun hl14 => ?_
          refine cj 5 (fun hb13 => ?_) fun hb13 => ?_
          ·
           try simp at hb13
           have q13 := X0 (p := hOf y) (xs := bs) (k := j) (by omega) (by simpa [hOf] using hb13)
           refine qso tb hJ [1000] [_] [_] ?_
           exact Ze (Y2 (m := 0) rfl rfl (eI (by subst_vars; grind [Zbo])))
          ·
           try simp at hb13
           refine Za (nx (Yj tb hJ [0,1,2,1002] [_,.int (j + 1 : Nat),_] [1] [_,_,_,_] rfl ⟨Z2, trivial⟩ ?_))
           exact Yr (j + 1) [0,1,2,3] ⟨by omega, Xx (by omega) f4_2 (by simpa [hOf] using hb13)⟩
         ·
          try simp at hb12
          have e12 := Xw (p := hOf y) f4_2 (by omega)
          refine Zl (nx (Zd (qso tb hJ [0,2,1000] [_] [_,_,_] ?_)))
          refine Zb (lpo (ι := Nat) (fun j => (j ≤ others.length) ∧ ((others.take j).any (Zba y) = false)) (fun _ => []) (fun j => [(21, .int (j : Nat))]) (fun j => others.length - j) [0,1,2] [_,_] 0 ⟨Nat.zero_le _, rfl⟩ ?_)
          rintro j ⟨f5_1, f5_2⟩
          refine Zd (ZC tb hJ [0,1,2,1003] [_,_,.int (others.length : Nat),_] [2] [_,_,_,_] rfl ⟨ZZ Zs, trivial⟩ ?_)
          refine cj 3 (fun hb14 => ?_) fun hb14 => ?_
          ·
           try simp at hb14
           refine Za (nx (Zd (Zb (ZC tb hJ [0,1,2,1016] [_,_,.ptr (hyC (ge others j)),_,_,_,_,_,_,_,_,.ptr (hyC (ge others j)),_,_,.bool (Zh4 (ge others j) y),_,_] [2,11,14] [_,_,_,_] rfl ⟨iIx Zm, gIx Zm (hk := fun (hc' : ((decide (((ge others j).label) = y.label)) == true) = true) => by (try simp at hc'); first | omega | (simp; omega) | grind [Zg]), iFo hS hJ (ZaT hJ (x := (ge others j)) (y := y) ) ZbJ, trivial⟩ ?_))))
           refine cj 3 (fun hb15 => ?_) fun hb15 => ?_
           ·
            try simp at hb15
            have q15 := X0 (p := Zba y) (xs := others) (k := j) (by omega) (by simpa [Zba] using hb15)
            refine qso tb hJ [1000] [_] [_] ?_
            exact Ze (Y2 (m := 0) rfl rfl (eI (by subst_vars; grind [Zbo])))
           ·
            try simp at hb15
            refine Za (nx (Yj tb hJ [0,1,1002] [_,.int (j + 1 : Nat),_] [1] [_,_,_] rfl ⟨Z2, trivial⟩ ?_))
            exact Yr (j + 1) [0,1,2] ⟨by omega, Xx (by omega) f5_2 (by simp [Zba]; grind)⟩
          ·
           try simp at hb14
           have e14 := Xw (p := Zba y) f5_2 (by omega)
           refine Zl (nx (qso tb hJ [1000] [_] [_] ?_))
           exact Ze (Y2 (m := 0) rfl rfl (eI (by subst_vars; grind [Zbo])))
       ·
        try simp at hb9
        refine Za (nx (Zd (qso tb hJ [0,2,1000] [_] [_,_,_] ?_)))
        refine Zb (lpo (ι := Nat) (fun j => (j ≤ others.length) ∧ ((others.take j).any (Zba y) = false)) (fun _ => []) (fun j => [(21, .int (j : Nat))]) (fun j => others.length - j) [0,1,2] [_,_] 0 ⟨Nat.zero_le _, rfl⟩ ?_)
        rintro j ⟨f5_1, f5_2⟩
        refine Zd (ZC tb hJ [0,1,2,1003] [_,_,.int (others.length : Nat),_] [2] [_,_,_,_] rfl ⟨ZZ Zs, trivial⟩ ?_)
        refine cj 3 (fun hb14 => ?_) fun hb14 => ?_
        ·
         try simp at hb14
         refine Za (nx (Zd (Zb (ZC tb hJ [0,1,2,1016] [_,_,.ptr (hyC (ge others j)),_,_,_,_,_,_,_,_,.ptr (hyC (ge others j)),_,_,.bool (Zh4 (ge others j) y),_,_] [2,11,14] [_,_,_,_] rfl ⟨iIx Zm, gIx Zm (hk := fun (hc' : ((decide (((ge others j).label) = y.label)) == true) = true) => by (try simp at hc'); first | omega | (simp; omega) | grind [Zg]), iFo hS hJ (ZaT hJ (x := (ge others j)) (y := y) ) ZbJ, trivial⟩ ?_))))
         refine cj 3 (fun hb15 => ?_) fun hb15 => ?_
         ·
          try simp at hb15
          have q15 := X0 (p := Zba y) (xs := others) (k := j) (by omega) (by simpa [Zba] using hb15)
          refine qso tb hJ [1000] [_] [_] ?_
          exact Ze (Y2 (m := 0) rfl rfl (eI (by subst_vars; grind [Zbo])))
         ·
          try simp at hb15
          refine Za (nx (Yj tb hJ [0,1,1002] [_,.int (j + 1 : Nat),_] [1] [_,_,_] rfl ⟨Z2, trivial⟩ ?_))
          exact Yr (j + 1) [0,1,2] ⟨by omega, Xx (by omega) f5_2 (by simp [Zba]; grind)⟩
        ·
         try simp at hb14
         have e14 := Xw (p := Zba y) f5_2 (by omega)
         refine Zl (nx (qso tb hJ [1000] [_] [_] ?_))
         exact Ze (Y2 (m := 0) rfl rfl (eI (by subst_vars; grind [Zbo])))

end Go.Proofs.YtnpgmdffjemnbaaGreatDoor
set_option maxHeartbeats 8000000
set_option maxRecDepth 100000
namespace Go.Proofs.YtnpgmdffjemnbaaGreatDoor
open Go.RowKit

theorem Zga {J : World → Prop} (hJ : Stab J) (d : Db) (f : Fr) (h1 : d.vars.length ≤ 8000) (h2 : f.hyps.length ≤ 40) (h3 : f.wide.length * 32 ≤ 140737488351232) (h4 : ∀ h ∈ f.hyps, h.floating = true → h.text.length = 2) : Fn Tryz.prog J 112 [.agg (dbC d), .agg (frC f)] (.bool (Zbt d f)) := by
 refine Zn (N := 113) Tryz.func112 rfl rfl (lb rfl) fun S w0 hS hJ0 => ?_
 refine tw Yb ?_
 refine ZC tb hJ [1000,1001] [.ptr (dbC d),.ptr (frC f),_] [0,1] [_,_] rfl ⟨fun _ _ hk hx hl _ => Yk rfl (hl.env 0 0 _ rfl rfl) (Zo hS _ hk hx _ (Nat.le_refl _)) (jo hJ hx), fun _ _ hk hx hl _ => Yk rfl (hl.env 1 1 _ rfl rfl) (Zo hS _ hk hx _ (Nat.le_refl _)) (jo hJ hx), trivial⟩ ?_
 refine ZC tb hJ [0,1,1001,1003,1004,1006,1007,1008] [_,_,_,_,.rd (QO (f.text :: (Yt f.hyps).map Hy.text)),_,_,.rd (Zf (XM d.vars (f.text :: (Yt f.hyps).map Hy.text).flatten)),_] [4,7] [_,_,_,_,_,_,_,_] rfl ⟨iFo hS hJ (Zih hJ (hs := f.hyps) (t := f.text) (by first | omega | (simp; omega) | grind [Zg])) Zmh, iFo hS hJ (Zgc hJ (l := (f.text :: (Yt f.hyps).map Hy.text)) (vs := d.vars) (by first | omega | (simp; omega) | grind [Zg])) Zmi, trivial⟩ ?_
 refine ln 2 fun hl1 => ?_
 refine ln 3 fun hl2 => ?_
 refine ln 4 fun hl3 => ?_
 refine ln 5 fun hl4 => ?_
 refine ln 6 fun hl5 => ?_
 refine tsq ?_
 refine Xo Zh hJ rfl rfl rfl (lb rfl) fun v1 => ?_
 refine snK 1 tb rfl ?_
 refine seK [0,2,3,9] [_,_,_,_] rfl ?_
 refine nx (Zd (qso tb hJ [0,1,2,3,1000] [_] [_,_,_,_,_] ?_))
 refine Zb (lpo (ι := Nat × Value × (List ByteArray)) (fun (k, _, found) => (k ≤ f.hyps.length) ∧ (found = Zbe (f.hyps.take k)) ∧ (found.length ≤ k) ∧ ((f.hyps.take k).all (hIn (XF d f)) = true)) (fun (_, vo, found) => [OB.row vo 9 1 (found.map QJ)]) (fun (k, vo, _) => [(7, .int (k : Nat)), (6, .lit vo)]) (fun (k, _, _) => f.hyps.length - k) [1,2,3,4,0] [_,_,_] (0, v1, ([] : List ByteArray)) ⟨Nat.zero_le _, rfl, Nat.zero_le _, rfl⟩ ?_)
 rintro ⟨k, vo, found⟩ ⟨f1_1, f1_2, f1_3, f1_4⟩
 refine Zd (ZC tb hJ [0,1,2,3,4,1004] [_,_,_,.int (f.hyps.length : Nat),_] [3] [_,_,_,_,_,_] rfl ⟨ZZ Zs, trivial⟩ ?_)
 refine cj 5 (fun hb1 => ?_) fun hb1 => ?_
 ·
  try simp at hb1
  refine Za (nx (Zd (Zb (ZC tb hJ [0,1,2,3,4,1005] [_,_,_,.ptr (hyC (ge f.hyps k)),_,_] [3] [_,_,_,_,_,_] rfl ⟨iIx Zm, trivial⟩ ?_))))
  refine cj 5 (fun hb2 => ?_) fun hb2 => ?_
  ·
   try simp at hb2
   refine Zd (ZC tb hJ [0,1,2,3,4,1007] [_,_,_,.ptr (hyC (ge f.hyps k)),_,_,.bool (ofB (ge f.hyps k) (XM d.vars (f.text :: (Yt f.hyps).map Hy.text).flatten)),_] [3,6] [_,_,_,_,_,_] rfl ⟨iIx Zm, iFo hS hJ (c_of hJ (y := (ge f.hyps k)) (vs := (XM d.vars (f.text :: (Yt f.hyps).map Hy.text).flatten)) ) ZaS, trivial⟩ ?_)
   refine cj 5 (fun hb3 => ?_) fun hb3 => ?_
   ·
    try simp at hb3
    have q3 : f.hyps.all (hIn (XF d f)) = false := Qk hb1 (by simp only [hIn, hb2, XF]; simpa using hb3)
    refine qso tb hJ [1000] [_] [_] ?_
    exact Ze (Y2 (m := 0) rfl rfl (eB (by first | (rw [Zbt, q3]; rfl) | (rw [Zbt, e1, q5]; rfl) | (rw [Zbt, e1, e4, q7]; rfl) | (rw [Zbt, e1, e4, e6]; rfl))))
   ·
    try simp at hb3
    refine Za (nx (ZN (snK 4 tb rfl ?_)))
    refine sq (.ptr (hyC (ge f.hyps k))) rfl rfl (lb rfl) (fun _ _ h => Z0 (i := (k : Int)) Zm rfl (h.get 1 rfl) (h.get 0 rfl) (Int.natCast_nonneg _) (Yh (xs := f.hyps) (k := k) (by first | omega | (simp; omega) | grind [Zg])) rfl h.x) ?_
    refine snK 2 tb rfl ?_
    refine sq (.ptr [.lit (.string (ge ((ge f.hyps k).text) 1))]) rfl rfl (lb rfl) (fun _ _ h => Z0 (i := ((1 : Nat) : Int)) Zh rfl (h.get 0 rfl) (Rel.of_lit (Go.Value.int Go.IntKind.i64 1)) (Int.natCast_nonneg _) (Yh (xs := (ge f.hyps k).text) (k := 1) (by have := h4 _ (Zg hb1) hb2; omega)) rfl h.x) ?_
    refine snK 1 tb rfl ?_
    refine sq (.rd (Zf ([(ge ((ge f.hyps k).text) 1)]))) rfl rfl (lb rfl) (fun _ _ h => ZV Zh Zal rfl (h.get 0 rfl) (Zo hS _ h.keep h.x _ (Nat.le_refl _)) (jo hJ h.x)) ?_
    refine ZM (f := QJ) (m := 9) (s := 41) found ([(ge ((ge f.hyps k).text) 1)]) (fun _ => rfl) Xu hJ hJ0 rfl rfl rfl (lb rfl) rfl rfl (fun a w h => (h.get 0 rfl)) (by first | (simp; omega) | (refine ZfB ?_; simp; omega)) (by first | (simp; omega) | (refine ZfB ?_; simp; omega)) fun v2 => ?_
    refine snK 1 tb rfl ?_
    refine seK [0,2,5,12,13,14,15] [_,_,_,_,_,_,_] rfl ?_
    refine nx (ln 1 fun hl6 => ?_)
    refine ln 2 fun hl7 => ?_
    refine Yj tb hJ [0,3,4,5,1002] [_,.int (k + 1 : Nat),_] [1] [_,_,_,_,_] rfl ⟨Z2, trivial⟩ ?_
    exact Yr (k + 1, v2, found ++ ([(ge ((ge f.hyps k).text) 1)])) [1,2,3,4,0] ⟨by omega, by rw [f1_2, Zbe, Zbe, ZA (by omega)]; simp [hb2], by simp; omega, by rw [Y4 (by omega), f1_4]; simp only [hIn, hb2, XF]; simpa using hb3⟩
  ·
   try simp at hb2
   refine Za (nx (Yj tb hJ [0,1,2,4,1002] [_,.int (k + 1 : Nat),_] [1] [_,_,_,_,_] rfl ⟨Z2, trivial⟩ ?_))
   exact Yr (k + 1, vo, found) [0,1,2,4,3] ⟨by omega, by rw [f1_2, Zbe, Zbe, ZA (by omega)]; simp [hb2], by omega, by rw [Y4 (by omega), f1_4]; simp [hIn, hb2]⟩
 ·
  try simp at hb1
  have e1 : f.hyps.all (hIn (XF d f)) = true := by rw [← Zu (xs := f.hyps) (by omega)]; exact f1_4
  have f1_2' : found = Zbe f.hyps := by rw [f1_2, Zu (by omega)]
  refine Zl (nx (Zd (tw (fun h => ZB hS h (m := 4) (s := 6) rfl) ?_)))
  refine qso tb hJ [0,1,2,3,1000] [_] [_,_,_,_,_] ?_
  refine ln 0 fun hl8 => ?_
  refine Zb (lpo (ι := Nat) (fun k => (k ≤ (XF d f).length) ∧ (((XF d f).take k).all (fun s => decide (s ∈ Zbe f.hyps)) = true)) (fun _ => []) (fun k => [(8, .int (k : Nat))]) (fun k => (XF d f).length - k) [0,1,2,3,4] [_,_,_,_] 0 ⟨Nat.zero_le _, rfl⟩ ?_)
  rintro k ⟨f2_1, f2_2⟩
  refine Zd (ZC tb hJ [0,1,2,3,4,1003] [_,_,.int ((XM d.vars (f.text :: (Yt f.hyps).map Hy.text).flatten).length : Nat),_] [2] [_,_,_,_,_,_] rfl ⟨ZZ Zr, trivial⟩ ?_)
  refine cj 5 (fun hb4 => ?_) fun hb4 => ?_
  ·
   try simp at hb4
   have hb4' := hb4
   replace hb4 : k < (XF d f).length := hb4
   refine Za (nx (Zd (Zb (ZC tb hJ [0,1,2,3,4,1006] [_,_,_,.ptr [.lit (.string (ge (XM d.vars (f.text :: (Yt f.hyps).map Hy.text).flatten) k))],_,.bool (decide ((ge (XM d.vars (f.text :: (Yt f.hyps).map Hy.text).flatten) k) ∈ found)),_] [3,5] [_,_,_,_,_,_] rfl ⟨iIx Zh, iFo hS hJ (Zak hJ (xs := found) (s := (ge (XM d.vars (f.text :: (Yt f.hyps).map Hy.text).flatten) k)) ) YE, trivial⟩ ?_))))
   refine cj 5 (fun hb5 => ?_) fun hb5 => ?_
   ·
    try simp at hb5
    have q5 : (XF d f).all (fun s => decide (s ∈ Zbe f.hyps)) = false := Qk hb4 (decide_eq_false (by rw [← f1_2']; exact hb5))
    refine qso tb hJ [1000] [_] [_] ?_
    exact Ze (Y2 (m := 0) rfl rfl (eB (by first | (rw [Zbt, q3]; rfl) | (rw [Zbt, e1, q5]; rfl) | (rw [Zbt, e1, e4, q7]; rfl) | (rw [Zbt, e1, e4, e6]; rfl))))
   ·
    try simp at hb5
    refine Za (nx (Yj tb hJ [0,1,2,3,1002] [_,.int (k + 1 : Nat),_] [1] [_,_,_,_,_] rfl ⟨Z2, trivial⟩ ?_))
    exact Yr (k + 1) [0,1,2,3,4] ⟨by omega, by rw [Y4 hb4, f2_2, Bool.true_and]; exact decide_eq_true (by rw [← f1_2']; exact hb5)⟩
  ·
   try simp at hb4
   replace hb4 : (XF d f).length ≤ k := hb4
   have e4 : (XF d f).all (fun s => decide (s ∈ Zbe f.hyps)) = true := by rw [← Zu (xs := XF d f) hb4]; exact f2_2
   refine Zl (nx (Zd (qso tb hJ [1,2,3,1000] [_] [_,_,_,_] ?_)))
   refine Zb (lpo (ι := Nat) (fun k => (k ≤ f.wide.length) ∧ ((f.wide.take k).any (ZoT d) = false)) (fun _ => []) (fun k => [(9, .int (k : Nat))]) (fun k => f.wide.length - k) [0,1,2,3] [_,_,_] 0 ⟨Nat.zero_le _, rfl⟩ ?_)
   rintro k ⟨f3_1, f3_2⟩
   refine Zd (ZC tb hJ [0,1,2,3,1002,1004] [_,_,_,.int (f.wide.length : Nat),_] [3] [_,_,_,_,_,_] rfl ⟨ZZ ZY, trivial⟩ ?_)
   refine ln 4 fun hl9 => ?_
   refine cj 5 (fun hb6 => ?_) fun hb6 => ?_
   ·
    try simp at hb6
    refine Za (nx (Zd (Zb (tsq ?_))))
    refine snK 3 tb rfl ?_
    refine sq (.ptr (prC (ge f.wide k))) rfl rfl (lb rfl) (fun _ _ h => Z0 (i := (k : Int)) Zv rfl (h.get 1 rfl) (h.get 0 rfl) (Int.natCast_nonneg _) (Yh (xs := f.wide) (k := k) (by first | omega | (simp; omega) | grind [Zg])) rfl h.x) ?_
    refine snK 1 tb rfl ?_
    refine QP (cs := prC (ge f.wide k)) Zee rfl rfl rfl (lb rfl) rfl rfl rfl (by decide) (m := 0) rfl rfl (fun a w h => Zo hS _ h.keep h.x _ (Nat.le_refl _)) (fun a w h w' hk' => YQ hJ _ _ hk' h.x) ?_
    refine seK [0,6,7,8,9] [_,_,_,_,_] rfl ?_
    refine nx (ZC tb hJ [1,2,3,4,1020] [_,_,_,_,_,_,_,_,_,_,.bool (decide (((ge f.wide k).a) ∈ d.vars)),_,_,_,_,_,_,_,.bool (decide (((ge f.wide k).b) ∈ d.vars)),_,_] [10,18] [_,_,_,_,_] rfl ⟨iFo hS hJ (Zak hJ (xs := d.vars) (s := ((ge f.wide k).a)) ) YE, iFo hS hJ (Zak hJ (xs := d.vars) (s := ((ge f.wide k).b)) ) YE, trivial⟩ ?_)
    refine cj 4 (fun hb7 => ?_) fun hb7 => ?_
    ·
     have q7 : f.wide.any (ZoT d) = true := X0 (by omega : k < f.wide.length) hb7
     refine qso tb hJ [1000] [_] [_] ?_
     exact Ze (Y2 (m := 0) rfl rfl (eB (by first | (rw [Zbt, q3]; rfl) | (rw [Zbt, e1, q5]; rfl) | (rw [Zbt, e1, e4, q7]; rfl) | (rw [Zbt, e1, e4, e6]; rfl))))
    ·
     refine Za (nx (Yj tb hJ [0,1,2,1002] [_,.int (k + 1 : Nat),_] [1] [_,_,_,_] rfl ⟨Z2, trivial⟩ ?_))
     exact Yr (k + 1) [0,1,2,3] ⟨by omega, Xx (by omega) f3_2 hb7⟩
   ·
    try simp at hb6
    have e6 := Xw (p := ZoT d) f3_2 (by omega)
    refine Zl (nx (ZC tb hJ [1004,1015] [_,_,_,_,.rd (YI (ZcM f.wide ([] : List Pr))),.bool (decide (f.wide = (ZcM f.wide ([] : List Pr)))),_,_,_,_,_,_,.rd (YI (f.wide.filter (inV (XM d.vars (f.text :: (Yt f.hyps).map Hy.text).flatten)))),.bool (decide (f.apart = (f.wide.filter (inV (XM d.vars (f.text :: (Yt f.hyps).map Hy.text).flatten))))),_,_] [4,5,12,13] [_,_] rfl ⟨fun _ _ hk hx hl _ => Zbi (c_Join hJ (ws := f.wide) (zs := ([] : List Pr)) (by simp only [List.length_nil]; omega)) Zmg rfl (Zo hS _ hk hx) (hx.1) (Zc (hl.dep 3 101 _ rfl rfl rfl rfl) (Zc (X8 (Rel.of_lit (Go.Value.slice none 0 0))) Zi)) (jo hJ hx), iFo hS hJ (Zcz hJ (xs := f.wide) (ys := (ZcM f.wide ([] : List Pr))) ) Zhr, fun _ _ hk hx hl hc => Zbi (ZmD hJ (l := f.wide) (vs := (XM d.vars (f.text :: (Yt f.hyps).map Hy.text).flatten)) (by have hc' : ((decide (f.wide = (ZcM f.wide ([] : List Pr)))) == true) = true := hc; (try simp at hc'); (omega))) Zmf rfl (Zo hS _ hk hx) (hx.1) (Zc (hl.dep 10 108 _ rfl rfl rfl hc) (Zc (hl.dep 11 109 _ rfl rfl rfl hc) Zi)) (jo hJ hx), iFo hS hJ (Zcz hJ (xs := f.apart) (ys := (f.wide.filter (inV (XM d.vars (f.text :: (Yt f.hyps).map Hy.text).flatten)))) ) Zhr, trivial⟩ ?_))
    refine ln 0 fun hl10 => ?_
    exact Ze (Y2 (m := 1) rfl rfl (eB (by first | (rw [Zbt, q3]; rfl) | (rw [Zbt, e1, q5]; rfl) | (rw [Zbt, e1, e4, q7]; rfl) | (rw [Zbt, e1, e4, e6]; rfl))))

theorem Zkk {J : World → Prop} (hJ : Stab J) (d : Db)  : Fn Tryz.prog J 79 [.agg (dbC d)] (.int (Q1 d)) := by
 refine Zn (N := 63) Tryz.func79 rfl rfl (lb rfl) fun S w0 hS hJ0 => ?_
 clear hJ0
 refine hqs tb hJ [1000] [.ptr (dbC d),_] [0] [_] rfl ⟨fun _ _ hk hx hl _ => Yk rfl (hl.env 0 0 _ rfl rfl) (hS _ hk.size) (js hJ hx), trivial⟩ ?_
 refine Zd (qs tb hJ [0,1000] [_] [_,_] ?_)
 refine Zb (lp (ι := Nat) (fun k => (k ≤ d.consts.length) ∧ (∀ j, j < k → ZcO d j = 0)) (fun k => [(3, .int (k : Nat))]) (fun k => d.consts.length - k) [0,1] [_] 0 ⟨Nat.zero_le _, fun j hj => by omega⟩ ?_)
 rintro k ⟨f1_1, f1_2⟩
 refine Zd (hqs tb hJ [0,1,1002,1004] [_,_,_,.int (d.consts.length : Nat),_] [3] [_,_,_,_] rfl ⟨ZZ Zr, trivial⟩ ?_)
 refine ln 2 fun hl1 => ?_
 refine cj 3 (fun hb1 => ?_) fun hb1 => ?_
 try simp at hb1
 refine Za (nx (Zd (Zb (Zd (hqs tb hJ [0,1,1006] [_,_,_,.ptr [.lit (.string (ge d.consts k))],_,.bool (Zdt (ge d.consts k)),_] [3,5] [_,_,_] rfl ⟨iIx Zh, iFn hS hJ (Zdm hJ (s := (ge d.consts k)) ) Zhx, trivial⟩ ?_)))))
 refine cj 2 (fun hb2 => ?_) fun hb2 => ?_
 try simp at hb2
 have q2 : ZcO d k = 2 := by simp [ZcO, hb2]
 refine qs tb hJ [1000] [_] [_] ?_
 exact Ze (rtn (m := 0) rfl rfl (eI (by first | (have := Z3 (by omega : k < d.consts.length) f1_2 (by rw [q2]; decide); rw [Q1, this, q2]; rfl) | (have := Z3 (by omega : k < d.vars.length) f2_2 (by rw [q5]; decide); rw [Q1, e1, this, q5]; rfl) | (rw [Q1, e1, e4]; rfl))))
 try simp at hb2
 refine Za (nx (hqs tb hJ [0,1,1003,1009] [_,_,_,.rd (Zf (d.consts.take k)),_,_,_,.ptr [.lit (.string (ge d.consts k))],_,.bool (decide ((ge d.consts k) ∈ (d.consts.take k)))] [3,7,9] [_,_,_,_] rfl ⟨fun _ _ _ hx hl _ => YR (ys := d.consts.take k) (lo := 0) (hi := k) List.drop_zero Zh (fun _ => rfl) rfl (hl.dep 1 20 _ rfl rfl rfl rfl) rfl (hl.dep 2 21 _ rfl rfl rfl rfl) (by first | omega | (simp; omega) | grind [Zg]) (by first | omega | (simp; omega) | grind [Zg]) hx, iIx Zh, iFn hS hJ (Zak hJ (xs := (d.consts.take k)) (s := (ge d.consts k)) ) YE, trivial⟩ ?_))
 refine ln 2 fun hl2 => ?_
 refine cj 3 (fun hb3 => ?_) fun hb3 => ?_
 try simp at hb3
 have q2 : ZcO d k = 6 := by simp [ZcO, hb2, hb3]
 refine qs tb hJ [1000] [_] [_] ?_
 exact Ze (rtn (m := 0) rfl rfl (eI (by first | (have := Z3 (by omega : k < d.consts.length) f1_2 (by rw [q2]; decide); rw [Q1, this, q2]; rfl) | (have := Z3 (by omega : k < d.vars.length) f2_2 (by rw [q5]; decide); rw [Q1, e1, this, q5]; rfl) | (rw [Q1, e1, e4]; rfl))))
 try simp at hb3
 refine Za (nx (hqp tb hJ [0,1002] [_,.int (k + 1 : Nat),_] [1] [_,_] rfl ⟨Z2, trivial⟩ ?_))
 exact lpE (k + 1) [0,1] ⟨by omega, ZH f1_2 (by simp_all [ZcO])⟩
 try simp at hb1
 have e1 : YN d.consts.length (ZcO d) = 0 := Xb fun j hj => f1_2 j (by omega)
 refine Zl (nx (Zd (qs tb hJ [0,1000] [_] [_,_] ?_)))
 refine Zb (lp (ι := Nat) (fun k => (k ≤ d.vars.length) ∧ (∀ j, j < k → Zeb d j = 0)) (fun k => [(4, .int (k : Nat))]) (fun k => d.vars.length - k) [0,1] [_] 0 ⟨Nat.zero_le _, fun j hj => by omega⟩ ?_)
 rintro k ⟨f2_1, f2_2⟩
 refine Zd (hqs tb hJ [0,1,1002,1004] [_,_,_,.int (d.vars.length : Nat),_] [3] [_,_,_,_] rfl ⟨ZZ Zr, trivial⟩ ?_)
 refine ln 2 fun hl3 => ?_
 refine cj 3 (fun hb4 => ?_) fun hb4 => ?_
 try simp at hb4
 refine Za (nx (Zd (Zb (Zd (hqs tb hJ [0,1,1006] [_,_,_,.ptr [.lit (.string (ge d.vars k))],_,.bool (Zdt (ge d.vars k)),_] [3,5] [_,_,_] rfl ⟨iIx Zh, iFn hS hJ (Zdm hJ (s := (ge d.vars k)) ) Zhx, trivial⟩ ?_)))))
 refine cj 2 (fun hb5 => ?_) fun hb5 => ?_
 try simp at hb5
 have q5 : Zeb d k = 2 := by simp [Zeb, hb5]
 refine qs tb hJ [1000] [_] [_] ?_
 exact Ze (rtn (m := 0) rfl rfl (eI (by first | (have := Z3 (by omega : k < d.consts.length) f1_2 (by rw [q2]; decide); rw [Q1, this, q2]; rfl) | (have := Z3 (by omega : k < d.vars.length) f2_2 (by rw [q5]; decide); rw [Q1, e1, this, q5]; rfl) | (rw [Q1, e1, e4]; rfl))))
 try simp at hb5
 refine Za (nx (hqs tb hJ [0,1,1019] [_,_,_,_,_,.ptr [.lit (.string (ge d.vars k))],_,.bool (decide ((ge d.vars k) ∈ d.consts)),_,_,_,_,.rd (Zf (d.vars.take k)),_,_,_,.ptr [.lit (.string (ge d.vars k))],_,.bool (decide ((ge d.vars k) ∈ (d.vars.take k))),_] [5,7,12,16,18] [_,_,_] rfl ⟨iIx Zh, iFn hS hJ (Zak hJ (xs := d.consts) (s := (ge d.vars k)) ) YE, fun _ _ _ hx hl hc => YR (ys := d.vars.take k) (lo := 0) (hi := k) List.drop_zero Zh (fun _ => rfl) rfl (hl.dep 10 53 _ rfl rfl rfl hc) rfl (hl.dep 11 54 _ rfl rfl rfl hc) (by have hc' : ((decide ((ge d.vars k) ∈ d.consts)) == false) = true := hc; (try simp at hc'); (first | omega | (simp; omega) | grind [Zg])) (by have hc' : ((decide ((ge d.vars k) ∈ d.consts)) == false) = true := hc; (try simp at hc'); (first | omega | (simp; omega) | grind [Zg])) hx, gIx Zh (hk := fun (hc' : ((decide ((ge d.vars k) ∈ d.consts)) == false) = true) => by (try simp at hc'); first | omega | (simp; omega) | grind [Zg]), iFn hS hJ (Zak hJ (xs := (d.vars.take k)) (s := (ge d.vars k)) ) YE, trivial⟩ ?_))
 refine cj 2 (fun hb6 => ?_) fun hb6 => ?_
 try simp at hb6
 have q5 : Zeb d k = 6 := by simp_all [Zeb]
 refine qs tb hJ [1000] [_] [_] ?_
 exact Ze (rtn (m := 0) rfl rfl (eI (by first | (have := Z3 (by omega : k < d.consts.length) f1_2 (by rw [q2]; decide); rw [Q1, this, q2]; rfl) | (have := Z3 (by omega : k < d.vars.length) f2_2 (by rw [q5]; decide); rw [Q1, e1, this, q5]; rfl) | (rw [Q1, e1, e4]; rfl))))
 try simp at hb6
 refine Za (nx (hqp tb hJ [0,1002] [_,.int (k + 1 : Nat),_] [1] [_,_] rfl ⟨Z2, trivial⟩ ?_))
 exact lpE (k + 1) [0,1] ⟨by omega, ZH f2_2 (by simp_all [Zeb])⟩
 try simp at hb4
 have e4 : YN d.vars.length (Zeb d) = 0 := Xb fun j hj => f2_2 j (by omega)
 refine Zl (nx (qs tb hJ [1000] [_] [_] ?_))
 exact Ze (rtn (m := 0) rfl rfl (eI (by first | (have := Z3 (by omega : k < d.consts.length) f1_2 (by rw [q2]; decide); rw [Q1, this, q2]; rfl) | (have := Z3 (by omega : k < d.vars.length) f2_2 (by rw [q5]; decide); rw [Q1, e1, this, q5]; rfl) | (rw [Q1, e1, e4]; rfl))))
end Go.Proofs.YtnpgmdffjemnbaaGreatDoor
set_option maxHeartbeats 8000000
set_option maxRecDepth 100000
namespace Go.Proofs.YtnpgmdffjemnbaaGreatDoor
open Go.RowKit

theorem ZoR {J : World → Prop} (hJ : Stab J) (d : Db) (k : Nat) (hk0 : k < d.frames.length) (hf : d.frames.length ≤ 400) (hv : d.vars.length ≤ 8000) (hz : ∀ i, i < k → (ge d.frames i).hyps.length ≤ 40 ∧ (ge d.frames i).dummies.length ≤ 40) (hw : (ge d.frames k).wide.length * 32 ≤ 140737488351232) : Fn Tryz.prog J 80 [.agg (dbC d), .int (k : Nat)] (.int (frE d k)) := by
 refine Zn (N := 154) Tryz.func80 rfl rfl (lb rfl) fun S w0 hS hJ0 => ?_
 clear hJ0
 refine hqs tb hJ [1,1000] [.ptr (dbC d),_] [0] [_,_] rfl ⟨fun _ _ hk hx hl _ => Yk rfl (hl.env 0 0 _ rfl rfl) (hS _ hk.size) (js hJ hx), trivial⟩ ?_
 refine tsq ?_
 refine snK 3 tb rfl ?_
 refine sq (.ptr (frC (ge d.frames k))) rfl rfl (lb rfl) (fun _ _ h => Z0 (i := (k : Int)) ZD rfl (h.get 1 rfl) (h.get 0 rfl) (Int.natCast_nonneg _) (Yh (xs := d.frames) (k := k) (by first | omega | (simp; omega) | grind [Zg])) rfl h.x) ?_
 refine snK 1 tb rfl ?_
 refine QP (cs := frC (ge d.frames k)) Zds rfl rfl rfl (lb rfl) rfl rfl rfl (by decide) (m := 0) rfl rfl (fun a w h => hS _ h.keep.size) (fun a w h w' hk' => hJ _ _ hk' h.x) ?_
 refine seK [0,4,6,7] [_,_,_,_] rfl ?_
 refine nx (ln 1 fun hl1 => ?_)
 refine Zd (hqs tb hJ [0,2,3,1003] [_,_,.bool (Zbn ((ge d.frames k).label)),_] [2] [_,_,_,_] rfl ⟨iFn hS hJ (ZcA hJ (s := ((ge d.frames k).label)) ) Zd2, trivial⟩ ?_)
 refine cj 3 (fun hb1 => ?_) fun hb1 => ?_
 ·
  try simp at hb1
  refine qs tb hJ [1000] [_] [_] ?_
  exact Ze (rtn (m := 0) rfl rfl (eI (by first | (show Zao d k j = _; have q6 : Zao d k j ≠ 0 := Q8 hb5; rw [frE, ZaY]; grind) | (rw [frE, ZaY]; grind))))
 ·
  try simp at hb1
  refine Za (nx (Zd (hqs tb hJ [0,1,2,1008,1009] [_,_,_,_,.tup [.bool (frL d k ((ge d.frames k).label)), .bool (hyL d k ((ge d.frames k).label))],_,_,_,_,_] [4] [_,_,_,_,_] rfl ⟨iFn hS hJ (Zgd hJ (d := d) (n := k) (s := ((ge d.frames k).label)) (by first | omega | (simp; omega) | grind [Zg]) (hz)) Zd1, trivial⟩ ?_)))
  refine hqs tb hJ [0,1,2,1009] [_,_,_,_,_,_,_,_,.bool (ZaE d ((ge d.frames k).label)),_] [8] [_,_,_,_] rfl ⟨iFn hS hJ (Zd3 hJ (d := d) (s := ((ge d.frames k).label)) ) Zd0, trivial⟩ ?_
  refine cj 3 (fun hb2 => ?_) fun hb2 => ?_
  ·
   refine qs tb hJ [1000] [_] [_] ?_
   exact Ze (rtn (m := 0) rfl rfl (eI (by first | (show Zao d k j = _; have q6 : Zao d k j ≠ 0 := Q8 hb5; rw [frE, ZaY]; grind) | (rw [frE, ZaY]; grind))))
  ·
   refine Za (nx (Zd (hqs tb hJ [0,1,2,1001,1009] [_,_,.int (((ge d.frames k).hyps).length : Nat),_,_,_,_,.int (((ge d.frames k).dummies).length : Nat),_,_] [2,7] [_,_,_,_,_] rfl ⟨ZZ Zs, ZZ Zs, trivial⟩ ?_)))
   refine ln 3 fun hl2 => ?_
   refine cj 4 (fun hb3 => ?_) fun hb3 => ?_
   ·
    refine qs tb hJ [1000] [_] [_] ?_
    exact Ze (rtn (m := 0) rfl rfl (eI (by first | (show Zao d k j = _; have q6 : Zao d k j ≠ 0 := Q8 hb5; rw [frE, ZaY]; grind) | (rw [frE, ZaY]; grind))))
   ·
    have e3 : (ge d.frames k).hyps.length ≤ 40 ∧ (ge d.frames k).dummies.length ≤ 40 := by simp at hb3; omega
    refine Za (nx (hqs tb hJ [0,1,2,1001,1002] [_,.rd (YC ((ge d.frames k).hyps ++ (ge d.frames k).dummies)),_] [1] [_,_,_,_,_] rfl ⟨iFn hS hJ (ZmI hJ (f := (ge d.frames k)) (by first | omega | (simp; omega) | grind [Zg])) ZbK, trivial⟩ ?_))
    refine ln 3 fun hl3 => ?_
    refine Zd (qs tb hJ [0,1,2,4,1000] [_] [_,_,_,_,_] ?_)
    refine Zb (lp (ι := Nat) (fun j => (j ≤ ((ge d.frames k).hyps ++ (ge d.frames k).dummies).length) ∧ (∀ i, i < j → Zao d k i = 0)) (fun j => [(9, .int (j : Nat))]) (fun j => ((ge d.frames k).hyps ++ (ge d.frames k).dummies).length - j) [0,1,2,3,4] [_,_,_,_] 0 ⟨Nat.zero_le _, fun j hj => by omega⟩ ?_)
    rintro j ⟨f1_1, f1_2⟩
    refine Zd (hqs tb hJ [0,1,2,3,4,1003] [_,_,.int (((ge d.frames k).hyps ++ (ge d.frames k).dummies).length : Nat),_] [2] [_,_,_,_,_,_] rfl ⟨ZZ Zs, trivial⟩ ?_)
    refine cj 5 (fun hb4 => ?_) fun hb4 => ?_
    ·
     try simp at hb4
     refine Za (nx (Zd (Zb (hqs tb hJ [0,1,2,3,4,1008,1015] [_,_,_,_,.ptr (hyC (ge ((ge d.frames k).hyps ++ (ge d.frames k).dummies) j)),_,_,_,.rd (YC (((ge d.frames k).hyps ++ (ge d.frames k).dummies).take j)),_,_,_,.int (((ge d.frames k).hyps).length : Nat),_,.int (Zbo d k (ge ((ge d.frames k).hyps ++ (ge d.frames k).dummies) j) (((ge d.frames k).hyps ++ (ge d.frames k).dummies).take j) (decide (((((ge d.frames k).hyps).length : Nat) : Int) ≤ (j : Int)))),_] [4,8,12,14] [_,_,_,_,_,_,_] rfl ⟨iIx Zm, fun _ _ _ hx hl _ => YR (ys := ((ge d.frames k).hyps ++ (ge d.frames k).dummies).take j) (lo := 0) (hi := j) List.drop_zero Zm (fun _ => rfl) rfl (hl.dep 6 68 _ rfl rfl rfl rfl) rfl (hl.dep 7 69 _ rfl rfl rfl rfl) (by first | omega | (simp; omega) | grind [Zg]) (by first | omega | (simp; omega) | grind [Zg]) hx, ZZ Zs, iFn hS hJ (Zfb hJ (d := d) (k := k) (y := (ge ((ge d.frames k).hyps ++ (ge d.frames k).dummies) j)) (bs := (((ge d.frames k).hyps ++ (ge d.frames k).dummies).take j)) (dm := (decide (((((ge d.frames k).hyps).length : Nat) : Int) ≤ (j : Int)))) (by first | omega | (simp; omega) | grind [Zg]) (by first | omega | (simp; omega) | grind [Zg]) (by intro i hi; by_cases e : i = k; (subst e; exact e3); exact hz i (by omega)) (by have := List.length_take_le' j ((ge d.frames k).hyps ++ (ge d.frames k).dummies); simp at this ⊢; omega)) Zmy, trivial⟩ ?_))))
     refine ln 5 fun hl4 => ?_
     refine qs tb hJ [0,1,2,3,4,6,1001] [_,_] [_,_,_,_,_,_,_] ?_
     refine cj 6 (fun hb5 => ?_) fun hb5 => ?_
     ·
      have q5 : Zkt d k = Zao d k j := Z3 (by simp; omega) f1_2 (Q8 hb5)
      refine qs tb hJ [1001] [_,_] [_] ?_
      exact Ze (rtn (m := 0) rfl rfl (eI (by first | (show Zao d k j = _; have q6 : Zao d k j ≠ 0 := Q8 hb5; rw [frE, ZaY]; grind) | (rw [frE, ZaY]; grind))))
     ·
      refine Za (nx (hqp tb hJ [0,1,2,3,1002] [_,.int (j + 1 : Nat),_] [1] [_,_,_,_,_] rfl ⟨Z2, trivial⟩ ?_))
      exact lpE (j + 1) [0,1,2,3,4] ⟨by simp; omega, ZH f1_2 (Zcd hb5)⟩
    ·
     try simp at hb4
     have e4 : Zkt d k = 0 := Xb fun i hi => f1_2 i (by simp at hb4 hi; omega)
     refine Zl (nx (Zd (hqs tb hJ [0,1,2,1001,1009] [_,_,.int (((ge d.frames k).text).length : Nat),_,_,_,_,.int (((ge d.frames k).text).length : Nat),_,_] [2,7] [_,_,_,_,_] rfl ⟨ZZ Zr, ZZ Zr, trivial⟩ ?_)))
     refine ln 3 fun hl5 => ?_
     refine cj 4 (fun hb6 => ?_) fun hb6 => ?_
     ·
      refine qs tb hJ [1000] [_] [_] ?_
      exact Ze (rtn (m := 0) rfl rfl (eI (by first | (show Zao d k j = _; have q6 : Zao d k j ≠ 0 := Q8 hb5; rw [frE, ZaY]; grind) | (rw [frE, ZaY]; grind))))
     ·
      refine Za (nx (Zd (hqs tb hJ [0,1,2,1004] [_,_,_,.int (QY d ((ge d.frames k).text)),_] [3] [_,_,_,_] rfl ⟨iFn hS hJ (Zfc hJ (d := d) (l := ((ge d.frames k).text)) (by first | omega | (simp; omega) | grind [Zg])) Zhw, trivial⟩ ?_)))
      refine qs tb hJ [0,1,2,3,1001] [_,_] [_,_,_,_,_] ?_
      refine cj 4 (fun hb7 => ?_) fun hb7 => ?_
      ·
       try simp at hb7
       refine qs tb hJ [1001] [_,_] [_] ?_
       exact Ze (rtn (m := 0) rfl rfl (eI (by first | (show Zao d k j = _; have q6 : Zao d k j ≠ 0 := Q8 hb5; rw [frE, ZaY]; grind) | (rw [frE, ZaY]; grind))))
      ·
       try simp at hb7
       refine Za (nx (Zd (hqs tb hJ [0,1,2,1003] [_,_,.bool (Zbt d (ge d.frames k)),_] [2] [_,_,_,_] rfl ⟨iFn hS hJ (Zga hJ (d := d) (f := (ge d.frames k)) (by first | omega | (simp; omega) | grind [Zg]) (by first | omega | (simp; omega) | grind [Zg]) (hw) (fun h hh => Zlz e4 h (by simp [hh]))) Zmx, trivial⟩ ?_)))
       refine cj 3 (fun hb8 => ?_) fun hb8 => ?_
       ·
        try simp at hb8
        refine qs tb hJ [1000] [_] [_] ?_
        exact Ze (rtn (m := 0) rfl rfl (eI (by first | (show Zao d k j = _; have q6 : Zao d k j ≠ 0 := Q8 hb5; rw [frE, ZaY]; grind) | (rw [frE, ZaY]; grind))))
       ·
        try simp at hb8
        refine Za (nx (Zd (hqs tb hJ [0,1,2,1001,1014] [_,_,.int (((ge d.frames k).proof).length : Nat),_,_,_,_,_,_,_,_,_,.int (((ge d.frames k).proof).length : Nat),_,_] [2,12] [_,_,_,_,_] rfl ⟨ZZ Zr, ZZ Zr, trivial⟩ ?_)))
        refine ln 3 fun hl6 => ?_
        refine cj 4 (fun hb9 => ?_) fun hb9 => ?_
        ·
         refine qs tb hJ [1000] [_] [_] ?_
         exact Ze (rtn (m := 0) rfl rfl (eI (by first | (show Zao d k j = _; have q6 : Zao d k j ≠ 0 := Q8 hb5; rw [frE, ZaY]; grind) | (rw [frE, ZaY]; grind))))
        ·
         refine Za (nx (Zd (qs tb hJ [0,1,2,1000] [_] [_,_,_,_] ?_)))
         refine Zb (lp (ι := Nat) (fun j => (j ≤ (ge d.frames k).proof.length) ∧ (((ge d.frames k).proof.take j).all Yz = true)) (fun j => [(12, .int (j : Nat))]) (fun j => (ge d.frames k).proof.length - j) [0,1,2,3] [_,_,_] 0 ⟨Nat.zero_le _, rfl⟩ ?_)
         rintro j ⟨f2_1, f2_2⟩
         refine Zd (hqs tb hJ [0,1,2,3,1004] [_,_,_,.int (((ge d.frames k).proof).length : Nat),_] [3] [_,_,_,_,_] rfl ⟨ZZ Zr, trivial⟩ ?_)
         refine cj 4 (fun hb10 => ?_) fun hb10 => ?_
         ·
          try simp at hb10
          refine Za (nx (Zd (Zb (hqs tb hJ [0,1,2,3,1006] [_,_,_,.ptr [.lit (.string (ge ((ge d.frames k).proof) j))],_,.bool (Yz (ge ((ge d.frames k).proof) j)),_] [3,5] [_,_,_,_,_] rfl ⟨iIx Zh, iFn hS hJ (Zkl hJ (s := (ge ((ge d.frames k).proof) j)) ) Zmw, trivial⟩ ?_))))
          refine cj 4 (fun hb11 => ?_) fun hb11 => ?_
          ·
           try simp at hb11
           have q11 : (ge d.frames k).proof.all Yz = false := Qk hb10 hb11
           refine qs tb hJ [1000] [_] [_] ?_
           exact Ze (rtn (m := 0) rfl rfl (eI (by first | (show Zao d k j = _; have q6 : Zao d k j ≠ 0 := Q8 hb5; rw [frE, ZaY]; grind) | (rw [frE, ZaY]; grind))))
          ·
           try simp at hb11
           refine Za (nx (hqp tb hJ [0,1,2,1002] [_,.int (j + 1 : Nat),_] [1] [_,_,_,_] rfl ⟨Z2, trivial⟩ ?_))
           exact lpE (j + 1) [0,1,2,3] ⟨by omega, by rw [Y4 (by omega), f2_2]; simpa using hb11⟩
         ·
          try simp at hb10
          have e10 : (ge d.frames k).proof.all Yz = true := by rw [← Zu (xs := (ge d.frames k).proof) (by omega)]; exact f2_2
          refine Zl (nx (hqs tb hJ [1,2,1001,1002] [_,.rd (Zf ((Yt (ge d.frames k).hyps).map Hy.label)),_] [1] [_,_,_,_] rfl ⟨iFn hS hJ (Zbs hJ (f := (ge d.frames k)) (by first | omega | (simp; omega) | grind [Zg])) Zhv, trivial⟩ ?_))
          refine ln 2 fun hl7 => ?_
          refine Zd (hqs tb hJ [0,1,3,1002,1005] [_,_,.rd (Zf (Zgj d k)),_,.int (ZbG (Zgj d k) ((Yt (ge d.frames k).hyps).map Hy.label) : Nat),_] [2,4] [_,_,_,_,_] rfl ⟨iFn hS hJ (ZmF hJ (d := d) (k := k) (by first | omega | (simp; omega) | grind [Zg]) (by first | omega | (simp; omega) | grind [Zg]) (fun h => (hz (k - 1) (by omega)).1)) Zmu, iFn hS hJ (ZmE hJ (xs := (Zgj d k)) (ys := ((Yt (ge d.frames k).hyps).map Hy.label)) ) Zmv, trivial⟩ ?_)
          refine ln 3 fun hl8 => ?_
          refine Zb (lp (ι := Nat) (fun m => (ZbG (Zgj d k) ((Yt (ge d.frames k).hyps).map Hy.label) ≤ m) ∧ (m ≤ ((Yt (ge d.frames k).hyps).map Hy.label).length) ∧ (∀ i, ZbG (Zgj d k) ((Yt (ge d.frames k).hyps).map Hy.label) ≤ i → i < m → hyL d k (ge ((Yt (ge d.frames k).hyps).map Hy.label) i) = false)) (fun m => [(14, .int (m : Nat))]) (fun m => ((Yt (ge d.frames k).hyps).map Hy.label).length - m) [0,1,2,4] [_,_,_] (ZbG (Zgj d k) ((Yt (ge d.frames k).hyps).map Hy.label)) ⟨Nat.le_refl _, Zf2 _ _, fun i h1 h2 => by omega⟩ ?_)
          rintro m ⟨f3_1, f3_2, f3_3⟩
          refine Zd (hqs tb hJ [0,1,2,3,1003] [_,_,.int (((Yt (ge d.frames k).hyps).map Hy.label).length : Nat),_] [2] [_,_,_,_,_] rfl ⟨ZZ Zr, trivial⟩ ?_)
          refine cj 4 (fun hb12 => ?_) fun hb12 => ?_
          ·
           replace hb12 : m < ((Yt (ge d.frames k).hyps).map Hy.label).length := by have := of_decide_eq_true hb12; omega
           refine Za (nx (Zd (Zb (hqs tb hJ [0,1,2,3,1011] [_,_,_,_,.ptr [.lit (.string (ge ((Yt (ge d.frames k).hyps).map Hy.label) m))],_,.tup [.bool (frL d k (ge ((Yt (ge d.frames k).hyps).map Hy.label) m)), .bool (hyL d k (ge ((Yt (ge d.frames k).hyps).map Hy.label) m))],_,_,_,_,_] [4,6] [_,_,_,_,_] rfl ⟨iIx Zh, iFn hS hJ (Zgd hJ (d := d) (n := k) (s := (ge ((Yt (ge d.frames k).hyps).map Hy.label) m)) (by first | omega | (simp; omega) | grind [Zg]) (hz)) Zd1, trivial⟩ ?_))))
           refine qs tb hJ [0,1,2,3,1000] [_] [_,_,_,_,_] ?_
           refine cj 4 (fun hb13 => ?_) fun hb13 => ?_
           ·
            try simp at hb13
            have q13 : ordB d k (ge d.frames k) = true := ZlQ f3_1 hb12 hb13
            refine qs tb hJ [1000] [_] [_] ?_
            exact Ze (rtn (m := 0) rfl rfl (eI (by first | (show Zao d k j = _; have q6 : Zao d k j ≠ 0 := Q8 hb5; rw [frE, ZaY]; grind) | (rw [frE, ZaY]; grind))))
           ·
            try simp at hb13
            refine Za (nx (hqp tb hJ [0,1,2,1002] [_,.int (m + 1 : Nat),_] [1] [_,_,_,_] rfl ⟨Z2, trivial⟩ ?_))
            exact lpE (m + 1) [0,1,2,3] ⟨by omega, by omega, fun i h1 h2 => by by_cases e : i = m; (subst e; simpa using hb13); exact f3_3 i h1 (by omega)⟩
          ·
           replace hb12 : ((Yt (ge d.frames k).hyps).map Hy.label).length ≤ m := by have := of_decide_eq_false hb12; omega
           have e12 : ordB d k (ge d.frames k) = false := ZjZ fun i h1 h2 => f3_3 i h1 (by omega)
           refine Zl (nx (qs tb hJ [1000] [_] [_] ?_))
           exact Ze (rtn (m := 0) rfl rfl (eI (by first | (show Zao d k j = _; have q6 : Zao d k j ≠ 0 := Q8 hb5; rw [frE, ZaY]; grind) | (rw [frE, ZaY]; grind))))

theorem Zgf {J : World → Prop} (hJ : Stab J) (d : Db) (hw : ∀ i, i < d.frames.length → (ge d.frames i).wide.length * 32 ≤ 140737488351232) : Fn Tryz.prog J 62 [.agg (dbC d)] (.int (Xk d)) := by
 refine Zn (N := 40) Tryz.func62 rfl rfl (lb rfl) fun S w0 hS hJ0 => ?_
 clear hJ0
 refine hqs tb hJ [1000] [.ptr (dbC d),_] [0] [_] rfl ⟨fun _ _ hk hx hl _ => Yk rfl (hl.env 0 0 _ rfl rfl) (hS _ hk.size) (js hJ hx), trivial⟩ ?_
 refine Zd (hqs tb hJ [0,1001,1015] [_,_,.int (d.frames.length : Nat),_,_,_,_,.int (d.consts.length : Nat),_,_,_,_,_,.int (d.vars.length : Nat),_,_] [2,7,13] [_,_,_] rfl ⟨ZZ Z7, ZZ Zr, ZZ Zr, trivial⟩ ?_)
 refine ln 1 fun hl1 => ?_
 refine cj 2 (fun hb1 => ?_) fun hb1 => ?_
 refine qs tb hJ [1000] [_] [_] ?_
 exact Ze (rtn (m := 0) rfl rfl (eI (by rw [Xk]; grind)))
 have e1 : (d.frames.length ≤ 400 ∧ d.consts.length ≤ 8000) ∧ d.vars.length ≤ 8000 := by simp at hb1; omega
 refine Za (nx (Zd (hqs tb hJ [0,1002] [_,.int (Q1 d),_] [1] [_,_] rfl ⟨iFn hS hJ (Zkk hJ (d := d) ) Zop, trivial⟩ ?_)))
 refine qs tb hJ [0,1,1001] [_,_] [_,_,_] ?_
 refine cj 2 (fun hb2 => ?_) fun hb2 => ?_
 try simp at hb2
 refine qs tb hJ [1001] [_,_] [_] ?_
 exact Ze (rtn (m := 0) rfl rfl (eI (by rw [Xk]; grind)))
 try simp at hb2
 refine Za (nx (Zd (qs tb hJ [0,1000] [_] [_,_] ?_)))
 refine Zb (lp (ι := Nat) (fun k => (k ≤ d.frames.length) ∧ (∀ i, i < k → frE d i = 0)) (fun k => [(4, .int (k : Nat))]) (fun k => d.frames.length - k) [0,1] [_] 0 ⟨Nat.zero_le _, fun j hj => by omega⟩ ?_)
 rintro k ⟨f1_1, f1_2⟩
 refine Zd (hqs tb hJ [0,1,1004] [_,_,_,.int (d.frames.length : Nat),_] [3] [_,_,_] rfl ⟨ZZ Z7, trivial⟩ ?_)
 refine cj 2 (fun hb3 => ?_) fun hb3 => ?_
 try simp at hb3
 refine Za (nx (Zd (Zb (hqs tb hJ [0,1,1003] [_,_,.int (frE d k),_] [2] [_,_,_] rfl ⟨iFn hS hJ (ZoR hJ (d := d) (k := k) (by first | omega | (simp; omega) | grind [Zg]) (e1.1.1) (e1.2) (fun i hi => Zhf (f1_2 i hi)) (hw k (by omega))) Zoo, trivial⟩ ?_))))
 refine qs tb hJ [0,1,2,1001] [_,_] [_,_,_,_] ?_
 refine cj 3 (fun hb4 => ?_) fun hb4 => ?_
 try simp at hb4
 have q4 := Z3 (by omega) f1_2 hb4
 refine qs tb hJ [1001] [_,_] [_] ?_
 exact Ze (rtn (m := 0) rfl rfl (eI (by rw [Xk]; grind)))
 try simp at hb4
 refine Za (nx (hqp tb hJ [0,1002] [_,.int (k + 1 : Nat),_] [1] [_,_] rfl ⟨Z2, trivial⟩ ?_))
 exact lpE (k + 1) [0,1] ⟨by omega, ZH f1_2 hb4⟩
 try simp at hb3
 have e3 : YN d.frames.length (frE d) = 0 := Xb fun i hi => f1_2 i (by omega)
 refine Zl (nx (qs tb hJ [1000] [_] [_] ?_))
 exact Ze (rtn (m := 0) rfl rfl (eI (by rw [Xk]; grind)))
end Go.Proofs.YtnpgmdffjemnbaaGreatDoor
set_option maxHeartbeats 8000000
set_option maxRecDepth 100000
namespace Go.Proofs.YtnpgmdffjemnbaaGreatDoor
open Go.RowKit

theorem Znm {J : World → Prop} (hJ : Stab J) (d : Db) (s : ByteArray)  : Fn Tryz.prog J 66 [.agg (dbC d), .str s] (.int (ZX d s)) := by
 refine Zn (N := 22) Tryz.func66 rfl rfl (lb rfl) fun S w0 hS hJ0 => ?_
 clear hJ0
 refine hqs tb hJ [1,1000] [.ptr (dbC d),_] [0] [_,_] rfl ⟨fun _ _ hk hx hl _ => Yk rfl (hl.env 0 0 _ rfl rfl) (hS _ hk.size) (js hJ hx), trivial⟩ ?_
 refine Zd (qs tb hJ [0,1,1000] [_] [_,_,_] ?_)
 refine Zb (lp (ι := Nat) (fun k => (k ≤ d.frames.length) ∧ (∀ j, j < k → ¬ (ge d.frames j).label = s)) (fun k => [(5, .int (k : Nat))]) (fun k => d.frames.length - k) [0,1,2] [_,_] 0 ⟨Nat.zero_le _, fun j hj => by omega⟩ ?_)
 rintro k ⟨f1_1, f1_2⟩
 refine Zd (hqs tb hJ [0,1,2,1002,1004] [_,_,_,.int (d.frames.length : Nat),_] [3] [_,_,_,_,_] rfl ⟨ZZ Z7, trivial⟩ ?_)
 refine ln 3 fun hl1 => ?_
 refine cj 4 (fun hb1 => ?_) fun hb1 => ?_
 try simp at hb1
 refine Za (nx (Zd (Zb (hqs tb hJ [0,1,2,1007] [_,_,_,.ptr (frC (ge d.frames k)),_,_,_,_] [3] [_,_,_,_] rfl ⟨iIx ZD, trivial⟩ ?_))))
 refine cj 3 (fun hb2 => ?_) fun hb2 => ?_
 try simp at hb2
 refine qs tb hJ [1001] [_,_] [_] ?_
 exact Ze (rtn (m := 0) rfl rfl (eI (by first | exact (Ze5 hb1 hb2 f1_2).symm | exact (Zdi fun j hj => f1_2 j (by omega)).symm)))
 try simp at hb2
 refine Za (nx (hqp tb hJ [0,1,1002] [_,.int (k + 1 : Nat),_] [1] [_,_,_] rfl ⟨Z2, trivial⟩ ?_))
 exact lpE (k + 1) [0,1,2] ⟨by omega, ZH f1_2 hb2⟩
 try simp at hb1
 refine Zl (nx (qs tb hJ [1000] [_] [_] ?_))
 exact Ze (rtn (m := 0) rfl rfl (eI (by first | exact (Ze5 hb1 hb2 f1_2).symm | exact (Zdi fun j hj => f1_2 j (by omega)).symm)))
theorem Zkj {J : World → Prop} (hJ : Stab J) (d : Db) (i : Nat) (hi : i < d.frames.length) (hf : d.frames.length ≤ 400) : Fn Tryz.prog J 45 [.agg (dbC d), .int (i : Nat)] (.rd (ZJ (ZT d i))) := by
 refine Zn (N := 81) Tryz.func45 rfl rfl (lb rfl) fun S w0 hS hJ0 => ?_
 refine tw Yb ?_
 refine ZC tb hJ [1,1000] [.ptr (dbC d),_] [0] [_,_] rfl ⟨fun _ _ hk hx hl _ => Yk rfl (hl.env 0 0 _ rfl rfl) (Zo hS _ hk hx _ (Nat.le_refl _)) (jo hJ hx), trivial⟩ ?_
 refine tsq ?_
 refine Xo Zq hJ rfl rfl rfl (lb rfl) fun v1 => ?_
 refine snK 1 tb rfl ?_
 refine seK [0,2,3] [_,_,_] rfl ?_
 refine nx (tsq ?_)
 refine snK 3 tb rfl ?_
 refine sq (.ptr (frC (ge d.frames i))) rfl rfl (lb rfl) (fun _ _ h => Z0 (i := (i : Int)) ZD rfl (h.get 1 rfl) (h.get 0 rfl) (Int.natCast_nonneg _) (Yh (xs := d.frames) (k := i) (by first | omega | (simp; omega) | grind [Zg])) rfl h.x) ?_
 refine snK 1 tb rfl ?_
 refine QP (cs := frC (ge d.frames i)) Zds rfl rfl rfl (lb rfl) rfl rfl rfl (by decide) (m := 0) rfl rfl (fun a w h => Zo hS _ h.keep h.x _ (Nat.le_refl _)) (fun a w h w' hk' => YQ hJ _ _ hk' h.x) ?_
 refine seK [0,4,6,7,8] [_,_,_,_,_] rfl ?_
 refine nx (ln 1 fun hl1 => ?_)
 refine Zd (qso tb hJ [0,2,3,4,1002] [_,_,_] [_,_,_,_,_] ?_)
 refine cj 4 (fun hb1 => ?_) fun hb1 => ?_
 try simp at hb1
 refine qso tb hJ [1001] [_,_] [_] ?_
 refine tw (fun h => ZB hS h (m := 0) (s := 4) rfl) ?_
 exact Ze (Y2 (m := 0) rfl rfl (congrArg (fun z => AV.rd (ZJ z)) (show ([] : List Int) = (ZT d i) from by grind [ZT])))
 try simp at hb1
 refine Za (nx (qso tb hJ [1,2,3,1001,1002] [_,_,_] [_,_,_,_,_] ?_))
 refine ln 3 fun hl2 => ?_
 refine Zd (ZC tb hJ [0,1,2,4,1008] [_,.int (((ge d.frames i).proof).length : Nat),_,_,_,.ptr [.lit (.string (ge ((ge d.frames i).proof) 0))],_,_,_] [1,5] [_,_,_,_,_] rfl ⟨ZZ Zr, gIx (k := 0) Zh (hk := fun (hc' : ((decide ((0 : Int) < ((((ge d.frames i).proof).length : Nat) : Int))) == true) = true) => by (try simp at hc'); first | omega | (simp; omega) | grind [Zg]), trivial⟩ ?_)
 refine cj 4 (fun hb2 => ?_) fun hb2 => ?_
 try simp at hb2
 refine qso tb hJ [0,1,2,3,1000] [_] [_,_,_,_,_] ?_
 refine Zd (Zb (lpo (ι := Nat) (fun n => (1 ≤ n) ∧ (n ≤ (ge d.frames i).proof.length) ∧ (∀ j, 1 ≤ j → j < n → ge (ge d.frames i).proof j ≠ ⟨#[41]⟩)) (fun _ => [OB.row v1 3 1 (([] : List Int).map Xa)]) (fun n => [(8, .int (n : Nat))]) (fun n => (ge d.frames i).proof.length - n) [0,1,2,3,4] [_,_,_,_] 1 ⟨Nat.le_refl _, by omega, fun j h1 h2 => by omega⟩ ?_))
 rintro n ⟨f1_1, f1_2, f1_3⟩
 refine Zd (ZC tb hJ [0,1,2,3,4,1010] [_,_,.int (((ge d.frames i).proof).length : Nat),_,_,_,_,.ptr [.lit (.string (ge ((ge d.frames i).proof) n))],_,_,_] [2,7] [_,_,_,_,_,_] rfl ⟨ZZ Zr, gIx Zh (hk := fun (hc' : ((decide ((n : Int) < ((((ge d.frames i).proof).length : Nat) : Int))) == true) = true) => by (try simp at hc'); first | omega | (simp; omega) | grind [Zg]), trivial⟩ ?_)
 refine cj 5 (fun hb3 => ?_) fun hb3 => ?_
 try simp at hb3
 refine Za (nx (Zb (Yj tb hJ [0,1,2,3,1002] [_,.int (n + 1 : Nat),_] [1] [_,_,_,_,_] rfl ⟨Z2, trivial⟩ ?_)))
 exact Yr (n + 1) [0,1,2,3,4] ⟨by omega, by omega, fun j h1 h2 => by by_cases e : j = n; (subst e; exact hb3.2); exact f1_3 j h1 (by omega)⟩
 try simp at hb3
 refine Zl (nx (Yj tb hJ [0,1,2,1002,1003] [_,_,.rd (Zf ((((ge d.frames i).proof).take n).drop 1)),_] [2] [_,_,_,_,_] rfl ⟨fun _ _ _ hx hl _ => YR (ys := (((ge d.frames i).proof).take n).drop 1) (lo := 1) (hi := n) rfl Zh (fun _ => rfl) rfl (hl.dep 0 45 _ rfl rfl rfl rfl) (Rel.of_lit (Go.Value.int Go.IntKind.i64 1)) (hl.dep 1 46 _ rfl rfl rfl rfl) (by first | omega | (simp; omega) | grind [Zg]) (by first | omega | (simp; omega) | grind [Zg]) hx, trivial⟩ ?_))
 refine nx (ln 3 fun hl3 => ?_)
 refine Zd (tw (sa 4 rfl (congrArg (fun z' => AV.rd (Zf z')) (show ((((ge d.frames i).proof).take n).drop 1) = (X9 (ge d.frames i).proof) from by first | exact ZeO hb2 f1_1 f1_2 f1_3 (by grind) | exact Ql (by grind)))) ?_)
 refine qso tb hJ [0,1,2,4,1000] [_] [_,_,_,_,_] ?_
 refine ln 3 fun hl4 => ?_
 refine Zb (lpo (ι := Nat × Value × (List Int)) (fun (k, _, out) => (k ≤ i) ∧ (out = QK d (X9 (ge d.frames i).proof) k) ∧ (out.length ≤ k)) (fun (_, vo, out) => [OB.row vo 3 1 (out.map Xa)]) (fun (k, vo, _) => [(9, .int (k : Nat)), (5, .lit vo)]) (fun (k, _, _) => i - k) [1,2,3,4,0] [_,_,_] (0, v1, ([] : List Int)) ⟨Nat.zero_le _, rfl, Nat.zero_le _⟩ ?_)
 rintro ⟨k, vo, out⟩ ⟨f2_1, f2_2, f2_3⟩
 refine Zd (qso tb hJ [0,1,2,3,4,1002] [_,_,_] [_,_,_,_,_,_] ?_)
 refine cj 5 (fun hb4 => ?_) fun hb4 => ?_
 try simp at hb4
 refine Za (nx (Zd (Zb (qso tb hJ [0,1,2,3,4,1000] [_] [_,_,_,_,_,_] ?_))))
 refine Zb (lpo (ι := Nat × Value × (List Int)) (fun (n, _, out2) => (n ≤ (X9 (ge d.frames i).proof).length) ∧ (out2 = Qg d (X9 (ge d.frames i).proof) k n) ∧ (out2.length ≤ k + 1)) (fun (_, vp, out2) => [OB.row vp 3 1 (out2.map Xa)]) (fun (n, vp, _) => [(10, .int (n : Nat)), (5, .lit vp)]) (fun (n, _, _) => (X9 (ge d.frames i).proof).length - n) [0,1,2,3,5,4] [_,_,_,_] (0, vo, out) ⟨Nat.zero_le _, by simp [f2_2, Qg], by omega⟩ ?_)
 rintro ⟨n, vp, out2⟩ ⟨f3_1, f3_2, f3_3⟩
 refine Zd (ZC tb hJ [0,1,2,3,4,5,1003] [_,_,.int ((X9 (ge d.frames i).proof).length : Nat),_] [2] [_,_,_,_,_,_,_] rfl ⟨ZZ Zr, trivial⟩ ?_)
 refine cj 6 (fun hb5 => ?_) fun hb5 => ?_
 try simp at hb5
 refine Za (nx (Zd (Zb (Zfp tb hJ [0,1,2,3,4,5,1016] [_,_,.ptr [.lit (.string (ge (X9 (ge d.frames i).proof) n))],_,_,_,_,.ptr (frC (ge d.frames k)),_,_,_,_,_,_,.bool (decide ((k : Int) ∈ out2)),_,_] [2,7,14] [_,_,_,_,_,_,_] rfl ⟨iIx Zh, iIx ZD, fun _ _ hk hx hl hc => Zbi (ZoQ hJ (xs := out2) (n := (k : Int)) ) Zav rfl (nm hS hk) (hx.1) (Zc (YA hS hx (mo 0 rfl) (hl.dep 12 71 _ rfl rfl rfl hc)) (Zc (hl.dep 13 72 _ rfl rfl rfl hc) Zi)) (jo hJ hx), trivial⟩ ?_))))
 refine cj 6 (fun hb6 => ?_) fun hb6 => ?_
 try simp at hb6
 refine ZN (snK 2 tb rfl ?_)
 refine sq (.rd (ZJ ([(k : Int)]))) rfl rfl (lb rfl) (fun _ _ h => ZV Zq XT rfl (h.get 0 rfl) (Zo hS _ h.keep h.x _ (Nat.le_refl _)) (jo hJ h.x)) ?_
 refine ZM (f := Xa) (m := 2) (s := 76) out2 ([(k : Int)]) (fun _ => rfl) YT hJ hJ0 rfl rfl rfl (lb rfl) rfl rfl (fun a w h => (h.get 0 rfl)) (by simp; omega) (by simp; omega) fun v2 => ?_
 refine snK 1 tb rfl ?_
 refine seK [0,2,5,6,7,8,9] [_,_,_,_,_,_,_] rfl ?_
 refine nx (ln 1 fun hl5 => ?_)
 refine Yj tb hJ [0,2,3,4,5,1002] [_,.int (n + 1 : Nat),_] [1] [_,_,_,_,_,_] rfl ⟨Z2, trivial⟩ ?_
 exact Yr (n + 1, v2, out2 ++ ([(k : Int)])) [1,2,3,4,5,0] ⟨by omega, by rw [f3_2]; exact ZaA hb5 hb6.1 (f3_2 ▸ hb6.2), by have e := ZaA hb5 hb6.1 (f3_2 ▸ hb6.2); rw [f3_2, e]; exact Zeh _ _ _ _⟩
 try simp at hb6
 refine Za (nx (Yj tb hJ [0,1,2,3,5,1002] [_,.int (n + 1 : Nat),_] [1] [_,_,_,_,_,_] rfl ⟨Z2, trivial⟩ ?_))
 exact Yr (n + 1, vp, out2) [0,1,2,3,5,4] ⟨by omega, by rw [f3_2]; exact ZcT hb5 (fun e => f3_2 ▸ hb6 e), by omega⟩
 try simp at hb5
 refine Zl (nx (Yj tb hJ [0,1,2,5,1002] [_,.int (k + 1 : Nat),_] [1] [_,_,_,_,_] rfl ⟨Z2, trivial⟩ ?_))
 exact Yr (k + 1, vp, out2) [0,1,2,4,3] ⟨by omega, by rw [f3_2]; exact Zei hb5, by omega⟩
 try simp at hb4
 refine Zl (nx (qso tb hJ [1001] [_,_] [_] ?_))
 refine tw (fun h => ZB hS h (m := 0) (s := 4) rfl) ?_
 exact Ze (Y2 (m := 0) rfl rfl (congrArg (fun z => AV.rd (ZJ z)) (show out = (ZT d i) from by grind [ZT])))
 try simp at hb2
 refine Za (nx (Zd (tw (sa 3 rfl (congrArg (fun z' => AV.rd (Zf z')) (show ((ge d.frames i).proof) = (X9 (ge d.frames i).proof) from by first | exact ZeO hb2 f1_1 f1_2 f1_3 (by grind) | exact Ql (by grind)))) ?_)))
 refine qso tb hJ [0,1,2,3,1000] [_] [_,_,_,_,_] ?_
 refine ln 3 fun hl6 => ?_
 refine Zb (lpo (ι := Nat × Value × (List Int)) (fun (k, _, out) => (k ≤ i) ∧ (out = QK d (X9 (ge d.frames i).proof) k) ∧ (out.length ≤ k)) (fun (_, vo, out) => [OB.row vo 3 1 (out.map Xa)]) (fun (k, vo, _) => [(9, .int (k : Nat)), (5, .lit vo)]) (fun (k, _, _) => i - k) [1,2,3,4,0] [_,_,_] (0, v1, ([] : List Int)) ⟨Nat.zero_le _, rfl, Nat.zero_le _⟩ ?_)
 rintro ⟨k, vo, out⟩ ⟨f2_1, f2_2, f2_3⟩
 refine Zd (qso tb hJ [0,1,2,3,4,1002] [_,_,_] [_,_,_,_,_,_] ?_)
 refine cj 5 (fun hb4 => ?_) fun hb4 => ?_
 try simp at hb4
 refine Za (nx (Zd (Zb (qso tb hJ [0,1,2,3,4,1000] [_] [_,_,_,_,_,_] ?_))))
 refine Zb (lpo (ι := Nat × Value × (List Int)) (fun (n, _, out2) => (n ≤ (X9 (ge d.frames i).proof).length) ∧ (out2 = Qg d (X9 (ge d.frames i).proof) k n) ∧ (out2.length ≤ k + 1)) (fun (_, vp, out2) => [OB.row vp 3 1 (out2.map Xa)]) (fun (n, vp, _) => [(10, .int (n : Nat)), (5, .lit vp)]) (fun (n, _, _) => (X9 (ge d.frames i).proof).length - n) [0,1,2,3,5,4] [_,_,_,_] (0, vo, out) ⟨Nat.zero_le _, by simp [f2_2, Qg], by omega⟩ ?_)
 rintro ⟨n, vp, out2⟩ ⟨f3_1, f3_2, f3_3⟩
 refine Zd (ZC tb hJ [0,1,2,3,4,5,1003] [_,_,.int ((X9 (ge d.frames i).proof).length : Nat),_] [2] [_,_,_,_,_,_,_] rfl ⟨ZZ Zr, trivial⟩ ?_)
 refine cj 6 (fun hb5 => ?_) fun hb5 => ?_
 try simp at hb5
 refine Za (nx (Zd (Zb (Zfp tb hJ [0,1,2,3,4,5,1016] [_,_,.ptr [.lit (.string (ge (X9 (ge d.frames i).proof) n))],_,_,_,_,.ptr (frC (ge d.frames k)),_,_,_,_,_,_,.bool (decide ((k : Int) ∈ out2)),_,_] [2,7,14] [_,_,_,_,_,_,_] rfl ⟨iIx Zh, iIx ZD, fun _ _ hk hx hl hc => Zbi (ZoQ hJ (xs := out2) (n := (k : Int)) ) Zav rfl (nm hS hk) (hx.1) (Zc (YA hS hx (mo 0 rfl) (hl.dep 12 71 _ rfl rfl rfl hc)) (Zc (hl.dep 13 72 _ rfl rfl rfl hc) Zi)) (jo hJ hx), trivial⟩ ?_))))
 refine cj 6 (fun hb6 => ?_) fun hb6 => ?_
 try simp at hb6
 refine ZN (snK 2 tb rfl ?_)
 refine sq (.rd (ZJ ([(k : Int)]))) rfl rfl (lb rfl) (fun _ _ h => ZV Zq XT rfl (h.get 0 rfl) (Zo hS _ h.keep h.x _ (Nat.le_refl _)) (jo hJ h.x)) ?_
 refine ZM (f := Xa) (m := 2) (s := 76) out2 ([(k : Int)]) (fun _ => rfl) YT hJ hJ0 rfl rfl rfl (lb rfl) rfl rfl (fun a w h => (h.get 0 rfl)) (by simp; omega) (by simp; omega) fun v3 => ?_
 refine snK 1 tb rfl ?_
 refine seK [0,2,5,6,7,8,9] [_,_,_,_,_,_,_] rfl ?_
 refine nx (ln 1 fun hl7 => ?_)
 refine Yj tb hJ [0,2,3,4,5,1002] [_,.int (n + 1 : Nat),_] [1] [_,_,_,_,_,_] rfl ⟨Z2, trivial⟩ ?_
 exact Yr (n + 1, v3, out2 ++ ([(k : Int)])) [1,2,3,4,5,0] ⟨by omega, by rw [f3_2]; exact ZaA hb5 hb6.1 (f3_2 ▸ hb6.2), by have e := ZaA hb5 hb6.1 (f3_2 ▸ hb6.2); rw [f3_2, e]; exact Zeh _ _ _ _⟩
 try simp at hb6
 refine Za (nx (Yj tb hJ [0,1,2,3,5,1002] [_,.int (n + 1 : Nat),_] [1] [_,_,_,_,_,_] rfl ⟨Z2, trivial⟩ ?_))
 exact Yr (n + 1, vp, out2) [0,1,2,3,5,4] ⟨by omega, by rw [f3_2]; exact ZcT hb5 (fun e => f3_2 ▸ hb6 e), by omega⟩
 try simp at hb5
 refine Zl (nx (Yj tb hJ [0,1,2,5,1002] [_,.int (k + 1 : Nat),_] [1] [_,_,_,_,_] rfl ⟨Z2, trivial⟩ ?_))
 exact Yr (k + 1, vp, out2) [0,1,2,4,3] ⟨by omega, by rw [f3_2]; exact Zei hb5, by omega⟩
 try simp at hb4
 refine Zl (nx (qso tb hJ [1001] [_,_] [_] ?_))
 refine tw (fun h => ZB hS h (m := 0) (s := 4) rfl) ?_
 exact Ze (Y2 (m := 0) rfl rfl (congrArg (fun z => AV.rd (ZJ z)) (show out = (ZT d i) from by grind [ZT])))
end Go.Proofs.YtnpgmdffjemnbaaGreatDoor
set_option maxHeartbeats 8000000
set_option maxRecDepth 100000
namespace Go.Proofs.YtnpgmdffjemnbaaGreatDoor
open Go.RowKit

theorem Q5 {J : World → Prop} (hJ : Stab J) (M1 : Nat) (M2 : Nat) (M3 : Nat) (M4 : Nat) (M5 : Nat) (cs : List ByteArray) (vs : List ByteArray) (s : ByteArray)  : FnR Tryz.prog J 87 [OB.set keyS M1 cs, OB.set keyS M2 vs] [.ptr (mpC [M1, M2, M3, M4, M5]), .str s] (.bool (decide (s ∈ cs) || decide (s ∈ vs))) := by
 refine Z1 (N := 19) Tryz.func87 rfl rfl (lb rfl) fun S w0 hS hJ0 hH => ?_
 clear hJ0
 refine qs tb hJ [0,1] [_] [_,_] ?_
 refine hqs tb hJ [1014] [_,_,_,_,_,.bool (decide (s ∈ cs)),_,_,_,_,_,_,.bool (decide (s ∈ vs)),_,_] [5,12] [_] rfl ⟨fun _ _ hk hx hl _ => Z4 (Kd := keyS) (xs := cs) ZP ZL s rfl (Yq hH hk (mo 0 rfl)) (hl.dep 3 8 _ rfl rfl rfl rfl) (hl.dep 4 9 _ rfl rfl rfl rfl) hx, fun _ _ hk hx hl hc => Z4 (Kd := keyS) (xs := vs) ZP ZL s rfl (Yq hH hk (mo 1 rfl)) (hl.dep 10 15 _ rfl rfl rfl hc) (hl.dep 11 16 _ rfl rfl rfl hc) hx, trivial⟩ ?_
 exact Ze (rtn (m := 0) rfl rfl (eB (by first | rfl | grind [Zg])))
theorem ZnJ {J : World → Prop} (hJ : Stab J) (M1 : Nat) (M2 : Nat) (M3 : Nat) (M4 : Nat) (M5 : Nat) (cs : List ByteArray) (vs : List ByteArray) (s : ByteArray)  : FnR Tryz.prog J 123 [OB.set keyS M1 cs, OB.set keyS M2 vs] [.str s, .ptr [.ptr (mpC [M1, M2, M3, M4, M5])]] (.bool (!(decide (s ∈ cs) || decide (s ∈ vs)))) := by
 refine Z1 (N := 8) Tryz.func123 rfl rfl (lb rfl) fun S w0 hS hJ0 hH => ?_
 clear hJ0
 refine qs tb hJ [0,1] [_] [_,_] ?_
 refine hqs tb hJ [1004] [_,_,.bool (decide (s ∈ cs) || decide (s ∈ vs)),_,_] [2] [_] rfl ⟨fun _ _ hk hx hl _ => Xy (Q5 hJ (M1 := M1) (M2 := M2) (M3 := M3) (M4 := M4) (M5 := M5) (cs := cs) (vs := vs) (s := s) ) ZdX rfl (nm hS hk) (hx) (ZU (Yq hH hk (mo 0 rfl)) (ZU (Yq hH hk (mo 1 rfl)) ZE)) (Zc (hl.dep 0 4 _ rfl rfl rfl rfl) (Zc (hl.dep 1 5 _ rfl rfl rfl rfl) Zi)) (js hJ hx), trivial⟩ ?_
 exact Ze (rtn (m := 0) rfl rfl rfl)
theorem ZeE {J : World → Prop} (hJ : Stab J) (xs : List ByteArray) (f : FuncId) (caps : List AV) (Os : List OB) (p : ByteArray → Bool) (hf : ∀ q', FnR Tryz.prog J f Os ([.str (q')] ++ caps) (.bool (p q'))) (hk0 : Zj Tryz.prog f) : FnR Tryz.prog J 129 Os [.rd (Zf xs), .fn f caps] (.int (YS p xs)) := by
 refine Z1 (N := 19) Tryz.func129 rfl rfl (lb rfl) fun S w0 hS hJ0 hH => ?_
 clear hJ0
 refine ln 0 fun hl1 => ?_
 refine qs tb hJ [0,1] [_] [_,_] ?_
 refine Zd (hqs tb hJ [0,1,1001,1002] [_,.int (xs.length : Nat),_] [1] [_,_,_,_] rfl ⟨ZZ Zr, trivial⟩ ?_)
 refine Zb (lp (ι := Nat) (fun k => (k ≤ xs.length) ∧ (∀ j, j < k → p (ge xs j) = false)) (fun k => [(8, .int (k : Nat))]) (fun k => xs.length - k) [0,1,2,3] [_,_,_] 0 ⟨Nat.zero_le _, fun j hj => by omega⟩ ?_)
 rintro k ⟨f1_1, f1_2⟩
 refine qs tb hJ [0,1,2,3,1000] [_] [_,_,_,_,_] ?_
 refine cjS 4 (fun hb1 => ?_) fun hb1 => ?_
 try simp at hb1
 refine Za (nx (Zd (Zb (qs tb hJ [0,1,2,3,1001] [_,_] [_,_,_,_,_] ?_))))
 refine hqs tb hJ [0,1,2,3,4,1005] [_,_,_,.ptr [.lit (.string (ge xs k))],_,.bool (p (ge xs k))] [3,5] [_,_,_,_,_,_] rfl ⟨iIx Zh, fun _ _ hk hx hl _ => Zah (hf (ge xs k)) hk0 rfl (hl.dep 0 11 _ rfl rfl rfl rfl) (nm hS hk) (hx) (fun _ ho => Yq hH hk ho) (Zc (hl.dep 4 15 _ rfl rfl rfl rfl) Zi) (js hJ hx), trivial⟩ ?_
 refine cj 5 (fun hb2 => ?_) fun hb2 => ?_
 try simp at hb2
 refine qs tb hJ [1001] [_,_] [_] ?_
 exact Ze (rtn (m := 0) rfl rfl (eI (by first | exact (Yl hb1 hb2 f1_2).symm | exact (Z5 fun j hj => f1_2 j (by omega)).symm)))
 try simp at hb2
 refine Za (nx (hqp tb hJ [0,1,2,1001] [.int (k + 1 : Nat),_] [0] [_,_,_,_] rfl ⟨Z2, trivial⟩ ?_))
 exact lpE (k + 1) [0,1,2,3] ⟨by omega, ZH f1_2 hb2⟩
 try simp at hb1
 refine Zl (nx (qs tb hJ [1000] [_] [_] ?_))
 exact Ze (rtn (m := 0) rfl rfl (eI (by first | exact (Yl hb1 hb2 f1_2).symm | exact (Z5 fun j hj => f1_2 j (by omega)).symm)))
end Go.Proofs.YtnpgmdffjemnbaaGreatDoor
set_option maxHeartbeats 8000000
set_option maxRecDepth 100000
namespace Go.Proofs.YtnpgmdffjemnbaaGreatDoor
open Go.RowKit

theorem Xr {J : World → Prop} (hJ : Stab J) (xs : List ByteArray) (f : FuncId) (caps : List AV) (Os : List OB) (p : ByteArray → Bool) (hf : ∀ q', FnR Tryz.prog J f Os ([.str (q')] ++ caps) (.bool (p q'))) (hk0 : Zj Tryz.prog f) : FnR Tryz.prog J 93 Os [.rd (Zf xs), .fn f caps] (.bool (xs.any p)) := by
 refine Z1 (N := 9) Tryz.func93 rfl rfl (lb rfl) fun S w0 hS hJ0 hH => ?_
 clear hJ0
 refine ln 0 fun hl1 => ?_
 refine qs tb hJ [0,1] [_] [_,_] ?_
 refine hqs tb hJ [1004] [_,_,.int (YS p xs),_,_] [2] [_] rfl ⟨fun _ _ hk hx hl _ => Xy (ZeE hJ (xs := xs) (f := f) (caps := caps) (Os := Os) (p := p) (hf) (hk0)) Zmm rfl (nm hS hk) (hx) (fun _ ho => Yq hH hk ho) (Zc (hl.dep 0 5 _ rfl rfl rfl rfl) (Zc (hl.dep 1 6 _ rfl rfl rfl rfl) Zi)) (js hJ hx), trivial⟩ ?_
 exact Ze (rtn (m := 0) rfl rfl (eB (by rw [← Qb])))
theorem Zbk {J : World → Prop} (hJ : Stab J) (xs : List Hy) (f : FuncId) (caps : List AV) (Os : List OB) (p : Hy → Bool) (hf : ∀ q', FnR Tryz.prog J f Os ([.agg (hyC (q'))] ++ caps) (.bool (p q'))) (hk0 : Zj Tryz.prog f) : FnR Tryz.prog J 131 Os [.rd (YC xs), .fn f caps] (.int (YS p xs)) := by
 refine Z1 (N := 19) Tryz.func131 rfl rfl (lb rfl) fun S w0 hS hJ0 hH => ?_
 clear hJ0
 refine ln 0 fun hl1 => ?_
 refine qs tb hJ [0,1] [_] [_,_] ?_
 refine Zd (hqs tb hJ [0,1,1001,1002] [_,.int (xs.length : Nat),_] [1] [_,_,_,_] rfl ⟨ZZ Zs, trivial⟩ ?_)
 refine Zb (lp (ι := Nat) (fun k => (k ≤ xs.length) ∧ (∀ j, j < k → p (ge xs j) = false)) (fun k => [(8, .int (k : Nat))]) (fun k => xs.length - k) [0,1,2,3] [_,_,_] 0 ⟨Nat.zero_le _, fun j hj => by omega⟩ ?_)
 rintro k ⟨f1_1, f1_2⟩
 refine qs tb hJ [0,1,2,3,1000] [_] [_,_,_,_,_] ?_
 refine cjS 4 (fun hb1 => ?_) fun hb1 => ?_
 try simp at hb1
 refine Za (nx (Zd (Zb (qs tb hJ [0,1,2,3,1001] [_,_] [_,_,_,_,_] ?_))))
 refine hqs tb hJ [0,1,2,3,4,1005] [_,_,_,.ptr (hyC (ge xs k)),_,.bool (p (ge xs k))] [3,5] [_,_,_,_,_,_] rfl ⟨iIx Zm, fun _ _ hk hx hl _ => Zah (hf (ge xs k)) hk0 rfl (hl.dep 0 11 _ rfl rfl rfl rfl) (nm hS hk) (hx) (fun _ ho => Yq hH hk ho) (Zc (hl.dep 4 15 _ rfl rfl rfl rfl) Zi) (js hJ hx), trivial⟩ ?_
 refine cj 5 (fun hb2 => ?_) fun hb2 => ?_
 try simp at hb2
 refine qs tb hJ [1001] [_,_] [_] ?_
 exact Ze (rtn (m := 0) rfl rfl (eI (by first | exact (Yl hb1 hb2 f1_2).symm | exact (Z5 fun j hj => f1_2 j (by omega)).symm)))
 try simp at hb2
 refine Za (nx (hqp tb hJ [0,1,2,1001] [.int (k + 1 : Nat),_] [0] [_,_,_,_] rfl ⟨Z2, trivial⟩ ?_))
 exact lpE (k + 1) [0,1,2,3] ⟨by omega, ZH f1_2 hb2⟩
 try simp at hb1
 refine Zl (nx (qs tb hJ [1000] [_] [_] ?_))
 exact Ze (rtn (m := 0) rfl rfl (eI (by first | exact (Yl hb1 hb2 f1_2).symm | exact (Z5 fun j hj => f1_2 j (by omega)).symm)))
theorem Zb9 {J : World → Prop} (hJ : Stab J) (xs : List Hy) (f : FuncId) (caps : List AV) (Os : List OB) (p : Hy → Bool) (hf : ∀ q', FnR Tryz.prog J f Os ([.agg (hyC (q'))] ++ caps) (.bool (p q'))) (hk0 : Zj Tryz.prog f) : FnR Tryz.prog J 97 Os [.rd (YC xs), .fn f caps] (.bool (xs.any p)) := by
 refine Z1 (N := 9) Tryz.func97 rfl rfl (lb rfl) fun S w0 hS hJ0 hH => ?_
 clear hJ0
 refine ln 0 fun hl1 => ?_
 refine qs tb hJ [0,1] [_] [_,_] ?_
 refine hqs tb hJ [1004] [_,_,.int (YS p xs),_,_] [2] [_] rfl ⟨fun _ _ hk hx hl _ => Xy (Zbk hJ (xs := xs) (f := f) (caps := caps) (Os := Os) (p := p) (hf) (hk0)) Zhs rfl (nm hS hk) (hx) (fun _ ho => Yq hH hk ho) (Zc (hl.dep 0 5 _ rfl rfl rfl rfl) (Zc (hl.dep 1 6 _ rfl rfl rfl rfl) Zi)) (js hJ hx), trivial⟩ ?_
 exact Ze (rtn (m := 0) rfl rfl (eB (by rw [← Qb])))
theorem ZeF {J : World → Prop} (hJ : Stab J) (xs : List Pr) (f : FuncId) (caps : List AV) (Os : List OB) (p : Pr → Bool) (hf : ∀ q', FnR Tryz.prog J f Os ([.agg (prC (q'))] ++ caps) (.bool (p q'))) (hk0 : Zj Tryz.prog f) : FnR Tryz.prog J 174 Os [.rd (YI xs), .fn f caps] (.int (YS p xs)) := by
 refine Z1 (N := 19) Tryz.func174 rfl rfl (lb rfl) fun S w0 hS hJ0 hH => ?_
 clear hJ0
 refine ln 0 fun hl1 => ?_
 refine qs tb hJ [0,1] [_] [_,_] ?_
 refine Zd (hqs tb hJ [0,1,1001,1002] [_,.int (xs.length : Nat),_] [1] [_,_,_,_] rfl ⟨ZZ ZY, trivial⟩ ?_)
 refine Zb (lp (ι := Nat) (fun k => (k ≤ xs.length) ∧ (∀ j, j < k → p (ge xs j) = false)) (fun k => [(8, .int (k : Nat))]) (fun k => xs.length - k) [0,1,2,3] [_,_,_] 0 ⟨Nat.zero_le _, fun j hj => by omega⟩ ?_)
 rintro k ⟨f1_1, f1_2⟩
 refine qs tb hJ [0,1,2,3,1000] [_] [_,_,_,_,_] ?_
 refine cjS 4 (fun hb1 => ?_) fun hb1 => ?_
 try simp at hb1
 refine Za (nx (Zd (Zb (qs tb hJ [0,1,2,3,1001] [_,_] [_,_,_,_,_] ?_))))
 refine hqs tb hJ [0,1,2,3,4,1005] [_,_,_,.ptr (prC (ge xs k)),_,.bool (p (ge xs k))] [3,5] [_,_,_,_,_,_] rfl ⟨iIx Zv, fun _ _ hk hx hl _ => Zah (hf (ge xs k)) hk0 rfl (hl.dep 0 11 _ rfl rfl rfl rfl) (nm hS hk) (hx) (fun _ ho => Yq hH hk ho) (Zc (hl.dep 4 15 _ rfl rfl rfl rfl) Zi) (js hJ hx), trivial⟩ ?_
 refine cj 5 (fun hb2 => ?_) fun hb2 => ?_
 try simp at hb2
 refine qs tb hJ [1001] [_,_] [_] ?_
 exact Ze (rtn (m := 0) rfl rfl (eI (by first | exact (Yl hb1 hb2 f1_2).symm | exact (Z5 fun j hj => f1_2 j (by omega)).symm)))
 try simp at hb2
 refine Za (nx (hqp tb hJ [0,1,2,1001] [.int (k + 1 : Nat),_] [0] [_,_,_,_] rfl ⟨Z2, trivial⟩ ?_))
 exact lpE (k + 1) [0,1,2,3] ⟨by omega, ZH f1_2 hb2⟩
 try simp at hb1
 refine Zl (nx (qs tb hJ [1000] [_] [_] ?_))
 exact Ze (rtn (m := 0) rfl rfl (eI (by first | exact (Yl hb1 hb2 f1_2).symm | exact (Z5 fun j hj => f1_2 j (by omega)).symm)))
theorem ZeG {J : World → Prop} (hJ : Stab J) (xs : List Int) (f : FuncId) (caps : List AV) (Os : List OB) (p : Int → Bool) (hf : ∀ q', FnR Tryz.prog J f Os ([.int (q')] ++ caps) (.bool (p q'))) (hk0 : Zj Tryz.prog f) : FnR Tryz.prog J 58 Os [.rd (ZJ xs), .fn f caps] (.int (YS p xs)) := by
 refine Z1 (N := 19) Tryz.func58 rfl rfl (lb rfl) fun S w0 hS hJ0 hH => ?_
 clear hJ0
 refine ln 0 fun hl1 => ?_
 refine qs tb hJ [0,1] [_] [_,_] ?_
 refine Zd (hqs tb hJ [0,1,1001,1002] [_,.int (xs.length : Nat),_] [1] [_,_,_,_] rfl ⟨ZZ Ym, trivial⟩ ?_)
 refine Zb (lp (ι := Nat) (fun k => (k ≤ xs.length) ∧ (∀ j, j < k → p (ge xs j) = false)) (fun k => [(8, .int (k : Nat))]) (fun k => xs.length - k) [0,1,2,3] [_,_,_] 0 ⟨Nat.zero_le _, fun j hj => by omega⟩ ?_)
 rintro k ⟨f1_1, f1_2⟩
 refine qs tb hJ [0,1,2,3,1000] [_] [_,_,_,_,_] ?_
 refine cjS 4 (fun hb1 => ?_) fun hb1 => ?_
 try simp at hb1
 refine Za (nx (Zd (Zb (qs tb hJ [0,1,2,3,1001] [_,_] [_,_,_,_,_] ?_))))
 refine hqs tb hJ [0,1,2,3,4,1005] [_,_,_,.ptr [.lit (.int .i64 (ge xs k))],_,.bool (p (ge xs k))] [3,5] [_,_,_,_,_,_] rfl ⟨iIx Zq, fun _ _ hk hx hl _ => Zah (hf (ge xs k)) hk0 rfl (hl.dep 0 11 _ rfl rfl rfl rfl) (nm hS hk) (hx) (fun _ ho => Yq hH hk ho) (Zc (hl.dep 4 15 _ rfl rfl rfl rfl) Zi) (js hJ hx), trivial⟩ ?_
 refine cj 5 (fun hb2 => ?_) fun hb2 => ?_
 try simp at hb2
 refine qs tb hJ [1001] [_,_] [_] ?_
 exact Ze (rtn (m := 0) rfl rfl (eI (by first | exact (Yl hb1 hb2 f1_2).symm | exact (Z5 fun j hj => f1_2 j (by omega)).symm)))
 try simp at hb2
 refine Za (nx (hqp tb hJ [0,1,2,1001] [.int (k + 1 : Nat),_] [0] [_,_,_,_] rfl ⟨Z2, trivial⟩ ?_))
 exact lpE (k + 1) [0,1,2,3] ⟨by omega, ZH f1_2 hb2⟩
 try simp at hb1
 refine Zl (nx (qs tb hJ [1000] [_] [_] ?_))
 exact Ze (rtn (m := 0) rfl rfl (eI (by first | exact (Yl hb1 hb2 f1_2).symm | exact (Z5 fun j hj => f1_2 j (by omega)).symm)))
theorem Zb8 {J : World → Prop} (hJ : Stab J) (xs : List Int) (f : FuncId) (caps : List AV) (Os : List OB) (p : Int → Bool) (hf : ∀ q', FnR Tryz.prog J f Os ([.int (q')] ++ caps) (.bool (p q'))) (hk0 : Zj Tryz.prog f) : FnR Tryz.prog J 27 Os [.rd (ZJ xs), .fn f caps] (.bool (xs.any p)) := by
 refine Z1 (N := 9) Tryz.func27 rfl rfl (lb rfl) fun S w0 hS hJ0 hH => ?_
 clear hJ0
 refine ln 0 fun hl1 => ?_
 refine qs tb hJ [0,1] [_] [_,_] ?_
 refine hqs tb hJ [1004] [_,_,.int (YS p xs),_,_] [2] [_] rfl ⟨fun _ _ hk hx hl _ => Xy (ZeG hJ (xs := xs) (f := f) (caps := caps) (Os := Os) (p := p) (hf) (hk0)) Zkg rfl (nm hS hk) (hx) (fun _ ho => Yq hH hk ho) (Zc (hl.dep 0 5 _ rfl rfl rfl rfl) (Zc (hl.dep 1 6 _ rfl rfl rfl rfl) Zi)) (js hJ hx), trivial⟩ ?_
 exact Ze (rtn (m := 0) rfl rfl (eB (by rw [← Qb])))
theorem Zbl {J : World → Prop} (hJ : Stab J) (xs : List Fr) (f : FuncId) (caps : List AV) (Os : List OB) (p : Fr → Bool) (hf : ∀ q', FnR Tryz.prog J f Os ([.agg (frC (q'))] ++ caps) (.bool (p q'))) (hk0 : Zj Tryz.prog f) : FnR Tryz.prog J 69 Os [.rd (Yv xs), .fn f caps] (.int (YS p xs)) := by
 refine Z1 (N := 19) Tryz.func69 rfl rfl (lb rfl) fun S w0 hS hJ0 hH => ?_
 clear hJ0
 refine ln 0 fun hl1 => ?_
 refine qs tb hJ [0,1] [_] [_,_] ?_
 refine Zd (hqs tb hJ [0,1,1001,1002] [_,.int (xs.length : Nat),_] [1] [_,_,_,_] rfl ⟨ZZ Z7, trivial⟩ ?_)
 refine Zb (lp (ι := Nat) (fun k => (k ≤ xs.length) ∧ (∀ j, j < k → p (ge xs j) = false)) (fun k => [(8, .int (k : Nat))]) (fun k => xs.length - k) [0,1,2,3] [_,_,_] 0 ⟨Nat.zero_le _, fun j hj => by omega⟩ ?_)
 rintro k ⟨f1_1, f1_2⟩
 refine qs tb hJ [0,1,2,3,1000] [_] [_,_,_,_,_] ?_
 refine cjS 4 (fun hb1 => ?_) fun hb1 => ?_
 try simp at hb1
 refine Za (nx (Zd (Zb (qs tb hJ [0,1,2,3,1001] [_,_] [_,_,_,_,_] ?_))))
 refine hqs tb hJ [0,1,2,3,4,1005] [_,_,_,.ptr (frC (ge xs k)),_,.bool (p (ge xs k))] [3,5] [_,_,_,_,_,_] rfl ⟨iIx ZD, fun _ _ hk hx hl _ => Zah (hf (ge xs k)) hk0 rfl (hl.dep 0 11 _ rfl rfl rfl rfl) (nm hS hk) (hx) (fun _ ho => Yq hH hk ho) (Zc (hl.dep 4 15 _ rfl rfl rfl rfl) Zi) (js hJ hx), trivial⟩ ?_
 refine cj 5 (fun hb2 => ?_) fun hb2 => ?_
 try simp at hb2
 refine qs tb hJ [1001] [_,_] [_] ?_
 exact Ze (rtn (m := 0) rfl rfl (eI (by first | exact (Yl hb1 hb2 f1_2).symm | exact (Z5 fun j hj => f1_2 j (by omega)).symm)))
 try simp at hb2
 refine Za (nx (hqp tb hJ [0,1,2,1001] [.int (k + 1 : Nat),_] [0] [_,_,_,_] rfl ⟨Z2, trivial⟩ ?_))
 exact lpE (k + 1) [0,1,2,3] ⟨by omega, ZH f1_2 hb2⟩
 try simp at hb1
 refine Zl (nx (qs tb hJ [1000] [_] [_] ?_))
 exact Ze (rtn (m := 0) rfl rfl (eI (by first | exact (Yl hb1 hb2 f1_2).symm | exact (Z5 fun j hj => f1_2 j (by omega)).symm)))
theorem Zca {J : World → Prop} (hJ : Stab J) (xs : List Fr) (f : FuncId) (caps : List AV) (Os : List OB) (p : Fr → Bool) (hf : ∀ q', FnR Tryz.prog J f Os ([.agg (frC (q'))] ++ caps) (.bool (p q'))) (hk0 : Zj Tryz.prog f) : FnR Tryz.prog J 40 Os [.rd (Yv xs), .fn f caps] (.bool (xs.any p)) := by
 refine Z1 (N := 9) Tryz.func40 rfl rfl (lb rfl) fun S w0 hS hJ0 hH => ?_
 clear hJ0
 refine ln 0 fun hl1 => ?_
 refine qs tb hJ [0,1] [_] [_,_] ?_
 refine hqs tb hJ [1004] [_,_,.int (YS p xs),_,_] [2] [_] rfl ⟨fun _ _ hk hx hl _ => Xy (Zbl hJ (xs := xs) (f := f) (caps := caps) (Os := Os) (p := p) (hf) (hk0)) Zkc rfl (nm hS hk) (hx) (fun _ ho => Yq hH hk ho) (Zc (hl.dep 0 5 _ rfl rfl rfl rfl) (Zc (hl.dep 1 6 _ rfl rfl rfl rfl) Zi)) (js hJ hx), trivial⟩ ?_
 exact Ze (rtn (m := 0) rfl rfl (eB (by rw [← Qb])))
theorem Zlf {J : World → Prop} (hJ : Stab J) (xs : List ByteArray) (ys : List ByteArray)  : Fn Tryz.prog J 154 [.rd (Zf xs), .rd (Zf ys)] (.bool (decide (xs = ys))) := by
 refine Zn (N := 26) Tryz.func154 rfl rfl (lb rfl) fun S w0 hS hJ0 => ?_
 clear hJ0
 refine ln 0 fun hl1 => ?_
 refine ln 1 fun hl2 => ?_
 refine qs tb hJ [0,1] [_] [_,_] ?_
 refine Zd (hqs tb hJ [0,1,1004] [_,.int (xs.length : Nat),_,.int (ys.length : Nat),_] [1,3] [_,_,_] rfl ⟨ZZ Zr, ZZ Zr, trivial⟩ ?_)
 refine cj 2 (fun hb1 => ?_) fun hb1 => ?_
 try simp at hb1
 refine qs tb hJ [1000] [_] [_] ?_
 exact Ze (rtn (m := 0) rfl rfl (eB (by first | (have := XX (xs := xs) (ys := ys) (by omega) (fun j hj => f1_2 j (by omega)); simp [this]; done) | (symm; rw [decide_eq_false_iff_not]; intro e; subst e; simp_all; done))))
 try simp at hb1
 refine Za (nx (Zd (hqs tb hJ [0,1,1001,1002] [_,.int (xs.length : Nat),_] [1] [_,_,_,_] rfl ⟨ZZ Zr, trivial⟩ ?_)))
 refine Zb (lp (ι := Nat) (fun k => (k ≤ xs.length) ∧ (∀ j, j < k → ge xs j = ge ys j)) (fun k => [(13, .int (k : Nat))]) (fun k => xs.length - k) [0,1,2,3] [_,_,_] 0 ⟨Nat.zero_le _, fun j hj => by omega⟩ ?_)
 rintro k ⟨f1_1, f1_2⟩
 refine qs tb hJ [0,1,2,3,1000] [_] [_,_,_,_,_] ?_
 refine cjS 4 (fun hb2 => ?_) fun hb2 => ?_
 try simp at hb2
 refine Za (nx (Zd (Zb (qs tb hJ [0,1,2,3,1001] [_,_] [_,_,_,_,_] ?_))))
 refine hqs tb hJ [0,1,2,3,1008] [_,_,.ptr [.lit (.string (ge xs k))],_,_,_,.ptr [.lit (.string (ge ys k))],_,_] [2,6] [_,_,_,_,_] rfl ⟨iIx Zh, iIx Zh, trivial⟩ ?_
 refine cj 4 (fun hb3 => ?_) fun hb3 => ?_
 try simp at hb3
 refine qs tb hJ [1000] [_] [_] ?_
 exact Ze (rtn (m := 0) rfl rfl (eB (by first | (have := XX (xs := xs) (ys := ys) (by omega) (fun j hj => f1_2 j (by omega)); simp [this]; done) | (symm; rw [decide_eq_false_iff_not]; intro e; subst e; simp_all; done))))
 try simp at hb3
 refine Za (nx (hqp tb hJ [0,1,2,1001] [.int (k + 1 : Nat),_] [0] [_,_,_,_] rfl ⟨Z2, trivial⟩ ?_))
 exact lpE (k + 1) [0,1,2,3] ⟨by omega, ZH f1_2 hb3⟩
 try simp at hb2
 refine Zl (nx (qs tb hJ [1000] [_] [_] ?_))
 exact Ze (rtn (m := 0) rfl rfl (eB (by first | (have := XX (xs := xs) (ys := ys) (by omega) (fun j hj => f1_2 j (by omega)); simp [this]; done) | (symm; rw [decide_eq_false_iff_not]; intro e; subst e; simp_all; done))))
theorem ZbF {J : World → Prop} (hJ : Stab J) (xs : List Int) (ys : List Int)  : Fn Tryz.prog J 14 [.rd (ZJ xs), .rd (ZJ ys)] (.bool (decide (xs = ys))) := by
 refine Zn (N := 26) Tryz.func14 rfl rfl (lb rfl) fun S w0 hS hJ0 => ?_
 clear hJ0
 refine ln 0 fun hl1 => ?_
 refine ln 1 fun hl2 => ?_
 refine qs tb hJ [0,1] [_] [_,_] ?_
 refine Zd (hqs tb hJ [0,1,1004] [_,.int (xs.length : Nat),_,.int (ys.length : Nat),_] [1,3] [_,_,_] rfl ⟨ZZ Ym, ZZ Ym, trivial⟩ ?_)
 refine cj 2 (fun hb1 => ?_) fun hb1 => ?_
 try simp at hb1
 refine qs tb hJ [1000] [_] [_] ?_
 exact Ze (rtn (m := 0) rfl rfl (eB (by first | (have := XX (xs := xs) (ys := ys) (by omega) (fun j hj => f1_2 j (by omega)); simp [this]; done) | (symm; rw [decide_eq_false_iff_not]; intro e; subst e; simp_all; done))))
 try simp at hb1
 refine Za (nx (Zd (hqs tb hJ [0,1,1001,1002] [_,.int (xs.length : Nat),_] [1] [_,_,_,_] rfl ⟨ZZ Ym, trivial⟩ ?_)))
 refine Zb (lp (ι := Nat) (fun k => (k ≤ xs.length) ∧ (∀ j, j < k → ge xs j = ge ys j)) (fun k => [(13, .int (k : Nat))]) (fun k => xs.length - k) [0,1,2,3] [_,_,_] 0 ⟨Nat.zero_le _, fun j hj => by omega⟩ ?_)
 rintro k ⟨f1_1, f1_2⟩
 refine qs tb hJ [0,1,2,3,1000] [_] [_,_,_,_,_] ?_
 refine cjS 4 (fun hb2 => ?_) fun hb2 => ?_
 try simp at hb2
 refine Za (nx (Zd (Zb (qs tb hJ [0,1,2,3,1001] [_,_] [_,_,_,_,_] ?_))))
 refine hqs tb hJ [0,1,2,3,1008] [_,_,.ptr [.lit (.int .i64 (ge xs k))],_,_,_,.ptr [.lit (.int .i64 (ge ys k))],_,_] [2,6] [_,_,_,_,_] rfl ⟨iIx Zq, iIx Zq, trivial⟩ ?_
 refine cj 4 (fun hb3 => ?_) fun hb3 => ?_
 try simp at hb3
 refine qs tb hJ [1000] [_] [_] ?_
 exact Ze (rtn (m := 0) rfl rfl (eB (by first | (have := XX (xs := xs) (ys := ys) (by omega) (fun j hj => f1_2 j (by omega)); simp [this]; done) | (symm; rw [decide_eq_false_iff_not]; intro e; subst e; simp_all; done))))
 try simp at hb3
 refine Za (nx (hqp tb hJ [0,1,2,1001] [.int (k + 1 : Nat),_] [0] [_,_,_,_] rfl ⟨Z2, trivial⟩ ?_))
 exact lpE (k + 1) [0,1,2,3] ⟨by omega, ZH f1_2 hb3⟩
 try simp at hb2
 refine Zl (nx (qs tb hJ [1000] [_] [_] ?_))
 exact Ze (rtn (m := 0) rfl rfl (eB (by first | (have := XX (xs := xs) (ys := ys) (by omega) (fun j hj => f1_2 j (by omega)); simp [this]; done) | (symm; rw [decide_eq_false_iff_not]; intro e; subst e; simp_all; done))))
theorem Zlj {J : World → Prop} (hJ : Stab J) (xs : List ByteArray) (b : xs.length * 16 ≤ 140737488351232) : FnM (ι := Value) Tryz.prog J 132 [] [.rd (Zf xs)] [] (fun i' => .lit (i')) (fun i' => [OB.row i' 9 1 (xs.map QJ)]) := by
 refine Yx (N := 8) Tryz.func132 rfl rfl (lb rfl) fun S w0 R hS hJ0 hH => ?_
 refine Xe (B := St All (SO S (R)) w0 8 [(0, .rd (Zf xs))] (XO J S w0.heap.size (R))) ?_ fun a w h => h
 refine ln 0 fun hl1 => ?_
 refine qso tb hJ [0] [_] [_] ?_
 refine Zd (tsq ?_)
 refine snK 1 tb rfl ?_
 refine ZbA (f := QJ) (xs := xs) Zr rfl rfl rfl (lb rfl) (fun a w h => (h.get 0 rfl)) fun g1 hg1 => ?_
 refine seK [0,2] [_,_] rfl ?_
 refine nx (cj 0 (fun hb1 => ?_) fun hb1 => ?_)
 try simp at hb1
 refine qso tb hJ [1000] [_] [_] ?_
 refine tw (Yo 9 1 hJ) ?_
 refine tw (ob0 (congrArg (fun z' => OB.row (.slice none 0 0) 9 1 ((z').map QJ)) (show ([] : List ByteArray) = xs from by first | exact (hg1 (by assumption)).symm | simp))) ?_
 exact Ze (fun a w h => Ya  (m := 0) (.slice none 0 0) rfl h rfl rfl)
 try simp at hb1
 refine Za (nx (Zd (fun a w h => X6 (id := 3) (t := 22) (e := 9) (size := 1) (bytes := 16) (i0 := 0) (fol := 3) (d := 2) (ch := [(2, (xs.map QJ))]) (fun ix' => ([.any, .rd (Zf xs), .any, .any] : List AV).getD ix' .any) (fun ix' => ([true, true, true, true] : List Bool).getD ix' true) [] (xs.map QJ) (by simp) ?r3_1 hJ hJ0 h YJ rfl rfl rfl rfl ⟨?o3_1_0, ⟨?o3_1_1, ⟨?o3_1_2, ⟨?o3_1_3, trivial⟩⟩⟩⟩ trivial (fun v2 => ?n3_1))))
 case r3_1 =>
  refine Row.mk' Xu ⟨_, rfl, rfl, rfl, rfl, rfl⟩ ⟨?x3_1_0, trivial⟩ ⟨_, _, _, _, rfl, rfl, rfl, rfl, rfl, rfl, rfl, rfl, rfl⟩ rfl rfl rfl
  case x3_1_0 => exact ⟨_, _, _, _, rfl, rfl, rfl, rfl, rfl, rfl, rfl, rfl, YX (f := QJ) (fun _ => rfl), (by have hm : maxLen = 9223372036854775807 := rfl; simp [upto]; first | omega | (simp; omega)), (by have hm : maxLen = 9223372036854775807 := rfl; simp [upto]; first | omega | (simp; omega)), fun _ _ _ _ _ hl => (hl.dep 1 6 _ rfl rfl rfl rfl)⟩
 case o3_1_0 => exact fun h => Zk rfl h
 case o3_1_1 => exact fun _ _ => ⟨rfl, fun _ _ _ hx hl _ => Yd rfl (hl.env 1 0 _ rfl rfl) hx⟩
 case o3_1_2 => exact fun h => Zk rfl h
 case o3_1_3 => exact fun h => Zk rfl h
 clear a w h
 exact nx (Ze (fun a w h => Ya  (m := 0) v2 rfl h rfl rfl))
theorem Zlm {J : World → Prop} (hJ : Stab J) (xs : List Hy) (b : xs.length * 48 ≤ 140737488351232) : FnM (ι := Value) Tryz.prog J 102 [] [.rd (YC xs)] [] (fun i' => .lit (i')) (fun i' => [OB.row i' 109 3 (xs.map hyC)]) := by
 refine Yx (N := 8) Tryz.func102 rfl rfl (lb rfl) fun S w0 R hS hJ0 hH => ?_
 refine Xe (B := St All (SO S (R)) w0 8 [(0, .rd (YC xs))] (XO J S w0.heap.size (R))) ?_ fun a w h => h
 refine ln 0 fun hl1 => ?_
 refine qso tb hJ [0] [_] [_] ?_
 refine Zd (tsq ?_)
 refine snK 1 tb rfl ?_
 refine ZbA (f := hyC) (xs := xs) Zs rfl rfl rfl (lb rfl) (fun a w h => (h.get 0 rfl)) fun g1 hg1 => ?_
 refine seK [0,2] [_,_] rfl ?_
 refine nx (cj 0 (fun hb1 => ?_) fun hb1 => ?_)
 try simp at hb1
 refine qso tb hJ [1000] [_] [_] ?_
 refine tw (Yo 109 3 hJ) ?_
 refine tw (ob0 (congrArg (fun z' => OB.row (.slice none 0 0) 109 3 ((z').map hyC)) (show ([] : List Hy) = xs from by first | exact (hg1 (by assumption)).symm | simp))) ?_
 exact Ze (fun a w h => Ya  (m := 0) (.slice none 0 0) rfl h rfl rfl)
 try simp at hb1
 refine Za (nx (Zd (fun a w h => X6 (id := 3) (t := 56) (e := 109) (size := 3) (bytes := 48) (i0 := 0) (fol := 3) (d := 2) (ch := [(2, (xs.map hyC))]) (fun ix' => ([.any, .rd (YC xs), .any, .any] : List AV).getD ix' .any) (fun ix' => ([true, true, true, true] : List Bool).getD ix' true) [] (xs.map hyC) (by simp) ?r3_1 hJ hJ0 h YJ rfl rfl rfl rfl ⟨?o3_1_0, ⟨?o3_1_1, ⟨?o3_1_2, ⟨?o3_1_3, trivial⟩⟩⟩⟩ trivial (fun v2 => ?n3_1))))
 case r3_1 =>
  refine Row.mk' Xj ⟨_, rfl, rfl, rfl, rfl, rfl⟩ ⟨?x3_1_0, trivial⟩ ⟨_, _, _, _, rfl, rfl, rfl, rfl, rfl, rfl, rfl, rfl, rfl⟩ rfl rfl rfl
  case x3_1_0 => exact ⟨_, _, _, _, rfl, rfl, rfl, rfl, rfl, rfl, rfl, rfl, YX (f := hyC) (fun _ => rfl), (by have hm : maxLen = 9223372036854775807 := rfl; simp [upto]; first | omega | (simp; omega)), (by have hm : maxLen = 9223372036854775807 := rfl; simp [upto]; first | omega | (simp; omega)), fun _ _ _ _ _ hl => (hl.dep 1 6 _ rfl rfl rfl rfl)⟩
 case o3_1_0 => exact fun h => Zk rfl h
 case o3_1_1 => exact fun _ _ => ⟨rfl, fun _ _ _ hx hl _ => Yd rfl (hl.env 1 0 _ rfl rfl) hx⟩
 case o3_1_2 => exact fun h => Zk rfl h
 case o3_1_3 => exact fun h => Zk rfl h
 clear a w h
 exact nx (Ze (fun a w h => Ya  (m := 0) v2 rfl h rfl rfl))
theorem Zlk {J : World → Prop} (hJ : Stab J) (xs : List Pr) (b : xs.length * 32 ≤ 140737488351232) : FnM (ι := Value) Tryz.prog J 157 [] [.rd (YI xs)] [] (fun i' => .lit (i')) (fun i' => [OB.row i' 148 2 (xs.map prC)]) := by
 refine Yx (N := 8) Tryz.func157 rfl rfl (lb rfl) fun S w0 R hS hJ0 hH => ?_
 refine Xe (B := St All (SO S (R)) w0 8 [(0, .rd (YI xs))] (XO J S w0.heap.size (R))) ?_ fun a w h => h
 refine ln 0 fun hl1 => ?_
 refine qso tb hJ [0] [_] [_] ?_
 refine Zd (tsq ?_)
 refine snK 1 tb rfl ?_
 refine ZbA (f := prC) (xs := xs) ZY rfl rfl rfl (lb rfl) (fun a w h => (h.get 0 rfl)) fun g1 hg1 => ?_
 refine seK [0,2] [_,_] rfl ?_
 refine nx (cj 0 (fun hb1 => ?_) fun hb1 => ?_)
 try simp at hb1
 refine qso tb hJ [1000] [_] [_] ?_
 refine tw (Yo 148 2 hJ) ?_
 refine tw (ob0 (congrArg (fun z' => OB.row (.slice none 0 0) 148 2 ((z').map prC)) (show ([] : List Pr) = xs from by first | exact (hg1 (by assumption)).symm | simp))) ?_
 exact Ze (fun a w h => Ya  (m := 0) (.slice none 0 0) rfl h rfl rfl)
 try simp at hb1
 refine Za (nx (Zd (fun a w h => X6 (id := 3) (t := 57) (e := 148) (size := 2) (bytes := 32) (i0 := 0) (fol := 3) (d := 2) (ch := [(2, (xs.map prC))]) (fun ix' => ([.any, .rd (YI xs), .any, .any] : List AV).getD ix' .any) (fun ix' => ([true, true, true, true] : List Bool).getD ix' true) [] (xs.map prC) (by simp) ?r3_1 hJ hJ0 h YJ rfl rfl rfl rfl ⟨?o3_1_0, ⟨?o3_1_1, ⟨?o3_1_2, ⟨?o3_1_3, trivial⟩⟩⟩⟩ trivial (fun v2 => ?n3_1))))
 case r3_1 =>
  refine Row.mk' Zbc ⟨_, rfl, rfl, rfl, rfl, rfl⟩ ⟨?x3_1_0, trivial⟩ ⟨_, _, _, _, rfl, rfl, rfl, rfl, rfl, rfl, rfl, rfl, rfl⟩ rfl rfl rfl
  case x3_1_0 => exact ⟨_, _, _, _, rfl, rfl, rfl, rfl, rfl, rfl, rfl, rfl, YX (f := prC) (fun _ => rfl), (by have hm : maxLen = 9223372036854775807 := rfl; simp [upto]; first | omega | (simp; omega)), (by have hm : maxLen = 9223372036854775807 := rfl; simp [upto]; first | omega | (simp; omega)), fun _ _ _ _ _ hl => (hl.dep 1 6 _ rfl rfl rfl rfl)⟩
 case o3_1_0 => exact fun h => Zk rfl h
 case o3_1_1 => exact fun _ _ => ⟨rfl, fun _ _ _ hx hl _ => Yd rfl (hl.env 1 0 _ rfl rfl) hx⟩
 case o3_1_2 => exact fun h => Zk rfl h
 case o3_1_3 => exact fun h => Zk rfl h
 clear a w h
 exact nx (Ze (fun a w h => Ya  (m := 0) v2 rfl h rfl rfl))
end Go.Proofs.YtnpgmdffjemnbaaGreatDoor
set_option maxHeartbeats 8000000
set_option maxRecDepth 100000
namespace Go.Proofs.YtnpgmdffjemnbaaGreatDoor
open Go.RowKit

theorem ZdD {J : World → Prop} (hJ : Stab J) (v : Value) (xs : List Hy) (f : FuncId) (caps : List AV) (Os : List OB) (Hs : List OB) (p : Hy → Bool) (hf : ∀ q', FnR Tryz.prog J f (Os ++ Hs) ([.agg (hyC (q'))] ++ caps) (.bool (p q'))) (hk0 : Zj Tryz.prog f) (hn : xs.length ≤ 9223372036854775807) : FnM (ι := Unit) Tryz.prog J 101 Hs [.lit v, .fn f caps] (OB.row v 109 3 (xs.map hyC) :: Os) (fun _ => .rd (YC (xs.filter fun x' => !p x'))) (fun _ => (Os)) := by
 refine Yx (N := 42) Tryz.func101 rfl rfl (lb rfl) fun S w0 R hS hJ0 hH => ?_
 refine Xe (B := St All (SO S (OB.row v 109 3 (xs.map hyC) :: (Os ++ R))) w0 42 [(0, .lit v), (1, .fn f caps)] (XO J S w0.heap.size (OB.row v 109 3 (xs.map hyC) :: (Os ++ R)))) ?_ fun a w h => h
 refine qso tb hJ [0,1] [_] [_,_] ?_
 refine Zfp tb hJ [0,1,1003] [_,_,.int (YS p xs),_] [2] [_,_,_] rfl ⟨fun _ _ hk hx hl _ => Xy (Zbk hJ (xs := xs) (f := f) (caps := caps) (Os := (Os ++ Hs)) (p := p) (hf) (hk0)) Zhs rfl (nm hS hk) (hx.1) (ZdO (fun _ ho => ZgW hx (List.mem_cons_of_mem _ (List.mem_append_left _ ho))) (fun _ ho => Zha hH hk hx ho)) (Zc (YA hS hx (mo 0 rfl) (hl.dep 0 8 _ rfl rfl rfl rfl)) (Zc (hl.dep 1 9 _ rfl rfl rfl rfl) Zi)) (jo hJ hx), trivial⟩ ?_
 refine Zd (qso tb hJ [0,1,2,1001] [_,_] [_,_,_,_] ?_)
 refine cj 3 (fun hb1 => ?_) fun hb1 => ?_
 have e1 := of_decide_eq_true hb1
 refine qso tb hJ [1001] [_,_] [_] ?_
 refine tw (fun h => ZB hS h (m := 0) (s := 4) rfl) ?_
 exact Ze (fun a w h => Ya  (m := 0) () rfl h rfl (congrArg (fun z => AV.rd (YC z)) (show xs = (xs.filter fun x' => !p x') from by first | exact DelF.none e1 | exact f1_1.fin (by have := f1_1.len; omega))))
 have e1 := of_decide_eq_false hb1
 refine Za (nx (Zd (tw (sa 2 rfl (congrArg AV.int (show YS p xs = (((YS p xs).toNat : Nat) : Int) from by have := YZ e1; omega))) ?_)))
 refine ZC tb hJ [0,1,2,1002] [_,.int ((YS p xs).toNat + 1 : Nat),_] [1] [_,_,_,_] rfl ⟨Z2 (h0 := by have := (YZ e1).2.1; omega), trivial⟩ ?_
 refine Zb (lpo (ι := Nat × Nat × (List Hy) × Value) (fun (i, j, ys, _) => (DelF p xs ys i j)) (fun (_, _, ys, vo) => (OB.row vo 109 3 (ys.map hyC) :: (Os ++ R))) (fun (i, j, _, vo) => [(5, .int (i : Nat)), (6, .int (j : Nat)), (0, .lit vo)]) (fun (_, j, _, _) => xs.length - j) [1,2,3,0] [_] ((YS p xs).toNat, (YS p xs).toNat + 1, xs, v) (show (DelF p xs xs ((YS p xs).toNat) ((YS p xs).toNat + 1)) from DelF.init e1) ?_)
 rintro ⟨i, j, ys, vo⟩ hF
 have f1_1 : DelF p xs ys i j := hF
 refine Zd (Zfp tb hJ [0,1,2,3,1003] [_,_,.int (ys.length : Nat),_] [2] [_,_,_,_,_] rfl ⟨fun _ _ _ hx hl _ => ZaG Zs rfl (YA hS hx (mo 0 rfl) (hl.dep 1 17 _ rfl rfl rfl rfl)) hx, trivial⟩ ?_)
 refine cj 4 (fun hb2 => ?_) fun hb2 => ?_
 try simp at hb2
 refine Za (nx (Zd (Zb (tsq ?_))))
 refine snK 2 tb rfl ?_
 refine sq (.lit (QI vo (j * 3))) rfl rfl (lb rfl) (fun _ _ h => Xq (i := (j : Int)) Zm rfl (Zw h.x (mo 0 rfl)) (h.get 1 rfl) (h.get 0 rfl) (Int.natCast_nonneg _) (by rw [List.length_map]; exact Int.ofNat_lt.2 (by omega)) h.x) ?_
 refine sq (.agg (hyC (ge ys j))) rfl rfl (lb rfl) (fun _ _ h => Zc5 (i := j) ZaW rfl (Zw h.x (mo 0 rfl)) (h.get 0 rfl) (ZgC (xs := ys) (k := j) (by omega)) rfl h.x) ?_
 refine QP (cs := hyC (ge ys j)) Zax rfl rfl rfl (lb rfl) rfl rfl rfl (by decide) (m := 0) rfl rfl (fun a w h => Zo hS _ h.keep h.x _ (Nat.le_refl _)) (fun a w h w' hk' => YQ hJ _ _ hk' h.x) ?_
 refine seK [0,5,6,7,8] [_,_,_,_,_] rfl ?_
 refine nx (ZC tb hJ [0,1,2,3,4,1003] [_,_,.bool (p (ge ys j)),_] [2] [_,_,_,_,_,_] rfl ⟨fun _ _ hk hx hl _ => Zah (hf (ge ys j)) hk0 rfl (hl.dep 0 26 _ rfl rfl rfl rfl) (Zo hS _ hk hx) (hx.1) (ZdO (fun _ ho => Zw hx (List.mem_cons_of_mem _ (List.mem_append_left _ ho))) (fun _ ho => Yy hH hk hx ho)) (Zc (hl.dep 1 27 _ rfl rfl rfl rfl) Zi) (jo hJ hx), trivial⟩ ?_)
 refine cj 5 (fun hb3 => ?_) fun hb3 => ?_
 try simp at hb3
 refine tsq ?_
 refine snK 3 tb rfl ?_
 refine sq (.lit (QI vo (i * 3))) rfl rfl (lb rfl) (fun _ _ h => Xq (i := (i : Int)) Zm rfl (Zw h.x (mo 0 rfl)) (h.get 2 rfl) (h.get 1 rfl) (Int.natCast_nonneg _) (by rw [List.length_map]; exact Int.ofNat_lt.2 (by have := f1_1.le; omega)) h.x) ?_
 refine Zbf (i := i) hJ hJ0 XA rfl rfl rfl (by rw [List.length_map]; exact (by have := f1_1.le; omega)) rfl (fun a w h => ⟨(h.get 0 rfl), (h.get 1 rfl)⟩) ?_
 rw [show (ys.map hyC).set i (hyC (ge ys j)) = (ys.set i (ge ys j)).map hyC from List.map_set.symm]
 refine seK [5,6,7,8] [_,_,_,_] rfl ?_
 refine nx (Yj tb hJ [0,2,3,1002] [_,.int (i + 1 : Nat),_] [1] [_,_,_,_] rfl ⟨Z2 (h0 := by have := f1_1.le; have := f1_1.len; omega), trivial⟩ ?_)
 refine nx (Yj tb hJ [0,2,3,1002] [_,.int (j + 1 : Nat),_] [1] [_,_,_,_] rfl ⟨Z2 (h0 := by have := f1_1.lt; have := f1_1.len; omega), trivial⟩ ?_)
 exact Yr (i + 1, j + 1, ys.set i (ge ys j), vo) [0,2,3,1] (show (DelF p xs (ys.set i (ge ys j)) (i + 1) (j + 1)) from f1_1.keep (by have := f1_1.len; omega) (by simpa using hb3)) (hm := (show xs.length - (j + 1) < xs.length - j from by have := f1_1.lt; have := f1_1.len; omega))
 try simp at hb3
 refine Za (nx (Yj tb hJ [1,2,4,1002] [_,.int (j + 1 : Nat),_] [1] [_,_,_,_] rfl ⟨Z2 (h0 := by have := f1_1.lt; have := f1_1.len; omega), trivial⟩ ?_))
 exact Yr (i, j + 1, ys, vo) [0,1,3,2] (show (DelF p xs ys i (j + 1)) from f1_1.skip (by have := f1_1.len; omega) (by simpa using hb3)) (hm := (show xs.length - (j + 1) < xs.length - j from by have := f1_1.lt; have := f1_1.len; omega))
 try simp at hb2
 refine Zl (nx (tsq ?_))
 refine snK 2 tb rfl ?_
 refine sq (.lit (ZkI vo i 3)) rfl rfl (lb rfl) (fun _ _ h => Zm3 (lo := i) Zm rfl (Zw h.x (mo 0 rfl)) (h.get 1 rfl) (h.get 0 rfl) (by rw [List.length_map]; exact (by have := f1_1.le; have := f1_1.lt; have := f1_1.len; omega)) h.x) ?_
 refine Zgu (lo := i) Zfs Zs (by decide) hJ hJ0 rfl rfl rfl (by rw [List.length_map]; exact (by have := f1_1.le; have := f1_1.lt; have := f1_1.len; omega)) (fun a w h => (h.get 0 rfl)) ?_
 rw [← List.map_take]
 refine seK [4,6] [_,_] rfl ?_
 refine nx (ZC tb hJ [1003] [_,_,.lit (ZdT vo i),_] [2] [_] rfl ⟨fun _ _ _ hx hl _ => Zi3 (m := i) Zm rfl (Zw hx (mo 0 rfl)) (by first | rfl | (rw [List.length_map]; exact (by have := f1_1.le; have := f1_1.lt; have := f1_1.len; simp; omega))) (hl.dep 0 39 _ rfl rfl rfl rfl) (hl.dep 1 40 _ rfl rfl rfl rfl) hx, trivial⟩ ?_)
 refine tw (fun h => ZB hS h (m := 0) (s := 4) rfl) ?_
 exact Ze (fun a w h => Ya  (m := 0) () rfl h rfl (congrArg (fun z => AV.rd (YC z)) (show (ys.take i) = (xs.filter fun x' => !p x') from by first | exact DelF.none e1 | exact f1_1.fin (by have := f1_1.len; omega))))
theorem ZdC {J : World → Prop} (hJ : Stab J) (v : Value) (xs : List Pr) (f : FuncId) (caps : List AV) (Os : List OB) (Hs : List OB) (p : Pr → Bool) (hf : ∀ q', FnR Tryz.prog J f (Os ++ Hs) ([.agg (prC (q'))] ++ caps) (.bool (p q'))) (hk0 : Zj Tryz.prog f) (hn : xs.length ≤ 9223372036854775807) : FnM (ι := Unit) Tryz.prog J 156 Hs [.lit v, .fn f caps] (OB.row v 148 2 (xs.map prC) :: Os) (fun _ => .rd (YI (xs.filter fun x' => !p x'))) (fun _ => (Os)) := by
 refine Yx (N := 42) Tryz.func156 rfl rfl (lb rfl) fun S w0 R hS hJ0 hH => ?_
 refine Xe (B := St All (SO S (OB.row v 148 2 (xs.map prC) :: (Os ++ R))) w0 42 [(0, .lit v), (1, .fn f caps)] (XO J S w0.heap.size (OB.row v 148 2 (xs.map prC) :: (Os ++ R)))) ?_ fun a w h => h
 refine qso tb hJ [0,1] [_] [_,_] ?_
 refine Zfp tb hJ [0,1,1003] [_,_,.int (YS p xs),_] [2] [_,_,_] rfl ⟨fun _ _ hk hx hl _ => Xy (ZeF hJ (xs := xs) (f := f) (caps := caps) (Os := (Os ++ Hs)) (p := p) (hf) (hk0)) Zl1 rfl (nm hS hk) (hx.1) (ZdO (fun _ ho => ZgW hx (List.mem_cons_of_mem _ (List.mem_append_left _ ho))) (fun _ ho => Zha hH hk hx ho)) (Zc (YA hS hx (mo 0 rfl) (hl.dep 0 8 _ rfl rfl rfl rfl)) (Zc (hl.dep 1 9 _ rfl rfl rfl rfl) Zi)) (jo hJ hx), trivial⟩ ?_
 refine Zd (qso tb hJ [0,1,2,1001] [_,_] [_,_,_,_] ?_)
 refine cj 3 (fun hb1 => ?_) fun hb1 => ?_
 have e1 := of_decide_eq_true hb1
 refine qso tb hJ [1001] [_,_] [_] ?_
 refine tw (fun h => ZB hS h (m := 0) (s := 4) rfl) ?_
 exact Ze (fun a w h => Ya  (m := 0) () rfl h rfl (congrArg (fun z => AV.rd (YI z)) (show xs = (xs.filter fun x' => !p x') from by first | exact DelF.none e1 | exact f1_1.fin (by have := f1_1.len; omega))))
 have e1 := of_decide_eq_false hb1
 refine Za (nx (Zd (tw (sa 2 rfl (congrArg AV.int (show YS p xs = (((YS p xs).toNat : Nat) : Int) from by have := YZ e1; omega))) ?_)))
 refine ZC tb hJ [0,1,2,1002] [_,.int ((YS p xs).toNat + 1 : Nat),_] [1] [_,_,_,_] rfl ⟨Z2 (h0 := by have := (YZ e1).2.1; omega), trivial⟩ ?_
 refine Zb (lpo (ι := Nat × Nat × (List Pr) × Value) (fun (i, j, ys, _) => (DelF p xs ys i j)) (fun (_, _, ys, vo) => (OB.row vo 148 2 (ys.map prC) :: (Os ++ R))) (fun (i, j, _, vo) => [(5, .int (i : Nat)), (6, .int (j : Nat)), (0, .lit vo)]) (fun (_, j, _, _) => xs.length - j) [1,2,3,0] [_] ((YS p xs).toNat, (YS p xs).toNat + 1, xs, v) (show (DelF p xs xs ((YS p xs).toNat) ((YS p xs).toNat + 1)) from DelF.init e1) ?_)
 rintro ⟨i, j, ys, vo⟩ hF
 have f1_1 : DelF p xs ys i j := hF
 refine Zd (Zfp tb hJ [0,1,2,3,1003] [_,_,.int (ys.length : Nat),_] [2] [_,_,_,_,_] rfl ⟨fun _ _ _ hx hl _ => ZaG ZY rfl (YA hS hx (mo 0 rfl) (hl.dep 1 17 _ rfl rfl rfl rfl)) hx, trivial⟩ ?_)
 refine cj 4 (fun hb2 => ?_) fun hb2 => ?_
 try simp at hb2
 refine Za (nx (Zd (Zb (tsq ?_))))
 refine snK 2 tb rfl ?_
 refine sq (.lit (QI vo (j * 2))) rfl rfl (lb rfl) (fun _ _ h => Xq (i := (j : Int)) Zv rfl (Zw h.x (mo 0 rfl)) (h.get 1 rfl) (h.get 0 rfl) (Int.natCast_nonneg _) (by rw [List.length_map]; exact Int.ofNat_lt.2 (by omega)) h.x) ?_
 refine sq (.agg (prC (ge ys j))) rfl rfl (lb rfl) (fun _ _ h => Zc5 (i := j) Zfl rfl (Zw h.x (mo 0 rfl)) (h.get 0 rfl) (ZgC (xs := ys) (k := j) (by omega)) rfl h.x) ?_
 refine QP (cs := prC (ge ys j)) Zee rfl rfl rfl (lb rfl) rfl rfl rfl (by decide) (m := 0) rfl rfl (fun a w h => Zo hS _ h.keep h.x _ (Nat.le_refl _)) (fun a w h w' hk' => YQ hJ _ _ hk' h.x) ?_
 refine seK [0,5,6,7,8] [_,_,_,_,_] rfl ?_
 refine nx (ZC tb hJ [0,1,2,3,4,1003] [_,_,.bool (p (ge ys j)),_] [2] [_,_,_,_,_,_] rfl ⟨fun _ _ hk hx hl _ => Zah (hf (ge ys j)) hk0 rfl (hl.dep 0 26 _ rfl rfl rfl rfl) (Zo hS _ hk hx) (hx.1) (ZdO (fun _ ho => Zw hx (List.mem_cons_of_mem _ (List.mem_append_left _ ho))) (fun _ ho => Yy hH hk hx ho)) (Zc (hl.dep 1 27 _ rfl rfl rfl rfl) Zi) (jo hJ hx), trivial⟩ ?_)
 refine cj 5 (fun hb3 => ?_) fun hb3 => ?_
 try simp at hb3
 refine tsq ?_
 refine snK 3 tb rfl ?_
 refine sq (.lit (QI vo (i * 2))) rfl rfl (lb rfl) (fun _ _ h => Xq (i := (i : Int)) Zv rfl (Zw h.x (mo 0 rfl)) (h.get 2 rfl) (h.get 1 rfl) (Int.natCast_nonneg _) (by rw [List.length_map]; exact Int.ofNat_lt.2 (by have := f1_1.le; omega)) h.x) ?_
 refine Zbf (i := i) hJ hJ0 Zc0 rfl rfl rfl (by rw [List.length_map]; exact (by have := f1_1.le; omega)) rfl (fun a w h => ⟨(h.get 0 rfl), (h.get 1 rfl)⟩) ?_
 rw [show (ys.map prC).set i (prC (ge ys j)) = (ys.set i (ge ys j)).map prC from List.map_set.symm]
 refine seK [5,6,7,8] [_,_,_,_] rfl ?_
 refine nx (Yj tb hJ [0,2,3,1002] [_,.int (i + 1 : Nat),_] [1] [_,_,_,_] rfl ⟨Z2 (h0 := by have := f1_1.le; have := f1_1.len; omega), trivial⟩ ?_)
 refine nx (Yj tb hJ [0,2,3,1002] [_,.int (j + 1 : Nat),_] [1] [_,_,_,_] rfl ⟨Z2 (h0 := by have := f1_1.lt; have := f1_1.len; omega), trivial⟩ ?_)
 exact Yr (i + 1, j + 1, ys.set i (ge ys j), vo) [0,2,3,1] (show (DelF p xs (ys.set i (ge ys j)) (i + 1) (j + 1)) from f1_1.keep (by have := f1_1.len; omega) (by simpa using hb3)) (hm := (show xs.length - (j + 1) < xs.length - j from by have := f1_1.lt; have := f1_1.len; omega))
 try simp at hb3
 refine Za (nx (Yj tb hJ [1,2,4,1002] [_,.int (j + 1 : Nat),_] [1] [_,_,_,_] rfl ⟨Z2 (h0 := by have := f1_1.lt; have := f1_1.len; omega), trivial⟩ ?_))
 exact Yr (i, j + 1, ys, vo) [0,1,3,2] (show (DelF p xs ys i (j + 1)) from f1_1.skip (by have := f1_1.len; omega) (by simpa using hb3)) (hm := (show xs.length - (j + 1) < xs.length - j from by have := f1_1.lt; have := f1_1.len; omega))
 try simp at hb2
 refine Zl (nx (tsq ?_))
 refine snK 2 tb rfl ?_
 refine sq (.lit (ZkI vo i 2)) rfl rfl (lb rfl) (fun _ _ h => Zm3 (lo := i) Zv rfl (Zw h.x (mo 0 rfl)) (h.get 1 rfl) (h.get 0 rfl) (by rw [List.length_map]; exact (by have := f1_1.le; have := f1_1.lt; have := f1_1.len; omega)) h.x) ?_
 refine Zgu (lo := i) Zfr ZY (by decide) hJ hJ0 rfl rfl rfl (by rw [List.length_map]; exact (by have := f1_1.le; have := f1_1.lt; have := f1_1.len; omega)) (fun a w h => (h.get 0 rfl)) ?_
 rw [← List.map_take]
 refine seK [4,6] [_,_] rfl ?_
 refine nx (ZC tb hJ [1003] [_,_,.lit (ZdT vo i),_] [2] [_] rfl ⟨fun _ _ _ hx hl _ => Zi3 (m := i) Zv rfl (Zw hx (mo 0 rfl)) (by first | rfl | (rw [List.length_map]; exact (by have := f1_1.le; have := f1_1.lt; have := f1_1.len; simp; omega))) (hl.dep 0 39 _ rfl rfl rfl rfl) (hl.dep 1 40 _ rfl rfl rfl rfl) hx, trivial⟩ ?_)
 refine tw (fun h => ZB hS h (m := 0) (s := 4) rfl) ?_
 exact Ze (fun a w h => Ya  (m := 0) () rfl h rfl (congrArg (fun z => AV.rd (YI z)) (show (ys.take i) = (xs.filter fun x' => !p x') from by first | exact DelF.none e1 | exact f1_1.fin (by have := f1_1.len; omega))))
end Go.Proofs.YtnpgmdffjemnbaaGreatDoor
