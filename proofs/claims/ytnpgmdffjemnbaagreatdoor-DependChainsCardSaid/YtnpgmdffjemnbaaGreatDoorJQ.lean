/-
  FACTS of the program's types and functions.
  CONTRACTS: small functions of the references that only read.
  CONTRACTS: functions of the references on hypotheses and frames.
  CONTRACTS: labels, pairs and hypotheses of the references.
  CONTRACTS: hypotheses of the references.
  CONTRACTS: the check of a database by the reference.
-/
import Derived.Test.YtnpgmdffjemnbaaGreatDoorJP
import Derived.Laws.StructEq
import Derived.Test.YtnpgmdffjemnbaaGreatDoorJN
import Derived.Test.YtnpgmdffjemnbaaGreatDoorJE
set_option maxHeartbeats 8000000
set_option maxRecDepth 100000
namespace Go.Proofs.YtnpgmdffjemnbaaGreatDoor
open Go.RowKit

theorem Y0 : Tryz.prog.follows .mixedOrders = true := by kernel_rfl
theorem ZiW : (Tryz.prog.fieldsOf 148).toList = [{ name := "A", type := 9, offset := 0, embedded := false, tag := "", pkgPath := "", byteOffset := 0 }, { name := "B", type := 9, offset := 1, embedded := false, tag := "", pkgPath := "", byteOffset := 16 }] := by kernel_rfl
theorem ZiV : Tryz.prog.underlying 148 = some (.struct (Tryz.prog.fieldsOf 148)) := by kernel_rfl
theorem und9 : Tryz.prog.underlying 9 = some .string := by kernel_rfl
theorem Zex (c : Array Value) (i : Nat) (v : Value) (h : c[i]? = some v) (w : World) : (part 9 c i).run Tryz.prog w = .ok v w := by
  simp [part, Tryz.isAgg9, h]
theorem ZjF : Zka Tryz.prog 148 := by
  intro a b c d w x y
  refine ⟨by simp [eqGuard], by simp [eqGuard], ?_⟩
  unfold Op.equal Op.maxDepth
  rw [run_equalIn_struct w 9999 148 _ _ ZiV (by kernel_rfl), ZiW]
  have e1 := fun (c : Array Value) (v : Value) (i : Nat) (h : c[i]? = some v) => Zex c i v h
  have q1 := run_equalIn_string (P := Tryz.prog) w 9998 9 a c und9
  have q2 := run_equalIn_string (P := Tryz.prog) w 9998 9 b d und9
  rw [Zbw] at q1 q2
  simp only [Op.eqFields]
  rw [if_pos (by decide), if_pos (by decide)]
  simp only [Sem.run_bind]
  rw [e1 _ (.string a) 0 rfl w, Result.andThen_ok, e1 _ (.string c) 0 rfl w, Result.andThen_ok, q1, Result.andThen_ok]
  by_cases h1 : a = c
  · simp only [h1, decide_true, Bool.not_true, Bool.false_eq_true, if_false, Sem.run_bind]
    rw [e1 _ (.string b) 1 rfl w, Result.andThen_ok, e1 _ (.string d) 1 rfl w, Result.andThen_ok, q2, Result.andThen_ok]
    by_cases h2 : b = d
    · simp [h2, Sem.run_pure]
    · simp [h2, Sem.run_pure]
  · simp [h1, Sem.run_pure]

theorem ZB : Tryz.prog.underlying 22 = some (.slice 9) := by kernel_rfl
theorem Zk : Yr Tryz.prog 22 9 1 := ⟨by kernel_rfl, fun w => by kernel_rfl⟩
theorem ZdO : Qm Tryz.prog 9 := fun w => by kernel_rfl
theorem Yx : Tryz.prog.underlying 28 = some (.slice 3) := by kernel_rfl
theorem Zo : Yr Tryz.prog 28 3 1 := ⟨by kernel_rfl, fun w => by kernel_rfl⟩
theorem Zi9 : Qm Tryz.prog 3 := fun w => by kernel_rfl
theorem Z1 : Tryz.prog.underlying 57 = some (.slice 148) := by kernel_rfl
theorem ZH : Yr Tryz.prog 57 148 2 := ⟨by kernel_rfl, fun w => by kernel_rfl⟩
theorem Zfo : Qs Tryz.prog 148 2 := ⟨fun w => by kernel_rfl, fun w => by kernel_rfl⟩
theorem Z6 : Tryz.prog.underlying 9 = some .string := by kernel_rfl
theorem ZlP : Zu Tryz.prog 163 := Zz Tryz.func163 rfl rfl
theorem Zl4 : Zu Tryz.prog 133 := Zz Tryz.func133 rfl rfl
theorem Zdt : YQ Tryz.prog 59 2 2 := fun b off w => by kernel_rfl
theorem Zi7 : Qm Tryz.prog 56 := fun w => by kernel_rfl
theorem Zh0 : YQ Tryz.prog 59 5 5 := fun b off w => by kernel_rfl
theorem Xz : Zfp Tryz.prog 56 109 3 48 := ZoG (.agg #[.string ⟨#[]⟩, .bool false, .slice none 0 0]) (by kernel_rfl) (by kernel_rfl) rfl (by decide) (fun w => by kernel_rfl)
theorem Zec : Zu Tryz.prog 106 := Zz Tryz.func106 rfl rfl
theorem one_4 : Qm Tryz.prog 4 := fun w => by kernel_rfl
theorem QN : YQ Tryz.prog 109 2 2 := fun b off w => by kernel_rfl
theorem Zdm : Qm Tryz.prog 22 := fun w => by kernel_rfl
theorem YN : Zu Tryz.prog 105 := Zz Tryz.func105 rfl rfl
theorem QO : YQ Tryz.prog 109 0 0 := fun b off w => by kernel_rfl
theorem ZmE : Tryz.prog.underlying 4 = some .bool := by kernel_rfl
theorem ZlO : Zu Tryz.prog 164 := Zz Tryz.func164 rfl rfl
theorem Zho : Qs Tryz.prog 25 3 := ⟨fun w => by kernel_rfl, fun w => by kernel_rfl⟩
theorem Zea : Zu Tryz.prog 108 := Zz Tryz.func108 rfl rfl
theorem Zgi : ZcQ Tryz.prog 148 := ⟨.agg #[.string ⟨#[]⟩, .string ⟨#[]⟩], fun w => by kernel_rfl⟩
theorem Zbx : Zfp Tryz.prog 57 148 2 32 := ZoG (.agg #[.string ⟨#[]⟩, .string ⟨#[]⟩]) (by kernel_rfl) (by kernel_rfl) rfl (by decide) (fun w => by kernel_rfl)
theorem Zb6 : Tryz.prog.underlying 145 = some (.slice 22) := by kernel_rfl
theorem YT : Yr Tryz.prog 145 22 1 := ⟨by kernel_rfl, fun w => by kernel_rfl⟩
theorem Zay : ZcQ Tryz.prog 9 := ⟨.string ⟨#[]⟩, fun w => by kernel_rfl⟩
theorem XE : Zfp Tryz.prog 22 9 1 16 := ZoG (.string ⟨#[]⟩) (by kernel_rfl) (by kernel_rfl) rfl (by decide) (fun w => by kernel_rfl)
theorem ZC : Tryz.prog.underlying 56 = some (.slice 109) := by kernel_rfl
theorem Zt : Yr Tryz.prog 56 109 3 := ⟨by kernel_rfl, fun w => by kernel_rfl⟩
theorem ZdB : ZcQ Tryz.prog 22 := ⟨.slice none 0 0, fun w => by kernel_rfl⟩
theorem Zdy : Zfp Tryz.prog 145 22 1 24 := ZoG (.slice none 0 0) (by kernel_rfl) (by kernel_rfl) rfl (by decide) (fun w => by kernel_rfl)
theorem Ye : Yr Tryz.prog 23 59 8 := ⟨by kernel_rfl, fun w => by kernel_rfl⟩
theorem ZmA : Qs Tryz.prog 59 8 := ⟨fun w => by kernel_rfl, fun w => by kernel_rfl⟩
theorem Zhk : Zu Tryz.prog 114 := Zz Tryz.func114 rfl rfl
theorem Zdu : YQ Tryz.prog 59 0 0 := fun b off w => by kernel_rfl
theorem ZbZ : Zu Tryz.prog 109 := Zz Tryz.func109 rfl rfl
theorem ZlJ : Zu Tryz.prog 179 := Zz Tryz.func179 rfl rfl
theorem Zhe : Zu Tryz.prog 165 := Zz Tryz.func165 rfl rfl
theorem Zeb : Zu Tryz.prog 107 := Zz Tryz.func107 rfl rfl
theorem Zhl : Zu Tryz.prog 111 := Zz Tryz.func111 rfl rfl
theorem Zbe : Qs Tryz.prog 109 3 := ⟨fun w => by kernel_rfl, fun w => by kernel_rfl⟩
theorem Za9 : Zu Tryz.prog 134 := Zz Tryz.func134 rfl rfl
theorem ZbY : Zu Tryz.prog 135 := Zz Tryz.func135 rfl rfl
theorem Zh1 : YQ Tryz.prog 59 4 4 := fun b off w => by kernel_rfl
theorem Zl2 : Zu Tryz.prog 137 := Zz Tryz.func137 rfl rfl
theorem Zl3 : Zu Tryz.prog 136 := Zz Tryz.func136 rfl rfl
theorem Zel : ZoH Tryz.prog 148 2 := ⟨(#[.string ⟨#[]⟩, .string ⟨#[]⟩]), rfl, by kernel_rfl⟩
theorem Zl1 : Zu Tryz.prog 139 := Zz Tryz.func139 rfl rfl
theorem Zhg : Zu Tryz.prog 138 := Zz Tryz.func138 rfl rfl
theorem Zl0 : Zu Tryz.prog 140 := Zz Tryz.func140 rfl rfl
theorem Zhm : Zu Tryz.prog 104 := Zz Tryz.func104 rfl rfl
theorem ZdC : ZoH Tryz.prog 59 8 := ⟨(#[.string ⟨#[]⟩, .bool false, .slice none 0 0, .slice none 0 0, .slice none 0 0, .slice none 0 0, .slice none 0 0, .slice none 0 0]), rfl, by kernel_rfl⟩
theorem Zmj : Zu Tryz.prog 110 := Zz Tryz.func110 rfl rfl
theorem Zmi : Zu Tryz.prog 112 := Zz Tryz.func112 rfl rfl
theorem Zmh : Zu Tryz.prog 113 := Zz Tryz.func113 rfl rfl
theorem Zmf : Zu Tryz.prog 116 := Zz Tryz.func116 rfl rfl
theorem Zmg : Zu Tryz.prog 115 := Zz Tryz.func115 rfl rfl
theorem YH : Tryz.prog.underlying 23 = some (.slice 59) := by kernel_rfl
theorem Zod : Zu Tryz.prog 79 := Zz Tryz.func79 rfl rfl
theorem Zoc : Zu Tryz.prog 80 := Zz Tryz.func80 rfl rfl
theorem ZjV : Zu Tryz.prog 62 := Zz Tryz.func62 rfl rfl
theorem Zf7 : Zu Tryz.prog 46 := Zz Tryz.func46 rfl rfl
theorem Xu : ZcQ Tryz.prog 3 := ⟨.int .i64 0, fun w => by kernel_rfl⟩
theorem YU : Zfp Tryz.prog 28 3 1 8 := ZoG (.int .i64 0) (by kernel_rfl) (by kernel_rfl) rfl (by decide) (fun w => by kernel_rfl)
theorem ZjX : Zu Tryz.prog 44 := Zz Tryz.func44 rfl rfl
theorem Zd8 : Zu Tryz.prog 45 := Zz Tryz.func45 rfl rfl
theorem ZmV : Qm Tryz.prog 99 := fun w => by kernel_rfl
theorem ZU : Zhp Tryz.prog 99 9 4 keyS.kind := ⟨by kernel_rfl, by kernel_rfl⟩
theorem ZY : Zgh Tryz.prog 4 (.bool false) := ⟨(.bool false), fun w => by kernel_rfl, fun S w => Rel.of_lit _⟩
theorem Zf0 : YQ Tryz.prog 103 1 1 := fun b off w => by kernel_rfl
theorem ZeP : Qm Tryz.prog 97 := fun w => by kernel_rfl
theorem Zd5 : Zu Tryz.prog 87 := Zz Tryz.func87 rfl rfl
theorem Zl7 : Zu Tryz.prog 129 := Zz Tryz.func129 rfl rfl
theorem Zhh : Zu Tryz.prog 131 := Zz Tryz.func131 rfl rfl
theorem Zoh : Zu Tryz.prog 69 := Zz Tryz.func69 rfl rfl
theorem ZaL : ZoH Tryz.prog 109 3 := ⟨(#[.string ⟨#[]⟩, .bool false, .slice none 0 0]), rfl, by kernel_rfl⟩
theorem XN : X2 Tryz.prog 109 3 := fun w => by kernel_rfl
theorem Zft : Zei Tryz.prog 109 3 := ⟨(.agg #[.string ⟨#[]⟩, .bool false, .slice none 0 0]), fun w => by kernel_rfl, rfl, by simp [Value.cells, Value.oneCell']⟩
theorem ZlM : Zu Tryz.prog 174 := Zz Tryz.func174 rfl rfl
theorem Zdd : X2 Tryz.prog 148 2 := fun w => by kernel_rfl
theorem Zfs : Zei Tryz.prog 148 2 := ⟨(.agg #[.string ⟨#[]⟩, .string ⟨#[]⟩]), fun w => by kernel_rfl, rfl, by simp [Value.cells, Value.oneCell']⟩
theorem Zkz : X2 Tryz.prog 3 1 := fun w => by kernel_rfl
theorem Zb2 : Zei Tryz.prog 3 1 := ⟨(.int .i64 0), fun w => by kernel_rfl, rfl, by simp [Value.cells, Value.oneCell']⟩
theorem Zhf : Zu Tryz.prog 155 := Zz Tryz.func155 rfl rfl
theorem ZlX : Zu Tryz.prog 154 := Zz Tryz.func154 rfl rfl
theorem ZlU : Zu Tryz.prog 158 := Zz Tryz.func158 rfl rfl
theorem ZlV : Zu Tryz.prog 157 := Zz Tryz.func157 rfl rfl
theorem ZlW : Zu Tryz.prog 156 := Zz Tryz.func156 rfl rfl
theorem Zmk : Zu Tryz.prog 103 := Zz Tryz.func103 rfl rfl
theorem Zml : Zu Tryz.prog 102 := Zz Tryz.func102 rfl rfl
theorem Zmm : Zu Tryz.prog 101 := Zz Tryz.func101 rfl rfl
theorem Xv : Zig Tryz.prog 109 [.lit (.string ⟨#[]⟩), .lit (.bool false), .sl []] := ⟨(.agg #[.string ⟨#[]⟩, .bool false, .slice none 0 0]), fun w => by kernel_rfl, fun S w => (show RdL S w [.lit (.string ⟨#[]⟩), .lit (.bool false), .sl []] [.string ⟨#[]⟩, .bool false, .slice none 0 0] from ⟨.lit _ (Nat.zero_le _), .lit _ True.intro, .nil _ _ (Nat.zero_le _), trivial⟩)⟩
theorem Zl5 : Zu Tryz.prog 132 := Zz Tryz.func132 rfl rfl
theorem ZiG : X2 Tryz.prog 22 1 := fun w => by kernel_rfl
theorem Zmd : Zu Tryz.prog 123 := Zz Tryz.func123 rfl rfl
theorem Zd4 : Zu Tryz.prog 93 := Zz Tryz.func93 rfl rfl
theorem ZaN : Zig Tryz.prog 176 ((List.replicate 256 (0 : UInt8)).map u8D) := Zkl (.agg (Array.replicate 256 (.int .u8 0))) (fun w => by kernel_rfl) (by simp [Value.cells])
theorem Zc8 : Tryz.prog.underlying 3 = some (.int .i64) := by kernel_rfl
theorem Ziu : Tryz.prog.underlying 5 = some (.int .u8) := by kernel_rfl
theorem Xm : ArrT Tryz.prog 176 5 256 := ⟨by kernel_rfl, fun w => by kernel_rfl, by decide⟩
theorem ZbR : X2 Tryz.prog 5 1 := fun w => by kernel_rfl
theorem ZcO : Qs Tryz.prog 176 256 := ⟨fun w => by kernel_rfl, fun w => by kernel_rfl⟩
theorem ZbA : X2 Tryz.prog 176 256 := fun w => by kernel_rfl
theorem Zhu : Tryz.prog.underlying 175 = some (.slice 5) := by kernel_rfl
theorem Zac : Yr Tryz.prog 175 5 1 := ⟨by kernel_rfl, fun w => by kernel_rfl⟩
theorem one_5 : Qm Tryz.prog 5 := fun w => by kernel_rfl
theorem ZlN : Zu Tryz.prog 172 := Zz Tryz.func172 rfl rfl
theorem ZlZ : Zu Tryz.prog 152 := Zz Tryz.func152 rfl rfl
theorem ZlY : Zu Tryz.prog 153 := Zz Tryz.func153 rfl rfl
theorem zero_5 : ZcQ Tryz.prog 5 := ⟨.int .u8 0, fun w => by kernel_rfl⟩
theorem Zhj : Zu Tryz.prog 120 := Zz Tryz.func120 rfl rfl
theorem Zii : Zei Tryz.prog 5 1 := ⟨(.int .u8 0), fun w => by kernel_rfl, rfl, by simp [Value.cells, Value.oneCell']⟩
theorem Zhc : Zu Tryz.prog 177 := Zz Tryz.func177 rfl rfl
theorem Zf5 : Zu Tryz.prog 86 := Zz Tryz.func86 rfl rfl
theorem ZlK : Zu Tryz.prog 178 := Zz Tryz.func178 rfl rfl
theorem Zhd : Zu Tryz.prog 176 := Zz Tryz.func176 rfl rfl
theorem QX : Tryz.prog.underlying 199 = some (.array 10 198) := by kernel_rfl
theorem Zah : X2 Tryz.prog 198 4 := fun w => by kernel_rfl
theorem Zfn : Qs Tryz.prog 198 4 := ⟨fun w => by kernel_rfl, fun w => by kernel_rfl⟩
theorem ZaM : Zig Tryz.prog 198 [.lit (.string ⟨#[]⟩), .lit (.bool false), .lit (.int .i64 0), .lit (.int .i64 0)] := ⟨(.agg #[.string ⟨#[]⟩, .bool false, .int .i64 0, .int .i64 0]), fun w => by kernel_rfl, fun S w => (show RdL S w [.lit (.string ⟨#[]⟩), .lit (.bool false), .lit (.int .i64 0), .lit (.int .i64 0)] [.string ⟨#[]⟩, .bool false, .int .i64 0, .int .i64 0] from ⟨.lit _ (Nat.zero_le _), .lit _ True.intro, .lit _ True.intro, .lit _ True.intro, trivial⟩)⟩
theorem Zf4 : Zu Tryz.prog 88 := Zz Tryz.func88 rfl rfl
theorem ZfX : YQ Tryz.prog 156 2 2 := fun b off w => by kernel_rfl
theorem ZfW : YQ Tryz.prog 156 3 3 := fun b off w => by kernel_rfl
theorem ZlR : Zu Tryz.prog 161 := Zz Tryz.func161 rfl rfl
theorem QW : Tryz.prog.underlying 157 = some (.slice 156) := by kernel_rfl
theorem Qx : Yr Tryz.prog 157 156 4 := ⟨by kernel_rfl, fun w => by kernel_rfl⟩
theorem ZlL : Zu Tryz.prog 175 := Zz Tryz.func175 rfl rfl
theorem ZfV : YQ Tryz.prog 198 0 0 := fun b off w => by kernel_rfl
theorem ZlS : Zu Tryz.prog 160 := Zz Tryz.func160 rfl rfl
theorem ZlT : Zu Tryz.prog 159 := Zz Tryz.func159 rfl rfl
theorem Zip : ZoH Tryz.prog 156 4 := ⟨(#[.int .i64 0, .string ⟨#[]⟩, .slice none 0 0, .slice none 0 0]), rfl, by kernel_rfl⟩
theorem ZlQ : Zu Tryz.prog 162 := Zz Tryz.func162 rfl rfl
theorem Zgd : Zhq Tryz.prog 156 4 := ⟨#[.int .i64 0, .string ⟨#[]⟩, .slice none 0 0, .slice none 0 0], rfl, fun i => (#[(0, 1), (1, 1), (2, 1), (3, 1)] : Array (Nat × Nat))[i]?, fun j hj => by rcases j with _ | _ | _ | _ | j <;> first | rfl | omega, fun parts => by kernel_rfl⟩
theorem Zkg : ZcQ Tryz.prog 156 := ⟨.agg #[.int .i64 0, .string ⟨#[]⟩, .slice none 0 0, .slice none 0 0], fun w => by kernel_rfl⟩
theorem Zl6 : Zu Tryz.prog 130 := Zz Tryz.func130 rfl rfl
theorem ZfZ : YQ Tryz.prog 103 2 2 := fun b off w => by kernel_rfl
theorem Zcv : YQ Tryz.prog 112 1 1 := fun b off w => by kernel_rfl
theorem ZfL : Qm Tryz.prog 101 := fun w => by kernel_rfl
theorem Qq : Zhp Tryz.prog 101 9 9 keyS.kind := ⟨by kernel_rfl, by kernel_rfl⟩
theorem Zb3 : Zgh Tryz.prog 9 (.str default) := ⟨(.string ⟨#[]⟩), fun w => by kernel_rfl, fun S w => (show Rel S w (.str ⟨#[]⟩) _ from Rel.of_lit _ (Nat.zero_le _))⟩
theorem ZfY : YQ Tryz.prog 103 4 4 := fun b off w => by kernel_rfl
theorem Qg : YQ Tryz.prog 103 3 3 := fun b off w => by kernel_rfl
theorem Zcm : Qm Tryz.prog 100 := fun w => by kernel_rfl
theorem Xk : Zhp Tryz.prog 100 9 109 keyS.kind := ⟨by kernel_rfl, by kernel_rfl⟩
theorem Qn : Zgh Tryz.prog 109 (.agg (hyC default)) := ⟨(.agg #[.string ⟨#[]⟩, .bool false, .slice none 0 0]), fun w => by kernel_rfl, fun S w => (show Rel S w (.agg [.lit (.string ⟨#[]⟩), .lit (.bool false), .sl []]) _ from (by simp only [Rel]; exact ⟨[.string ⟨#[]⟩, .bool false, .slice none 0 0], rfl, .lit _ (Nat.zero_le _), .lit _ True.intro, .nil _ _ (Nat.zero_le _), trivial⟩))⟩
theorem Zhi : Zu Tryz.prog 122 := Zz Tryz.func122 rfl rfl
theorem ZjR : Zu Tryz.prog 91 := Zz Tryz.func91 rfl rfl
theorem Zmb : Zu Tryz.prog 125 := Zz Tryz.func125 rfl rfl
theorem Zmc : Zu Tryz.prog 124 := Zz Tryz.func124 rfl rfl
theorem Zfx : Tryz.prog.underlying 99 = some (.map 9 4) := by kernel_rfl
theorem Zfv : Zig Tryz.prog 148 [.lit (.string ⟨#[]⟩), .lit (.string ⟨#[]⟩)] := ⟨(.agg #[.string ⟨#[]⟩, .string ⟨#[]⟩]), fun w => by kernel_rfl, fun S w => (show RdL S w [.lit (.string ⟨#[]⟩), .lit (.string ⟨#[]⟩)] [.string ⟨#[]⟩, .string ⟨#[]⟩] from ⟨.lit _ (Nat.zero_le _), .lit _ (Nat.zero_le _), trivial⟩)⟩
theorem Zma : Zu Tryz.prog 126 := Zz Tryz.func126 rfl rfl
theorem Zl8 : Zu Tryz.prog 128 := Zz Tryz.func128 rfl rfl
theorem Zl9 : Zu Tryz.prog 127 := Zz Tryz.func127 rfl rfl
theorem Zn7 : Zu Tryz.prog 95 := Zz Tryz.func95 rfl rfl
theorem Zb7 : Tryz.prog.underlying 140 = some (.slice 56) := by kernel_rfl
theorem X8 : Yr Tryz.prog 140 56 1 := ⟨by kernel_rfl, fun w => by kernel_rfl⟩
theorem Zme : Zu Tryz.prog 121 := Zz Tryz.func121 rfl rfl
theorem Zeq : Tryz.prog.underlying 101 = some (.map 9 9) := by kernel_rfl
theorem Zn8 : Zu Tryz.prog 94 := Zz Tryz.func94 rfl rfl
theorem Zn4 : Zu Tryz.prog 98 := Zz Tryz.func98 rfl rfl
theorem Zge : Zhq Tryz.prog 112 2 := ⟨#[.map none, .map none], rfl, fun i => (#[(0, 1), (1, 1)] : Array (Nat × Nat))[i]?, fun j hj => by rcases j with _ | _ | j <;> first | rfl | omega, fun parts => by kernel_rfl⟩
theorem Zfw : Zig Tryz.prog 112 [.lit (.map none), .lit (.map none)] := ⟨(.agg #[.map none, .map none]), fun w => by kernel_rfl, fun S w => (show RdL S w [.lit (.map none), .lit (.map none)] [.map none, .map none] from ⟨.lit _ True.intro, .lit _ True.intro, trivial⟩)⟩
theorem ZhB : X2 Tryz.prog 112 2 := fun w => by kernel_rfl
theorem Zc5 : Zei Tryz.prog 56 1 := ⟨(.slice none 0 0), fun w => by kernel_rfl, rfl, by simp [Value.cells, Value.oneCell']⟩
theorem ZjS : Zu Tryz.prog 89 := Zz Tryz.func89 rfl rfl
theorem Zoa : Zu Tryz.prog 90 := Zz Tryz.func90 rfl rfl
theorem Zn9 : Zu Tryz.prog 92 := Zz Tryz.func92 rfl rfl
theorem ZjT : Zu Tryz.prog 77 := Zz Tryz.func77 rfl rfl
theorem Zn6 : Zu Tryz.prog 96 := Zz Tryz.func96 rfl rfl
theorem Zn5 : Zu Tryz.prog 97 := Zz Tryz.func97 rfl rfl
theorem Zn3 : Zu Tryz.prog 99 := Zz Tryz.func99 rfl rfl
theorem Zmn : Zu Tryz.prog 100 := Zz Tryz.func100 rfl rfl
theorem Zgf : Zhq Tryz.prog 103 5 := ⟨#[.map none, .map none, .map none, .map none, .map none], rfl, fun i => (#[(0, 1), (1, 1), (2, 1), (3, 1), (4, 1)] : Array (Nat × Nat))[i]?, fun j hj => by rcases j with _ | _ | _ | _ | _ | j <;> first | rfl | omega, fun parts => by kernel_rfl⟩
theorem Zof : Zu Tryz.prog 75 := Zz Tryz.func75 rfl rfl
theorem Zoe : Zu Tryz.prog 76 := Zz Tryz.func76 rfl rfl
theorem Zob : Zu Tryz.prog 82 := Zz Tryz.func82 rfl rfl
theorem Zom : Zu Tryz.prog 54 := Zz Tryz.func54 rfl rfl
theorem Zj6 : Zm6 Tryz.prog 66 := fun x y z => by kernel_rfl
theorem QT : Zig Tryz.prog 59 [.lit (.string ⟨#[]⟩), .lit (.bool false), .sl [], .sl [], .sl [], .sl [], .sl [], .sl []] := ⟨(.agg #[.string ⟨#[]⟩, .bool false, .slice none 0 0, .slice none 0 0, .slice none 0 0, .slice none 0 0, .slice none 0 0, .slice none 0 0]), fun w => by kernel_rfl, fun S w => (show RdL S w [.lit (.string ⟨#[]⟩), .lit (.bool false), .sl [], .sl [], .sl [], .sl [], .sl [], .sl []] [.string ⟨#[]⟩, .bool false, .slice none 0 0, .slice none 0 0, .slice none 0 0, .slice none 0 0, .slice none 0 0, .slice none 0 0] from ⟨.lit _ (Nat.zero_le _), .lit _ True.intro, .nil _ _ (Nat.zero_le _), .nil _ _ (Nat.zero_le _), .nil _ _ (Nat.zero_le _), .nil _ _ (Nat.zero_le _), .nil _ _ (Nat.zero_le _), .nil _ _ (Nat.zero_le _), trivial⟩)⟩
theorem Zev : X2 Tryz.prog 59 8 := fun w => by kernel_rfl
theorem Zog : Zu Tryz.prog 71 := Zz Tryz.func71 rfl rfl
theorem Zcq : Zhp Tryz.prog 89 9 3 keyS.kind := ⟨by kernel_rfl, by kernel_rfl⟩
theorem XL : Zgh Tryz.prog 3 (.int default) := ⟨(.int .i64 0), fun w => by kernel_rfl, fun S w => (show Rel S w (.int 0) _ from Rel.of_lit _)⟩
theorem XQ : Zhp Tryz.prog 70 3 4 keyI.kind := ⟨by kernel_rfl, by kernel_rfl⟩
theorem Zan : YQ Tryz.prog 66 1 3 := fun b off w => by kernel_rfl
theorem Zi8 : Qm Tryz.prog 44 := fun w => by kernel_rfl
theorem Zf6 : Zu Tryz.prog 48 := Zz Tryz.func48 rfl rfl
theorem Z7 : Yr Tryz.prog 44 28 1 := ⟨by kernel_rfl, fun w => by kernel_rfl⟩
theorem Zfr : ZcQ Tryz.prog 28 := ⟨.slice none 0 0, fun w => by kernel_rfl⟩
theorem Zbd : Zfp Tryz.prog 44 28 1 24 := ZoG (.slice none 0 0) (by kernel_rfl) (by kernel_rfl) rfl (by decide) (fun w => by kernel_rfl)
theorem ZiE : X2 Tryz.prog 44 1 := fun w => by kernel_rfl
theorem Zi6 : Qm Tryz.prog 70 := fun w => by kernel_rfl
theorem one_62 : Qm Tryz.prog 62 := fun w => by kernel_rfl
theorem ZmX : Qm Tryz.prog 28 := fun w => by kernel_rfl
theorem ZmW : Qm Tryz.prog 91 := fun w => by kernel_rfl
theorem ZjU : Zu Tryz.prog 72 := Zz Tryz.func72 rfl rfl
theorem Zir : Zig Tryz.prog 70 [.lit (.map none)] := ⟨(.map none), fun w => by kernel_rfl, fun S w => (show RdL S w [.lit (.map none)] [.map none] from ⟨.lit _ True.intro, trivial⟩)⟩
theorem ZiD : X2 Tryz.prog 70 1 := fun w => by kernel_rfl
theorem Ziq : Zig Tryz.prog 91 [.lit .nilFunc] := ⟨(.nilFunc), fun w => by kernel_rfl, fun S w => (show RdL S w [.lit .nilFunc] [.nilFunc] from ⟨.lit _ True.intro, trivial⟩)⟩
theorem ZiC : X2 Tryz.prog 91 1 := fun w => by kernel_rfl
theorem Zd9 : Zu Tryz.prog 43 := Zz Tryz.func43 rfl rfl
theorem Xw : Tryz.prog.underlying 44 = some (.slice 28) := by kernel_rfl
theorem ZhP : ZmC Tryz.prog 28 3 8 (.int .i64 0) := makeT (by kernel_rfl) (by kernel_rfl) rfl True.intro
theorem Zoo : Zu Tryz.prog 52 := Zz Tryz.func52 rfl rfl
theorem Zd7 : Zu Tryz.prog 47 := Zz Tryz.func47 rfl rfl
theorem Zoy : Zu Tryz.prog 15 := Zz Tryz.func15 rfl rfl
theorem ZhO : ZmC Tryz.prog 96 4 1 (.bool false) := makeT (by kernel_rfl) (by kernel_rfl) rfl True.intro
theorem QP : Yr Tryz.prog 96 4 1 := ⟨by kernel_rfl, fun w => by kernel_rfl⟩
theorem Zgq : X2 Tryz.prog 4 1 := fun w => by kernel_rfl
theorem Zop : Zu Tryz.prog 49 := Zz Tryz.func49 rfl rfl
theorem Zon : Zu Tryz.prog 53 := Zz Tryz.func53 rfl rfl
theorem ZhZ : YQ Tryz.prog 66 0 0 := fun b off w => by kernel_rfl
theorem Zol : Zu Tryz.prog 56 := Zz Tryz.func56 rfl rfl
theorem Zh8 : Zkb Tryz.prog 66 := fun x y z ad k cap => by kernel_rfl
theorem Zcc : X2 Tryz.prog 28 1 := fun w => by kernel_rfl
theorem Zb1 : Zei Tryz.prog 9 1 := ⟨(.string ⟨#[]⟩), fun w => by kernel_rfl, rfl, by simp [Value.cells, Value.oneCell']⟩
theorem Zh9 : Zkc Tryz.prog 59 := fun s b ad ad' k c k' c' => by kernel_rfl
theorem Zd6 : Zu Tryz.prog 70 := Zz Tryz.func70 rfl rfl
theorem Zfu : Zig Tryz.prog 25 [.sl [], .sl [], .sl []] := ⟨(.agg #[.slice none 0 0, .slice none 0 0, .slice none 0 0]), fun w => by kernel_rfl, fun S w => (show RdL S w [.sl [], .sl [], .sl []] [.slice none 0 0, .slice none 0 0, .slice none 0 0] from ⟨.nil _ _ (Nat.zero_le _), .nil _ _ (Nat.zero_le _), .nil _ _ (Nat.zero_le _), trivial⟩)⟩
theorem Zia : Zkd Tryz.prog 25 := fun ad ad' k c k' c' => by kernel_rfl
theorem ZiF : X2 Tryz.prog 25 3 := fun w => by kernel_rfl
theorem Zoq : Zu Tryz.prog 42 := Zz Tryz.func42 rfl rfl
theorem Zkk : ZoH Tryz.prog 25 3 := ⟨(#[.slice none 0 0, .slice none 0 0, .slice none 0 0]), rfl, by kernel_rfl⟩
theorem ZjZ : Zu Tryz.prog 23 := Zz Tryz.func23 rfl rfl
theorem ZcJ : Zu Tryz.prog 14 := Zz Tryz.func14 rfl rfl
theorem Zor : Zu Tryz.prog 41 := Zz Tryz.func41 rfl rfl
theorem Zos : Zu Tryz.prog 40 := Zz Tryz.func40 rfl rfl
theorem call_8 : Zu Tryz.prog 8 := Zz Tryz.func8 rfl rfl
theorem Zm2 : Zu Tryz.prog 9 := Zz Tryz.func9 rfl rfl
set_option maxRecDepth 100000 in
theorem tb_one : ∀ t ∈ [3, 4, 5, 9, 22, 23, 28, 44, 56, 57, 62, 70, 91, 97, 99, 100, 101, 107], Qm Tryz.prog t := by
  intro t h
  simp only [List.mem_cons, List.not_mem_nil, or_false] at h
  rcases h with rfl | rfl | rfl | rfl | rfl | rfl | rfl | rfl | rfl | rfl | rfl | rfl | rfl | rfl | rfl | rfl | rfl | rfl <;> exact fun w => by kernel_rfl
set_option maxRecDepth 100000 in
theorem tb_agg : ∀ q ∈ [(25, 3), (59, 8), (109, 3), (112, 2), (148, 2), (156, 4), (198, 4)], Qs Tryz.prog q.1 q.2 := by
  intro q h
  simp only [List.mem_cons, List.not_mem_nil, or_false] at h
  rcases h with rfl | rfl | rfl | rfl | rfl | rfl | rfl <;> exact ⟨fun w => by kernel_rfl, fun w => by kernel_rfl⟩
set_option maxRecDepth 100000 in
theorem tb_fld : ∀ q ∈ [(25, 0, 0), (25, 1, 1), (25, 2, 2), (59, 0, 0), (59, 1, 1), (59, 2, 2), (59, 3, 3), (59, 4, 4), (59, 5, 5), (59, 6, 6), (59, 7, 7), (66, 0, 0), (66, 1, 3), (103, 0, 0), (103, 1, 1), (103, 2, 2), (103, 3, 3), (103, 4, 4), (109, 0, 0), (109, 1, 1), (109, 2, 2), (112, 0, 0), (112, 1, 1), (148, 0, 0), (148, 1, 1), (156, 0, 0), (156, 1, 1), (156, 2, 2), (156, 3, 3), (198, 0, 0), (198, 1, 1), (198, 2, 2), (198, 3, 3)], YQ Tryz.prog q.1 q.2.1 q.2.2 := by
  intro q h
  simp only [List.mem_cons, List.not_mem_nil, or_false] at h
  rcases h with rfl | rfl | rfl | rfl | rfl | rfl | rfl | rfl | rfl | rfl | rfl | rfl | rfl | rfl | rfl | rfl | rfl | rfl | rfl | rfl | rfl | rfl | rfl | rfl | rfl | rfl | rfl | rfl | rfl | rfl | rfl | rfl | rfl <;> exact fun b off w => by kernel_rfl
def tb : Tbl Tryz.prog where
  one := ZnI [3, 4, 5, 9, 22, 23, 28, 44, 56, 57, 62, 70, 91, 97, 99, 100, 101, 107]
  agg := lk1 [(25, 3), (59, 8), (109, 3), (112, 2), (148, 2), (156, 4), (198, 4)]
  fld := lk2 [(25, 0, 0), (25, 1, 1), (25, 2, 2), (59, 0, 0), (59, 1, 1), (59, 2, 2), (59, 3, 3), (59, 4, 4), (59, 5, 5), (59, 6, 6), (59, 7, 7), (66, 0, 0), (66, 1, 3), (103, 0, 0), (103, 1, 1), (103, 2, 2), (103, 3, 3), (103, 4, 4), (109, 0, 0), (109, 1, 1), (109, 2, 2), (112, 0, 0), (112, 1, 1), (148, 0, 0), (148, 1, 1), (156, 0, 0), (156, 1, 1), (156, 2, 2), (156, 3, 3), (198, 0, 0), (198, 1, 1), (198, 2, 2), (198, 3, 3)]
  h1 := fun t h => tb_one t (Zg0 h)
  h2 := fun t k h => tb_agg (t, k + 1) (Zjl h)
  h3 := fun s f d h => tb_fld (s, f, d) (Zjk h)
  mix := Y0

end Go.Proofs.YtnpgmdffjemnbaaGreatDoor
set_option maxHeartbeats 8000000
set_option maxRecDepth 100000
namespace Go.Proofs.YtnpgmdffjemnbaaGreatDoor
open Go.RowKit

theorem Zax {J : World → Prop} (hJ : Stab J) (xs : List ByteArray) (s : ByteArray)  : Fn Tryz.prog J 105 [.rd (Zg xs), .str s] (.bool (decide (s ∈ xs))) := by
 refine Zx (N := 18) Tryz.func105 rfl rfl (lb rfl) fun S w0 hS hJ0 => ?_
 clear hJ0
 refine Zf (fun a w h => Zj h 0 rfl) fun hl1 => Za (rg tb hJ [0, 1] [_] [] [(_, _), (_, _)] rfl rfl rfl rfl trivial (nx (Za (Za (rg tb hJ [0, 1, 1000] [_] [] [(_, _), (_, _), (_, .int (0 : Int))] rfl rfl rfl rfl trivial (nx (Ze (Zw (ι := Nat) (fun (k : Nat) a w => ((k ≤ xs.length) ∧ (∀ j, j < k → ge xs j ≠ s)) ∧ St All S w0 18 [(0, .rd (Zg xs)), (1, .str s), (5, .int k)] J a w) (fun (k : Nat) => (xs.length - k : Nat)) ?_ ?_))))))))
 intro a w h
 exact ⟨0, (show (0 ≤ xs.length) ∧ (∀ j, j < 0 → ge xs j ≠ s) from by first | trivial | grind), lz [0, 1, 2] rfl h⟩
 rintro k
 refine ZD fun hF => ?_
 obtain ⟨f1_1, f1_2⟩ := hF
 refine Za (Za (rg tb hJ [0, 1, 2, 1003] [_, _, .int xs.length, _] [2] [(_, _), (_, _), (_, _), (_, .bool (decide ((k : Int) < (xs.length : Int))))] rfl rfl rfl rfl ⟨Ys ZB rfl rfl rfl rfl, trivial⟩ (nx (tc 3 rfl rfl (fun hb1 => ?_) (fun hb1 => ?_)))))
 try simp at hb1
 refine Zd (nx (Za (Ze (Za (rg tb hJ [0, 1, 2, 1005] [_, _, .ptr [.lit (.string (ge xs k))], _, _, _] [2] [(_, _), (_, _), (_, _), (_, .bool (decide ((ge xs k) = s)))] rfl rfl rfl rfl ⟨hIx Zk (by first | omega | (simp; omega) | grind [Zb]) rfl rfl rfl rfl rfl rfl, trivial⟩ (nx (tc 3 rfl rfl (fun hb2 => ?_) (fun hb2 => ?_))))))))
 try simp at hb2
 refine Za (rg tb hJ [1000] [_] [] [(_, .bool true)] rfl rfl rfl rfl trivial (nx (Zi (fun a w h => Zh (m := 0) rfl h rfl (congrArg AV.bool (show true = (decide (s ∈ xs)) from by grind [Zb]))))))
 try simp at hb2
 refine Zd (nx (rg tb hJ [0, 1, 1002] [_, .int ((k + 1 : Nat) : Int), _] [1] [(_, _), (_, _), (_, .int ((k + 1 : Nat) : Int))] rfl rfl rfl rfl ⟨Yc (by first | omega | (simp; omega) | grind [Zb]) rfl rfl rfl rfl rfl, trivial⟩ ?_))
 intro a w h; change ∃ j, _ ∧ _
 exact ⟨k + 1, ⟨⟨(show (k + 1) ≤ xs.length from by first | omega | (simp; omega) | grind [Zb]), (show ∀ j, j < (k + 1) → ge xs j ≠ s from by first | omega | (simp; omega) | grind [Zb])⟩, lz [0, 1, 2] rfl h⟩, (show xs.length - (k + 1) < xs.length - k from by first | omega | (simp; omega))⟩
 try simp at hb1
 refine Zv (nx (Za (rg tb hJ [1000] [_] [] [(_, .bool false)] rfl rfl rfl rfl trivial (nx (Zi (fun a w h => Zh (m := 0) rfl h rfl (congrArg AV.bool (show false = (decide (s ∈ xs)) from by grind [Xj]))))))))
theorem c_in {J : World → Prop} (hJ : Stab J) (xs : List Int) (n : Int)  : Fn Tryz.prog J 46 [.rd (ZG xs), .int n] (.bool (decide (n ∈ xs))) := by
 refine Zx (N := 18) Tryz.func46 rfl rfl (lb rfl) fun S w0 hS hJ0 => ?_
 clear hJ0
 refine Zf (fun a w h => Zj h 0 rfl) fun hl1 => Za (rg tb hJ [0, 1] [_] [] [(_, _), (_, _)] rfl rfl rfl rfl trivial (nx (Za (Za (rg tb hJ [0, 1, 1000] [_] [] [(_, _), (_, _), (_, .int (0 : Int))] rfl rfl rfl rfl trivial (nx (Ze (Zw (ι := Nat) (fun (k : Nat) a w => ((k ≤ xs.length) ∧ (∀ j, j < k → ge xs j ≠ n)) ∧ St All S w0 18 [(0, .rd (ZG xs)), (1, .int n), (5, .int k)] J a w) (fun (k : Nat) => (xs.length - k : Nat)) ?_ ?_))))))))
 intro a w h
 exact ⟨0, (show (0 ≤ xs.length) ∧ (∀ j, j < 0 → ge xs j ≠ n) from by first | trivial | grind), lz [0, 1, 2] rfl h⟩
 rintro k
 refine ZD fun hF => ?_
 obtain ⟨f1_1, f1_2⟩ := hF
 refine Za (Za (rg tb hJ [0, 1, 2, 1003] [_, _, .int xs.length, _] [2] [(_, _), (_, _), (_, _), (_, .bool (decide ((k : Int) < (xs.length : Int))))] rfl rfl rfl rfl ⟨Ys Yx rfl rfl rfl rfl, trivial⟩ (nx (tc 3 rfl rfl (fun hb1 => ?_) (fun hb1 => ?_)))))
 try simp at hb1
 refine Zd (nx (Za (Ze (Za (rg tb hJ [0, 1, 2, 1005] [_, _, .ptr [.lit (.int .i64 (ge xs k))], _, _, _] [2] [(_, _), (_, _), (_, _), (_, .bool (decide ((ge xs k) = n)))] rfl rfl rfl rfl ⟨hIx Zo (by first | omega | (simp; omega) | grind [Zb]) rfl rfl rfl rfl rfl rfl, trivial⟩ (nx (tc 3 rfl rfl (fun hb2 => ?_) (fun hb2 => ?_))))))))
 try simp at hb2
 refine Za (rg tb hJ [1000] [_] [] [(_, .bool true)] rfl rfl rfl rfl trivial (nx (Zi (fun a w h => Zh (m := 0) rfl h rfl (congrArg AV.bool (show true = (decide (n ∈ xs)) from by grind [Zb]))))))
 try simp at hb2
 refine Zd (nx (rg tb hJ [0, 1, 1002] [_, .int ((k + 1 : Nat) : Int), _] [1] [(_, _), (_, _), (_, .int ((k + 1 : Nat) : Int))] rfl rfl rfl rfl ⟨Yc (by first | omega | (simp; omega) | grind [Zb]) rfl rfl rfl rfl rfl, trivial⟩ ?_))
 intro a w h; change ∃ j, _ ∧ _
 exact ⟨k + 1, ⟨⟨(show (k + 1) ≤ xs.length from by first | omega | (simp; omega) | grind [Zb]), (show ∀ j, j < (k + 1) → ge xs j ≠ n from by first | omega | (simp; omega) | grind [Zb])⟩, lz [0, 1, 2] rfl h⟩, (show xs.length - (k + 1) < xs.length - k from by first | omega | (simp; omega))⟩
 try simp at hb1
 refine Zv (nx (Za (rg tb hJ [1000] [_] [] [(_, .bool false)] rfl rfl rfl rfl trivial (nx (Zi (fun a w h => Zh (m := 0) rfl h rfl (congrArg AV.bool (show false = (decide (n ∈ xs)) from by grind [Xj]))))))))
theorem Zf9 {J : World → Prop} (hJ : Stab J) (xs : List ByteArray) (ys : List ByteArray)  : Fn Tryz.prog J 164 [.rd (Zg xs), .rd (Zg ys)] (.bool (decide (xs = ys))) := by
 refine Zx (N := 26) Tryz.func164 rfl rfl (lb rfl) fun S w0 hS hJ0 => ?_
 clear hJ0
 refine Zf (fun a w h => Zj h 0 rfl) fun hl1 => Zf (fun a w h => Zj h 1 rfl) fun hl2 => Za (rg tb hJ [0, 1] [_] [] [(_, _), (_, _)] rfl rfl rfl rfl trivial (nx (Za (Za (rg tb hJ [0, 1, 1004] [_, .int xs.length, _, .int ys.length, _] [1, 3] [(_, _), (_, _), (_, .bool (!decide ((xs.length : Int) = (ys.length : Int))))] rfl rfl rfl rfl ⟨Ys ZB rfl rfl rfl rfl, Ys ZB rfl rfl rfl rfl, trivial⟩ (nx (tc 2 rfl rfl (fun hb1 => ?_) (fun hb1 => ?_))))))))
 try simp at hb1
 refine Za (rg tb hJ [1000] [_] [] [(_, .bool false)] rfl rfl rfl rfl trivial (nx (Zi (fun a w h => Zh (m := 0) rfl h rfl (congrArg AV.bool (show false = (decide (xs = ys)) from by first | rfl | grind [Zb]))))))
 try simp at hb1
 refine Zd (nx (Za (Za (rg tb hJ [0, 1, 1000] [_] [] [(_, _), (_, _), (_, .int (0 : Int))] rfl rfl rfl rfl trivial (nx (Ze (Zw (ι := Nat) (fun (k : Nat) a w => ((k ≤ xs.length) ∧ (∀ j, j < k → ge xs j = ge ys j)) ∧ St All S w0 26 [(0, .rd (Zg xs)), (1, .rd (Zg ys)), (5, .int k)] J a w) (fun (k : Nat) => (xs.length - k : Nat)) ?_ ?_)))))))
 intro a w h
 exact ⟨0, (show (0 ≤ xs.length) ∧ (∀ j, j < 0 → ge xs j = ge ys j) from by first | trivial | grind), lz [0, 1, 2] rfl h⟩
 rintro k
 refine ZD fun hF => ?_
 obtain ⟨f1_1, f1_2⟩ := hF
 refine Za (Za (rg tb hJ [0, 1, 2, 1003] [_, _, .int xs.length, _] [2] [(_, _), (_, _), (_, _), (_, .bool (decide ((k : Int) < (xs.length : Int))))] rfl rfl rfl rfl ⟨Ys ZB rfl rfl rfl rfl, trivial⟩ (nx (tc 3 rfl rfl (fun hb2 => ?_) (fun hb2 => ?_)))))
 try simp at hb2
 refine Zd (nx (Za (Ze (Za (rg tb hJ [0, 1, 2, 1008] [_, _, .ptr [.lit (.string (ge xs k))], _, _, _, .ptr [.lit (.string (ge ys k))], _, _] [2, 6] [(_, _), (_, _), (_, _), (_, .bool (!decide ((ge xs k) = (ge ys k))))] rfl rfl rfl rfl ⟨hIx Zk (by first | omega | (simp; omega) | grind [Zb]) rfl rfl rfl rfl rfl rfl, hIx Zk (by first | omega | (simp; omega) | grind [Zb]) rfl rfl rfl rfl rfl rfl, trivial⟩ (nx (tc 3 rfl rfl (fun hb3 => ?_) (fun hb3 => ?_))))))))
 try simp at hb3
 refine Za (rg tb hJ [1000] [_] [] [(_, .bool false)] rfl rfl rfl rfl trivial (nx (Zi (fun a w h => Zh (m := 0) rfl h rfl (congrArg AV.bool (show false = (decide (xs = ys)) from by first | rfl | grind [Zb]))))))
 try simp at hb3
 refine Zd (nx (rg tb hJ [0, 1, 1002] [_, .int ((k + 1 : Nat) : Int), _] [1] [(_, _), (_, _), (_, .int ((k + 1 : Nat) : Int))] rfl rfl rfl rfl ⟨Yc (by first | omega | (simp; omega) | grind [Zb]) rfl rfl rfl rfl rfl, trivial⟩ ?_))
 intro a w h; change ∃ j, _ ∧ _
 exact ⟨k + 1, ⟨⟨(show (k + 1) ≤ xs.length from by first | omega | (simp; omega) | grind [Zb]), (show ∀ j, j < (k + 1) → ge xs j = ge ys j from by first | omega | (simp; omega) | grind [Zb])⟩, lz [0, 1, 2] rfl h⟩, (show xs.length - (k + 1) < xs.length - k from by first | omega | (simp; omega))⟩
 try simp at hb2
 refine Zv (nx (Za (rg tb hJ [1000] [_] [] [(_, .bool true)] rfl rfl rfl rfl trivial (nx (Zi (fun a w h => Zh (m := 0) rfl h rfl (congrArg AV.bool (show true = (decide (xs = ys)) from by have := X4 (xs := xs) (ys := ys) (by omega) (fun j hj => f1_2 j (by omega)); simp [this]))))))))
theorem ZcK {J : World → Prop} (hJ : Stab J) (xs : List Pr) (ys : List Pr)  : Fn Tryz.prog J 138 [.rd (YG xs), .rd (YG ys)] (.bool (decide (xs = ys))) := by
 refine Zx (N := 26) Tryz.func138 rfl rfl (lb rfl) fun S w0 hS hJ0 => ?_
 clear hJ0
 refine Zf (fun a w h => Zj h 0 rfl) fun hl1 => Zf (fun a w h => Zj h 1 rfl) fun hl2 => Za (rg tb hJ [0, 1] [_] [] [(_, _), (_, _)] rfl rfl rfl rfl trivial (nx (Za (Za (rg tb hJ [0, 1, 1004] [_, .int xs.length, _, .int ys.length, _] [1, 3] [(_, _), (_, _), (_, .bool (!decide ((xs.length : Int) = (ys.length : Int))))] rfl rfl rfl rfl ⟨Ys Z1 rfl rfl rfl rfl, Ys Z1 rfl rfl rfl rfl, trivial⟩ (nx (tc 2 rfl rfl (fun hb1 => ?_) (fun hb1 => ?_))))))))
 try simp at hb1
 refine Za (rg tb hJ [1000] [_] [] [(_, .bool false)] rfl rfl rfl rfl trivial (nx (Zi (fun a w h => Zh (m := 0) rfl h rfl (congrArg AV.bool (show false = (decide (xs = ys)) from by first | rfl | grind [Zb]))))))
 try simp at hb1
 refine Zd (nx (Za (Za (rg tb hJ [0, 1, 1000] [_] [] [(_, _), (_, _), (_, .int (0 : Int))] rfl rfl rfl rfl trivial (nx (Ze (Zw (ι := Nat) (fun (k : Nat) a w => ((k ≤ xs.length) ∧ (∀ j, j < k → ZcU (ge xs j) (ge ys j) = true)) ∧ St All S w0 26 [(0, .rd (YG xs)), (1, .rd (YG ys)), (5, .int k)] J a w) (fun (k : Nat) => (xs.length - k : Nat)) ?_ ?_)))))))
 intro a w h
 exact ⟨0, (show (0 ≤ xs.length) ∧ (∀ j, j < 0 → ZcU (ge xs j) (ge ys j) = true) from by first | trivial | grind), lz [0, 1, 2] rfl h⟩
 rintro k
 refine ZD fun hF => ?_
 obtain ⟨f1_1, f1_2⟩ := hF
 refine Za (Za (rg tb hJ [0, 1, 2, 1003] [_, _, .int xs.length, _] [2] [(_, _), (_, _), (_, _), (_, .bool (decide ((k : Int) < (xs.length : Int))))] rfl rfl rfl rfl ⟨Ys Z1 rfl rfl rfl rfl, trivial⟩ (nx (tc 3 rfl rfl (fun hb2 => ?_) (fun hb2 => ?_)))))
 try simp at hb2
 refine Zd (nx (Za (Ze (Za (rg tb hJ [0, 1, 2, 1008] [_, _, .ptr (prC (ge xs k)), _, _, _, .ptr (prC (ge ys k)), _, _] [2, 6, 8] [(_, _), (_, _), (_, _), (_, .bool (!(decide ((ge xs k).a = (ge ys k).a) && decide ((ge xs k).b = (ge ys k).b))))] rfl rfl rfl rfl ⟨hIx ZH (by first | omega | (simp; omega) | grind [Zb]) rfl rfl rfl rfl rfl rfl, hIx ZH (by first | omega | (simp; omega) | grind [Zb]) rfl rfl rfl rfl rfl rfl, fun _ _ _ hx hl _ => ZmN ZjF rfl (hl.dep 3 20 _ rfl rfl rfl rfl) (hl.dep 7 24 _ rfl rfl rfl rfl) hx, trivial⟩ (nx (tc 3 rfl rfl (fun hb3 => ?_) (fun hb3 => ?_))))))))
 try simp at hb3
 refine Za (rg tb hJ [1000] [_] [] [(_, .bool false)] rfl rfl rfl rfl trivial (nx (Zi (fun a w h => Zh (m := 0) rfl h rfl (congrArg AV.bool (show false = (decide (xs = ys)) from by symm; rw [decide_eq_false_iff_not]; intro e; subst e; simp at hb3))))))
 try simp at hb3
 refine Zd (nx (rg tb hJ [0, 1, 1002] [_, .int ((k + 1 : Nat) : Int), _] [1] [(_, _), (_, _), (_, .int ((k + 1 : Nat) : Int))] rfl rfl rfl rfl ⟨Yc (by first | omega | (simp; omega) | grind [Zb]) rfl rfl rfl rfl rfl, trivial⟩ ?_))
 intro a w h; change ∃ j, _ ∧ _
 exact ⟨k + 1, ⟨⟨(show (k + 1) ≤ xs.length from by first | omega | (intro j hj; by_cases e : j = k; (subst e; simp [ZcU, hb3]); exact f1_2 j (by omega))), (show ∀ j, j < (k + 1) → ZcU (ge xs j) (ge ys j) = true from by first | omega | (intro j hj; by_cases e : j = k; (subst e; simp [ZcU, hb3]); exact f1_2 j (by omega)))⟩, lz [0, 1, 2] rfl h⟩, (show xs.length - (k + 1) < xs.length - k from by first | omega | (simp; omega))⟩
 try simp at hb2
 refine Zv (nx (Za (rg tb hJ [1000] [_] [] [(_, .bool true)] rfl rfl rfl rfl trivial (nx (Zi (fun a w h => Zh (m := 0) rfl h rfl (congrArg AV.bool (show true = (decide (xs = ys)) from by have := X4 (xs := xs) (ys := ys) (by omega) (fun j hj => prEq_iff.1 (f1_2 j (by omega))); simp [this]))))))))
theorem Zgc {J : World → Prop} (hJ : Stab J) (c : UInt8)  : Fn Tryz.prog J 163 [.rd (.lit (.int .u8 (c.toNat : Int)))] (.bool (Qc c)) := by
 refine Zx (N := 9) Tryz.func163 rfl rfl (lb rfl) fun S w0 hS hJ0 => ?_
 clear hJ0
 refine Za (rg tb hJ [0] [_] [] [(_, _)] rfl rfl rfl rfl trivial (nx (Za (rg tb hJ [1006] [_, _, _, _, _, _, _] [] [(_, .bool ((decide ((33 : Int) ≤ (c.toNat : Int))) && (decide ((c.toNat : Int) ≤ (126 : Int)))))] rfl rfl rfl rfl trivial (nx (Zi (fun a w h => Zh (m := 0) rfl h rfl (congrArg AV.bool (show ((decide ((33 : Int) ≤ (c.toNat : Int))) && (decide ((c.toNat : Int) ≤ (126 : Int)))) = (Qc c) from by first | rfl | grind [Zb])))))))))
theorem Zmt {J : World → Prop} (hJ : Stab J) (s : ByteArray)  : Fn Tryz.prog J 133 [.str s] (.bool (Zbj s)) := by
 refine Zx (N := 17) Tryz.func133 rfl rfl (lb rfl) fun S w0 hS hJ0 => ?_
 clear hJ0
 refine Zf (fun a w h => Zes h 0 rfl) fun hl1 => Za (rg tb hJ [0] [_] [] [(_, _)] rfl rfl rfl rfl trivial (nx (Za (Za (rg tb hJ [0, 1000] [_] [] [(_, _), (_, .int (0 : Int))] rfl rfl rfl rfl trivial (nx (Ze (Zw (ι := Nat) (fun (k : Nat) a w => ((k ≤ s.size) ∧ (∀ j, j < k → Qc (bt s j) = true)) ∧ St All S w0 17 [(0, .str s), (3, .int k)] J a w) (fun (k : Nat) => (s.size - k : Nat)) ?_ ?_))))))))
 intro a w h
 exact ⟨0, (show (0 ≤ s.size) ∧ (∀ j, j < 0 → Qc (bt s j) = true) from by first | trivial | grind), lz [0, 1] rfl h⟩
 rintro k
 refine ZD fun hF => ?_
 obtain ⟨f1_1, f1_2⟩ := hF
 refine Za (Za (rg tb hJ [0, 1, 1003] [_, _, .int s.size, _] [2] [(_, _), (_, _), (_, .bool (decide ((k : Int) < (s.size : Int))))] rfl rfl rfl rfl ⟨fun _ _ _ hx hl _ => ZbB Z6 rfl (hl.dep 1 5 _ rfl rfl rfl rfl) hx, trivial⟩ (nx (tc 2 rfl rfl (fun hb1 => ?_) (fun hb1 => ?_)))))
 try simp at hb1
 refine Zd (nx (Za (Ze (Za (rg tb hJ [0, 1, 1004] [_, _, .rd (.lit (.int .u8 ((ge s.data.toList k).toNat : Int))), .bool (Qc (ge s.data.toList k)), _] [2, 3] [(_, _), (_, _), (_, .bool (!(Qc (ge s.data.toList k))))] rfl rfl rfl rfl ⟨fun _ _ _ hx hl _ => ZeE (i := (k : Int)) Z6 rfl (hl.dep 0 10 _ rfl rfl rfl rfl) (hl.dep 1 11 _ rfl rfl rfl rfl) (Int.natCast_nonneg _) (Zbc (s := s) (k := k) (by first | omega | (simp; omega) | grind [Zb])) hx, hFn hS hJ (Zgc hJ (c := (ge s.data.toList k)) ) ZlP rfl rfl rfl rfl, trivial⟩ (nx (tc 2 rfl rfl (fun hb2 => ?_) (fun hb2 => ?_))))))))
 try simp at hb2
 refine Za (rg tb hJ [1000] [_] [] [(_, .bool false)] rfl rfl rfl rfl trivial (nx (Zi (fun a w h => Zh (m := 0) rfl h rfl (congrArg AV.bool (show false = (Zbj s) from (Zki hb1 hb2).symm))))))
 try simp at hb2
 refine Zd (nx (rg tb hJ [0, 1002] [_, .int ((k + 1 : Nat) : Int), _] [1] [(_, _), (_, .int ((k + 1 : Nat) : Int))] rfl rfl rfl rfl ⟨Yc (by first | omega | (simp; omega) | grind [Zb]) rfl rfl rfl rfl rfl, trivial⟩ ?_))
 intro a w h; change ∃ j, _ ∧ _
 exact ⟨k + 1, ⟨⟨(show (k + 1) ≤ s.size from by omega), (show ∀ j, j < (k + 1) → Qc (bt s j) = true from ZW f1_2 hb2)⟩, lz [0, 1] rfl h⟩, (show s.size - (k + 1) < s.size - k from by first | omega | (simp; omega))⟩
 try simp at hb1
 refine Zv (nx (Za (rg tb hJ [1002] [_, _, _] [] [(_, .bool (!decide (s = (⟨#[]⟩ : ByteArray))))] rfl rfl rfl rfl trivial (nx (Zi (fun a w h => Zh (m := 0) rfl h rfl (congrArg AV.bool (show (!decide (s = (⟨#[]⟩ : ByteArray))) = (Zbj s) from (Zim fun j hj => f1_2 j (by omega)).symm))))))))
theorem Zdx {J : World → Prop} (hJ : Stab J) (s : ByteArray)  : Fn Tryz.prog J 104 [.str s] (.bool (Zbh s)) := by
 refine Zx (N := 21) Tryz.func104 rfl rfl (lb rfl) fun S w0 hS hJ0 => ?_
 clear hJ0
 refine Zf (fun a w h => Zes h 0 rfl) fun hl1 => Za (rg tb hJ [0] [_] [] [(_, _)] rfl rfl rfl rfl trivial (nx (Za (Za (rg tb hJ [0, 1000] [_] [] [(_, _), (_, .int (0 : Int))] rfl rfl rfl rfl trivial (nx (Ze (Zw (ι := Nat) (fun (k : Nat) a w => ((k ≤ s.size) ∧ (∀ j, j < k → ¬ ((bt s j).toNat : Int) = 36)) ∧ St All S w0 21 [(0, .str s), (3, .int k)] J a w) (fun (k : Nat) => (s.size - k : Nat)) ?_ ?_))))))))
 intro a w h
 exact ⟨0, (show (0 ≤ s.size) ∧ (∀ j, j < 0 → ¬ ((bt s j).toNat : Int) = 36) from by first | trivial | grind), lz [0, 1] rfl h⟩
 rintro k
 refine ZD fun hF => ?_
 obtain ⟨f1_1, f1_2⟩ := hF
 refine Za (Za (rg tb hJ [0, 1, 1003] [_, _, .int s.size, _] [2] [(_, _), (_, _), (_, .bool (decide ((k : Int) < (s.size : Int))))] rfl rfl rfl rfl ⟨fun _ _ _ hx hl _ => ZbB Z6 rfl (hl.dep 1 5 _ rfl rfl rfl rfl) hx, trivial⟩ (nx (tc 2 rfl rfl (fun hb1 => ?_) (fun hb1 => ?_)))))
 try simp at hb1
 refine Zd (nx (Za (Ze (Za (rg tb hJ [0, 1, 1003] [_, _, .rd (.lit (.int .u8 ((ge s.data.toList k).toNat : Int))), _] [2] [(_, _), (_, _), (_, .bool (decide (((ge s.data.toList k).toNat : Int) = (36 : Int))))] rfl rfl rfl rfl ⟨fun _ _ _ hx hl _ => ZeE (i := (k : Int)) Z6 rfl (hl.dep 0 10 _ rfl rfl rfl rfl) (hl.dep 1 11 _ rfl rfl rfl rfl) (Int.natCast_nonneg _) (Zbc (s := s) (k := k) (by first | omega | (simp; omega) | grind [Zb])) hx, trivial⟩ (nx (tc 2 rfl rfl (fun hb2 => ?_) (fun hb2 => ?_))))))))
 try simp at hb2
 refine Za (rg tb hJ [1000] [_] [] [(_, .bool false)] rfl rfl rfl rfl trivial (nx (Zi (fun a w h => Zh (m := 0) rfl h rfl (congrArg AV.bool (show false = (Zbh s) from (Zng hb1 hb2).symm))))))
 try simp at hb2
 refine Zd (nx (rg tb hJ [0, 1002] [_, .int ((k + 1 : Nat) : Int), _] [1] [(_, _), (_, .int ((k + 1 : Nat) : Int))] rfl rfl rfl rfl ⟨Yc (by first | omega | (simp; omega) | grind [Zb]) rfl rfl rfl rfl rfl, trivial⟩ ?_))
 intro a w h; change ∃ j, _ ∧ _
 exact ⟨k + 1, ⟨⟨(show (k + 1) ≤ s.size from by omega), (show ∀ j, j < (k + 1) → ¬ ((bt s j).toNat : Int) = 36 from ZW f1_2 hb2)⟩, lz [0, 1] rfl h⟩, (show s.size - (k + 1) < s.size - k from by first | omega | (simp; omega))⟩
 try simp at hb1
 refine Zv (nx (Za (rg tb hJ [1007] [_, .bool (Zbj s), _, _, .int s.size, _, _, _] [1, 4] [(_, .bool ((Zbj s) && (decide ((s.size : Int) ≤ (60 : Int)))))] rfl rfl rfl rfl ⟨hFn hS hJ (Zmt hJ (s := s) ) Zl4 rfl rfl rfl rfl, fun _ _ _ hx hl hc => ZbB Z6 rfl (hl.dep 3 17 _ rfl rfl rfl hc) hx, trivial⟩ (nx (Zi (fun a w h => Zh (m := 0) rfl h rfl (congrArg AV.bool (show ((Zbj s) && (decide ((s.size : Int) ≤ (60 : Int)))) = (Zbh s) from (Zku fun j hj => f1_2 j (by omega)).symm))))))))
theorem ZcL {J : World → Prop} (hJ : Stab J) (s : ByteArray)  : Fn Tryz.prog J 106 [.str s] (.bool (Q8 s)) := by
 refine Zx (N := 58) Tryz.func106 rfl rfl (lb rfl) fun S w0 hS hJ0 => ?_
 clear hJ0
 refine Zf (fun a w h => Zes h 0 rfl) fun hl1 => Za (rg tb hJ [0] [_] [] [(_, _)] rfl rfl rfl rfl trivial (nx (Za (Za (rg tb hJ [0, 1000] [_] [] [(_, _), (_, .int (0 : Int))] rfl rfl rfl rfl trivial (nx (Ze (Zw (ι := Nat) (fun (k : Nat) a w => ((k ≤ s.size) ∧ (∀ j, j < k → Zib (bt s j) = false)) ∧ St All S w0 58 [(0, .str s), (3, .int k)] J a w) (fun (k : Nat) => (s.size - k : Nat)) ?_ ?_))))))))
 intro a w h
 exact ⟨0, (show (0 ≤ s.size) ∧ (∀ j, j < 0 → Zib (bt s j) = false) from by first | trivial | grind), lz [0, 1] rfl h⟩
 rintro k
 refine ZD fun hF => ?_
 obtain ⟨f1_1, f1_2⟩ := hF
 refine Za (Za (rg tb hJ [0, 1, 1003] [_, _, .int s.size, _] [2] [(_, _), (_, _), (_, .bool (decide ((k : Int) < (s.size : Int))))] rfl rfl rfl rfl ⟨fun _ _ _ hx hl _ => ZbB Z6 rfl (hl.dep 1 7 _ rfl rfl rfl rfl) hx, trivial⟩ (nx (tc 2 rfl rfl (fun hb1 => ?_) (fun hb1 => ?_)))))
 try simp at hb1
 refine Zd (nx (Za (Ze (Za (rg tb hJ [0, 1, 1003] [_, _, .rd (.lit (.int .u8 ((ge s.data.toList k).toNat : Int))), _] [2] [(_, _), (_, _), (_, .rd (.lit (.int .u8 ((ge s.data.toList k).toNat : Int))))] rfl rfl rfl rfl ⟨fun _ _ _ hx hl _ => ZeE (i := (k : Int)) Z6 rfl (hl.dep 0 12 _ rfl rfl rfl rfl) (hl.dep 1 13 _ rfl rfl rfl rfl) (Int.natCast_nonneg _) (Zbc (s := s) (k := k) (by first | omega | (simp; omega) | grind [Zb])) hx, trivial⟩ (nx (Za (rg tb hJ [0, 1, 2, 1014] [_, _, _, _, _, _, _, _, _, _, _, _, _, _, _] [] [(_, _), (_, _), (_, _), (_, .bool (((decide ((97 : Int) ≤ ((ge s.data.toList k).toNat : Int))) && (decide (((ge s.data.toList k).toNat : Int) ≤ (122 : Int)))) || ((decide ((65 : Int) ≤ ((ge s.data.toList k).toNat : Int))) && (decide (((ge s.data.toList k).toNat : Int) ≤ (90 : Int))))))] rfl rfl rfl rfl trivial (nx (Za (rg tb hJ [0, 1, 1021] [_, _, _, _, _, _, _, _, _, _, _, _, _, _, _, _, _, _, _, _, _, _] [] [(_, _), (_, _), (_, .bool (((((!(((decide ((97 : Int) ≤ ((ge s.data.toList k).toNat : Int))) && (decide (((ge s.data.toList k).toNat : Int) ≤ (122 : Int)))) || ((decide ((65 : Int) ≤ ((ge s.data.toList k).toNat : Int))) && (decide (((ge s.data.toList k).toNat : Int) ≤ (90 : Int)))))) && ((decide (((ge s.data.toList k).toNat : Int) < (48 : Int))) || (decide ((57 : Int) < ((ge s.data.toList k).toNat : Int))))) && (!decide (((ge s.data.toList k).toNat : Int) = (45 : Int)))) && (!decide (((ge s.data.toList k).toNat : Int) = (95 : Int)))) && (!decide (((ge s.data.toList k).toNat : Int) = (46 : Int)))))] rfl rfl rfl rfl trivial (nx ?_))))))))))))
 refine tc 2 rfl rfl (fun hb2 => ?_) (fun hb2 => ?_)
 refine Za (rg tb hJ [1000] [_] [] [(_, .bool false)] rfl rfl rfl rfl trivial (nx (Zi (fun a w h => Zh (m := 0) rfl h rfl (congrArg AV.bool (show false = (Q8 s) from (ZnH hb1 hb2).symm))))))
 refine Zd (nx (rg tb hJ [0, 1002] [_, .int ((k + 1 : Nat) : Int), _] [1] [(_, _), (_, .int ((k + 1 : Nat) : Int))] rfl rfl rfl rfl ⟨Yc (by first | omega | (simp; omega) | grind [Zb]) rfl rfl rfl rfl rfl, trivial⟩ ?_))
 intro a w h; change ∃ j, _ ∧ _
 exact ⟨k + 1, ⟨⟨(show (k + 1) ≤ s.size from by omega), (show ∀ j, j < (k + 1) → Zib (bt s j) = false from ZW f1_2 hb2)⟩, lz [0, 1] rfl h⟩, (show s.size - (k + 1) < s.size - k from by first | omega | (simp; omega))⟩
 try simp at hb1
 refine Zv (nx (Za (rg tb hJ [1007] [_, _, _, _, .int s.size, _, _, _] [4] [(_, .bool ((!decide (s = (⟨#[]⟩ : ByteArray))) && (decide ((s.size : Int) ≤ (60 : Int)))))] rfl rfl rfl rfl ⟨fun _ _ _ hx hl hc => ZbB Z6 rfl (hl.dep 3 54 _ rfl rfl rfl hc) hx, trivial⟩ (nx (Zi (fun a w h => Zh (m := 0) rfl h rfl (congrArg AV.bool (show ((!decide (s = (⟨#[]⟩ : ByteArray))) && (decide ((s.size : Int) ≤ (60 : Int)))) = (Q8 s) from (Zlo fun j hj => f1_2 j (by omega)).symm))))))))
end Go.Proofs.YtnpgmdffjemnbaaGreatDoor
set_option maxHeartbeats 8000000
set_option maxRecDepth 100000
namespace Go.Proofs.YtnpgmdffjemnbaaGreatDoor
open Go.RowKit

theorem Zmu {J : World → Prop} (hJ : Stab J) (f : Fr) (b : (f.hyps.length + f.dummies.length) * 48 ≤ 140737488351232) : Fn Tryz.prog J 109 [.agg (frC f)] (.rd (Z4 (f.hyps ++ f.dummies))) := by
 refine Zx (N := 10) Tryz.func109 rfl rfl (lb rfl) fun S w0 hS hJ0 => ?_
 refine tw Yi ?_
 refine Za (rgo tb hJ [1000] [_, _] [0] [(_, .ptr (frC f))] rfl rfl rfl rfl ⟨fun _ _ hk hx hl _ => Yv rfl (hl.env 0 0 _ rfl rfl) (Zr hS _ hk hx _ (Nat.le_refl _)) (jo hJ hx), trivial⟩ (nx (Za ?_)))
 refine fun a w h => Qp (id := 1) (t := 56) (e := 109) (size := 3) (bytes := 48) (i0 := 0) (fol := 7) (d := 2) (ch := [(3, (f.hyps.map hyC)), (6, (f.dummies.map hyC))]) (fun ix' => ([.any, .ptr [Z4 f.hyps, YG f.apart, Zg f.text, Z4 f.dummies, YG f.wide, Zg f.proof], .rd (Z4 f.hyps), .any, .ptr [Z4 f.dummies, YG f.wide, Zg f.proof], .rd (Z4 f.dummies), .any, .any] : List AV).getD ix' .any) (fun ix' => ([true, true, true, true, true, true, true, true] : List Bool).getD ix' true) [] ((f.hyps ++ f.dummies).map hyC) (by simp) ?r1_1 hJ hJ0 h Y0 rfl rfl rfl rfl ⟨?o1_1_0, ⟨?o1_1_1, ⟨?o1_1_2, ⟨?o1_1_3, ⟨?o1_1_4, ⟨?o1_1_5, ⟨?o1_1_6, ⟨?o1_1_7, trivial⟩⟩⟩⟩⟩⟩⟩⟩ trivial (fun v1 => ?n1_1)
 case r1_1 =>
  refine Row.mk' Xz ⟨_, rfl, rfl, rfl, rfl, rfl⟩ ⟨?x1_1_0, ⟨?x1_1_1, trivial⟩⟩ ⟨_, _, _, _, rfl, rfl, rfl, rfl, rfl, rfl, rfl, rfl, rfl⟩ rfl rfl rfl
  case x1_1_0 => exact ⟨_, _, _, _, rfl, rfl, rfl, rfl, rfl, rfl, rfl, rfl, Y5 (f := hyC) (fun _ => rfl), (by have hm : maxLen = 9223372036854775807 := rfl; simp [upto]; first | omega | (simp; omega) | grind [Zb]), (by have hm : maxLen = 9223372036854775807 := rfl; simp [upto]; first | omega | (simp; omega) | grind [Zb]), fun _ _ _ _ _ hl => (hl.dep 2 5 _ rfl rfl rfl rfl)⟩
  case x1_1_1 => exact ⟨_, _, _, _, rfl, rfl, rfl, rfl, rfl, rfl, rfl, rfl, Y5 (f := hyC) (fun _ => rfl), (by have hm : maxLen = 9223372036854775807 := rfl; simp [upto]; first | omega | (simp; omega) | grind [Zb]), (by have hm : maxLen = 9223372036854775807 := rfl; simp [upto]; first | omega | (simp; omega) | grind [Zb]), fun _ _ _ _ _ hl => (hl.dep 5 8 _ rfl rfl rfl rfl)⟩
 case o1_1_0 => exact fun h => Zs rfl h
 case o1_1_1 => exact fun _ _ => ⟨rfl, fun _ _ _ hx hl _ => Ym Zdt rfl (hl.env 0 1 _ rfl rfl) hx⟩
 case o1_1_2 => exact fun _ _ => ⟨rfl, fun _ _ _ hx hl _ => Ya Zi7 rfl (hl.dep 1 4 _ rfl rfl rfl rfl) hx⟩
 case o1_1_3 => exact fun h => Zs rfl h
 case o1_1_4 => exact fun _ _ => ⟨rfl, fun _ _ _ hx hl _ => Ym Zh0 rfl (hl.env 0 1 _ rfl rfl) hx⟩
 case o1_1_5 => exact fun _ _ => ⟨rfl, fun _ _ _ hx hl _ => Ya Zi7 rfl (hl.dep 4 7 _ rfl rfl rfl rfl) hx⟩
 case o1_1_6 => exact fun h => Zs rfl h
 case o1_1_7 => exact fun h => Zs rfl h
 clear a w h
 refine nx ?_
 refine tw (fun h => ZO hS h (m := 0) (s := 2) rfl) ?_
 refine Zi (fun a w h => Zh (m := 0) rfl (Zl h) rfl rfl)
theorem Zj3 {J : World → Prop} (hJ : Stab J) (s : ByteArray)  : Fn Tryz.prog J 113 [.str s] (.bool (Yb s)) := by
 refine Zx (N := 31) Tryz.func113 rfl rfl (lb rfl) fun S w0 hS hJ0 => ?_
 clear hJ0
 refine Zf (fun a w h => Zes h 0 rfl) fun hl1 => Za (rg tb hJ [0] [_] [] [(_, _)] rfl rfl rfl rfl trivial (nx (Za (Za (rg tb hJ [0, 1005] [_, _, _, _, _, _] [] [(_, _), (_, .bool ((decide (s = (⟨#[40]⟩ : ByteArray))) || (decide (s = (⟨#[41]⟩ : ByteArray)))))] rfl rfl rfl rfl trivial (nx (tc 1 rfl rfl (fun hb1 => ?_) (fun hb1 => ?_))))))))
 try simp at hb1
 refine Za (rg tb hJ [1000] [_] [] [(_, .bool true)] rfl rfl rfl rfl trivial (nx (Zi (fun a w h => Zh (m := 0) rfl h rfl (congrArg AV.bool (show true = (Yb s) from (ZhJ hb1).symm))))))
 try simp at hb1
 refine Zd (nx (Za (Za (rg tb hJ [0, 1000] [_] [] [(_, _), (_, .int (0 : Int))] rfl rfl rfl rfl trivial (nx (Ze (Zw (ι := Nat) (fun (k : Nat) a w => ((k ≤ s.size) ∧ (∀ j, j < k → Zj7 s j = false)) ∧ St All S w0 31 [(0, .str s), (3, .int k)] J a w) (fun (k : Nat) => (s.size - k : Nat)) ?_ ?_)))))))
 intro a w h
 exact ⟨0, (show (0 ≤ s.size) ∧ (∀ j, j < 0 → Zj7 s j = false) from by first | trivial | grind), lz [0, 1] rfl h⟩
 rintro k
 refine ZD fun hF => ?_
 obtain ⟨f1_1, f1_2⟩ := hF
 refine Za (Za (rg tb hJ [0, 1, 1003] [_, _, .int s.size, _] [2] [(_, _), (_, _), (_, .bool (decide ((k : Int) < (s.size : Int))))] rfl rfl rfl rfl ⟨fun _ _ _ hx hl _ => ZbB Z6 rfl (hl.dep 1 11 _ rfl rfl rfl rfl) hx, trivial⟩ (nx (tc 2 rfl rfl (fun hb2 => ?_) (fun hb2 => ?_)))))
 try simp at hb2
 refine Zd (nx (Za (Ze (Za (rg tb hJ [0, 1, 1012] [_, _, .rd (.lit (.int .u8 ((ge s.data.toList k).toNat : Int))), _, _, _, _, _, .int ((k + 1 : Nat) : Int), .str (s.extract k (k + 1)), .bool (Q8 (s.extract k (k + 1))), _, _] [2, 8, 9, 10] [(_, _), (_, _), (_, .bool ((!decide (((ge s.data.toList k).toNat : Int) = (63 : Int))) && (!(Q8 (s.extract k (k + 1))))))] rfl rfl rfl rfl ⟨fun _ _ _ hx hl _ => ZeE (i := (k : Int)) Z6 rfl (hl.dep 0 16 _ rfl rfl rfl rfl) (hl.dep 1 17 _ rfl rfl rfl rfl) (Int.natCast_nonneg _) (Zbc (s := s) (k := k) (by first | omega | (simp; omega) | grind [Zb])) hx, fun _ _ _ hx hl hc => ZkN (i := (k : Int)) (j := (1 : Int)) rfl (hl.dep 7 23 _ rfl rfl rfl hc) (Rel.of_lit (Go.Value.int Go.IntKind.i64 1)) (by have hc' : ((!decide (((ge s.data.toList k).toNat : Int) = (63 : Int))) == true) = true := hc; (try simp at hc'); (first | omega | (simp; omega) | grind [Zb])) (by have hc' : ((!decide (((ge s.data.toList k).toNat : Int) = (63 : Int))) == true) = true := hc; (try simp at hc'); (first | omega | (simp; omega) | grind [Zb])) hx, fun _ _ _ hx hl hc => ZkF (lo := k) (hi := k + 1) Z6 rfl (hl.dep 5 21 _ rfl rfl rfl hc) (hl.dep 6 22 _ rfl rfl rfl hc) (hl.dep 8 24 _ rfl rfl rfl hc) (by have hc' : ((!decide (((ge s.data.toList k).toNat : Int) = (63 : Int))) == true) = true := hc; (try simp at hc'); (first | omega | (simp; omega) | grind [Zb])) (by have hc' : ((!decide (((ge s.data.toList k).toNat : Int) = (63 : Int))) == true) = true := hc; (try simp at hc'); (first | omega | (simp; omega) | grind [Zb])) hx, fun _ _ hk hx hl hc => Qk (ZcL hJ (s := (s.extract k (k + 1))) ) Zec rfl (nm hS hk) (hx) (Zc (hl.dep 9 25 _ rfl rfl rfl hc) Zm) (js hJ hx), trivial⟩ (nx (tc 2 rfl rfl (fun hb3 => ?_) (fun hb3 => ?_))))))))
 refine Za (rg tb hJ [1000] [_] [] [(_, .bool false)] rfl rfl rfl rfl trivial (nx (Zi (fun a w h => Zh (m := 0) rfl h rfl (congrArg AV.bool (show false = (Yb s) from (ZiU hb1 hb2 hb3).symm))))))
 refine Zd (nx (rg tb hJ [0, 1002] [_, .int ((k + 1 : Nat) : Int), _] [1] [(_, _), (_, .int ((k + 1 : Nat) : Int))] rfl rfl rfl rfl ⟨Yc (by first | omega | (simp; omega) | grind [Zb]) rfl rfl rfl rfl rfl, trivial⟩ ?_))
 intro a w h; change ∃ j, _ ∧ _
 exact ⟨k + 1, ⟨⟨(show (k + 1) ≤ s.size from by omega), (show ∀ j, j < (k + 1) → Zj7 s j = false from ZW f1_2 hb3)⟩, lz [0, 1] rfl h⟩, (show s.size - (k + 1) < s.size - k from by first | omega | (simp; omega))⟩
 try simp at hb2
 refine Zv (nx (Za (rg tb hJ [1002] [_, _, _] [] [(_, .bool (!decide (s = (⟨#[]⟩ : ByteArray))))] rfl rfl rfl rfl trivial (nx (Zi (fun a w h => Zh (m := 0) rfl h rfl (congrArg AV.bool (show (!decide (s = (⟨#[]⟩ : ByteArray))) = (Yb s) from (ZhK hb1 fun j hj => f1_2 j (by omega)).symm))))))))
theorem c_of {J : World → Prop} (hJ : Stab J) (y : Hy) (vs : List ByteArray)  : Fn Tryz.prog J 134 [.agg (hyC y), .rd (Zg vs)] (.bool (ofB y vs)) := by
 refine Zx (N := 21) Tryz.func134 rfl rfl (lb rfl) fun S w0 hS hJ0 => ?_
 clear hJ0
 refine Zf (fun a w h => Zj h 1 rfl) fun hl1 => Za (rg tb hJ [1, 1000] [_, _] [0] [(_, _), (_, .ptr (hyC y))] rfl rfl rfl rfl ⟨fun _ _ hk hx hl _ => Yv rfl (hl.env 0 0 _ rfl rfl) (hS _ hk.size) (js hJ hx), trivial⟩ (nx (Za (rg tb hJ [1016] [_, _, _, _, _, .int y.text.length, _, _, _, _, _, _, .ptr [.lit (.string (ge y.text 1))], _, .bool (decide ((ge y.text 1) ∈ vs)), _, _] [5, 12, 14] [(_, .bool ((y.floating && (decide ((y.text.length : Int) = (2 : Int)))) && (decide ((ge y.text 1) ∈ vs))))] rfl rfl rfl rfl ⟨fun _ _ _ hx hl hc => Yy ZB rfl (hl.dep 4 9 _ rfl rfl rfl hc) hx, fun _ _ _ hx hl hc => ZI (i := ((1 : Nat) : Int)) Zk rfl (hl.dep 11 16 _ rfl rfl rfl hc) (Rel.of_lit (Go.Value.int Go.IntKind.i64 1)) (Int.natCast_nonneg _) (ZL (xs := y.text) (k := 1) (by have hc' : ((y.floating && (decide ((y.text.length : Int) = (2 : Int)))) == true) = true := hc; (try simp at hc'); (first | omega | (simp; omega) | grind [Zb]))) rfl hx, fun _ _ hk hx hl hc => Qk (Zax hJ (xs := vs) (s := (ge y.text 1)) ) YN rfl (nm hS hk) (hx) (Zc (hl.dep 9 14 _ rfl rfl rfl hc) (Zc (hl.dep 13 18 _ rfl rfl rfl hc) Zm)) (js hJ hx), trivial⟩ (nx (Zi (fun a w h => Zh (m := 0) rfl h rfl (congrArg AV.bool (show ((y.floating && (decide ((y.text.length : Int) = (2 : Int)))) && (decide ((ge y.text 1) ∈ vs))) = (ofB y vs) from by first | rfl | grind [Zb])))))))))
theorem Zba {J : World → Prop} (hJ : Stab J) (x : Hy) (y : Hy)  : Fn Tryz.prog J 135 [.agg (hyC x), .agg (hyC y)] (.bool (Zc0 x y)) := by
 refine Zx (N := 24) Tryz.func135 rfl rfl (lb rfl) fun S w0 hS hJ0 => ?_
 clear hJ0
 refine Za (rg tb hJ [1000, 1001] [_, _, _] [0, 1] [(_, .ptr (hyC x)), (_, .ptr (hyC y))] rfl rfl rfl rfl ⟨fun _ _ hk hx hl _ => Yv rfl (hl.env 0 0 _ rfl rfl) (hS _ hk.size) (js hJ hx), fun _ _ hk hx hl _ => Yv rfl (hl.env 1 1 _ rfl rfl) (hS _ hk.size) (js hJ hx), trivial⟩ (nx (Za (rg tb hJ [1019] [_, _, _, _, _, _, _, _, _, _, .bool (x.floating == y.floating), _, _, _, _, _, _, .bool (decide (x.text = y.text)), _, _] [10, 17] [(_, .bool (((decide (x.label = y.label)) && (x.floating == y.floating)) && (decide (x.text = y.text))))] rfl rfl rfl rfl ⟨fun _ _ _ hx hl hc => ZmO ZmE rfl (hl.dep 7 12 _ rfl rfl rfl hc) (hl.dep 9 14 _ rfl rfl rfl hc) hx, fun _ _ hk hx hl hc => Qk (Zf9 hJ (xs := x.text) (ys := y.text) ) ZlO rfl (nm hS hk) (hx) (Zc (hl.dep 14 19 _ rfl rfl rfl hc) (Zc (hl.dep 16 21 _ rfl rfl rfl hc) Zm)) (js hJ hx), trivial⟩ (nx (Zi (fun a w h => Zh (m := 0) rfl h rfl (congrArg AV.bool (show (((decide (x.label = y.label)) && (x.floating == y.floating)) && (decide (x.text = y.text))) = (Zc0 x y) from by first | rfl | grind [Zb])))))))))
theorem Zed {J : World → Prop} (hJ : Stab J) (d : Db) (s : ByteArray)  : Fn Tryz.prog J 108 [.agg (dbC d), .str s] (.bool (Zag d s)) := by
 refine Zx (N := 15) Tryz.func108 rfl rfl (lb rfl) fun S w0 hS hJ0 => ?_
 clear hJ0
 refine Za (rg tb hJ [1, 1000] [_, _] [0] [(_, _), (_, .ptr (dbC d))] rfl rfl rfl rfl ⟨fun _ _ hk hx hl _ => Yv rfl (hl.env 0 0 _ rfl rfl) (hS _ hk.size) (js hJ hx), trivial⟩ (nx (Za (rg tb hJ [1001, 1010] [_, _, _, .bool (decide (s ∈ d.consts)), _, _, _, _, .bool (decide (s ∈ d.vars)), _, _] [3, 8] [(_, .rd (Zg d.consts)), (_, .bool ((decide (s ∈ d.consts)) || (decide (s ∈ d.vars))))] rfl rfl rfl rfl ⟨hFn hS hJ (Zax hJ (xs := d.consts) (s := s) ) YN rfl rfl rfl rfl, fun _ _ hk hx hl hc => Qk (Zax hJ (xs := d.vars) (s := s) ) YN rfl (nm hS hk) (hx) (Zc (hl.dep 6 11 _ rfl rfl rfl hc) (Zc (hl.dep 7 12 _ rfl rfl rfl hc) Zm)) (js hJ hx), trivial⟩ (nx (Zf (fun a w h => Zj h 0 rfl) fun hl1 => Zi (fun a w h => Zh (m := 1) rfl h rfl (congrArg AV.bool (show ((decide (s ∈ d.consts)) || (decide (s ∈ d.vars))) = (Zag d s) from by first | rfl | grind [Zb])))))))))
theorem Zfi {J : World → Prop} (hJ : Stab J) (d : Db) (l : List ByteArray) (h0 : 0 < l.length) : Fn Tryz.prog J 111 [.agg (dbC d), .rd (Zg l)] (.int (XJ d l)) := by
 refine Zx (N := 26) Tryz.func111 rfl rfl (lb rfl) fun S w0 hS hJ0 => ?_
 clear hJ0
 refine Zf (fun a w h => Zj h 1 rfl) fun hl1 => Za (rg tb hJ [1, 1000] [_, _] [0] [(_, _), (_, .ptr (dbC d))] rfl rfl rfl rfl ⟨fun _ _ hk hx hl _ => Yv rfl (hl.env 0 0 _ rfl rfl) (hS _ hk.size) (js hJ hx), trivial⟩ (nx (Za (Za (rg tb hJ [0, 1, 1001, 1006] [_, _, _, .ptr [.lit (.string (ge l 0))], _, .bool (decide ((ge l 0) ∈ d.consts)), _] [3, 5] [(_, _), (_, _), (_, .rd (Zg d.consts)), (_, .bool (!(decide ((ge l 0) ∈ d.consts))))] rfl rfl rfl rfl ⟨hIx (k := 0) Zk (by first | omega | (simp; omega) | grind [Zb]) rfl rfl rfl rfl rfl rfl, hFn hS hJ (Zax hJ (xs := d.consts) (s := (ge l 0)) ) YN rfl rfl rfl rfl, trivial⟩ (nx (Zf (fun a w h => Zj h 2 rfl) fun hl2 => tc 3 rfl rfl (fun hb1 => ?_) (fun hb1 => ?_))))))))
 try simp at hb1
 refine Za (rg tb hJ [1000] [_] [] [(_, .int (12 : Int))] rfl rfl rfl rfl trivial (nx (Zi (fun a w h => Zh (m := 0) rfl h rfl (congrArg AV.int (show (12 : Int) = (XJ d l) from (ZjC hb1).symm))))))
 try simp at hb1
 refine Zd (nx (Za (Za (rg tb hJ [0, 1, 1000] [_] [] [(_, _), (_, _), (_, .int (1 : Int))] rfl rfl rfl rfl trivial (nx (Ze (Zw (ι := Nat) (fun (k : Nat) a w => ((1 ≤ k) ∧ (k ≤ l.length) ∧ (∀ j, 0 < j → j < k → Zag d (ge l j) = true)) ∧ St All S w0 26 [(1, .rd (Zg l)), (2, .ptr (dbC d)), (5, .int k)] J a w) (fun (k : Nat) => (l.length - k : Nat)) ?_ ?_)))))))
 intro a w h
 exact ⟨1, (show (1 ≤ 1) ∧ (1 ≤ l.length) ∧ (∀ j, 0 < j → j < 1 → Zag d (ge l j) = true) from by first | trivial | grind), lz [0, 1, 2] rfl h⟩
 rintro k
 refine ZD fun hF => ?_
 obtain ⟨f1_1, f1_2, f1_3⟩ := hF
 refine Za (Za (rg tb hJ [0, 1, 2, 1003] [_, _, .int l.length, _] [2] [(_, _), (_, _), (_, _), (_, .bool (decide ((k : Int) < (l.length : Int))))] rfl rfl rfl rfl ⟨Ys ZB rfl rfl rfl rfl, trivial⟩ (nx (tc 3 rfl rfl (fun hb2 => ?_) (fun hb2 => ?_)))))
 try simp at hb2
 refine Zd (nx (Za (Ze (Za (rg tb hJ [0, 1, 2, 1006] [_, _, _, .ptr [.lit (.string (ge l k))], _, .bool (Zag d (ge l k)), _] [3, 5] [(_, _), (_, _), (_, _), (_, .bool (!(Zag d (ge l k))))] rfl rfl rfl rfl ⟨hIx Zk (by first | omega | (simp; omega) | grind [Zb]) rfl rfl rfl rfl rfl rfl, hFn hS hJ (Zed hJ (d := d) (s := (ge l k)) ) Zea rfl rfl rfl rfl, trivial⟩ (nx (tc 3 rfl rfl (fun hb3 => ?_) (fun hb3 => ?_))))))))
 try simp at hb3
 refine Za (rg tb hJ [1000] [_] [] [(_, .int (12 : Int))] rfl rfl rfl rfl trivial (nx (Zi (fun a w h => Zh (m := 0) rfl h rfl (congrArg AV.int (show (12 : Int) = (XJ d l) from (Zg7 (by omega) (by omega) hb3).symm))))))
 try simp at hb3
 refine Zd (nx (rg tb hJ [0, 1, 1002] [_, .int ((k + 1 : Nat) : Int), _] [1] [(_, _), (_, _), (_, .int ((k + 1 : Nat) : Int))] rfl rfl rfl rfl ⟨Yc (by first | omega | (simp; omega) | grind [Zb]) rfl rfl rfl rfl rfl, trivial⟩ ?_))
 intro a w h; change ∃ j, _ ∧ _
 exact ⟨k + 1, ⟨⟨(show 1 ≤ (k + 1) from by first | omega | (simp; omega) | grind [Zb]), (show (k + 1) ≤ l.length from by first | omega | (simp; omega) | grind [Zb]), (show ∀ j, 0 < j → j < (k + 1) → Zag d (ge l j) = true from by first | omega | (simp; omega) | grind [Zb])⟩, lz [0, 1, 2] rfl h⟩, (show l.length - (k + 1) < l.length - k from by first | omega | (simp; omega))⟩
 try simp at hb2
 refine Zv (nx (Za (rg tb hJ [1000] [_] [] [(_, .int (0 : Int))] rfl rfl rfl rfl trivial (nx (Zi (fun a w h => Zh (m := 0) rfl h rfl (congrArg AV.int (show (0 : Int) = (XJ d l) from (Zg6 hb1 fun j h1 h2 => f1_3 j h1 (by omega)).symm))))))))
theorem Zmq {J : World → Prop} (hJ : Stab J) (xs : List ByteArray) (ys : List ByteArray)  : Fn Tryz.prog J 115 [.rd (Zg xs), .rd (Zg ys)] (.int ((Zae xs ys : Nat) : Int)) := by
 refine Zx (N := 30) Tryz.func115 rfl rfl (lb rfl) fun S w0 hS hJ0 => ?_
 clear hJ0
 refine Zf (fun a w h => Zj h 0 rfl) fun hl1 => Zf (fun a w h => Zj h 1 rfl) fun hl2 => Za (rg tb hJ [0, 1] [_] [] [(_, _), (_, _)] rfl rfl rfl rfl trivial (nx (Za (rg tb hJ [0, 1, 1000] [_] [] [(_, _), (_, _), (_, .int (0 : Int))] rfl rfl rfl rfl trivial (nx (Za (Ze (Zw (ι := Nat) (fun (k : Nat) a w => ((k ≤ xs.length) ∧ (k ≤ ys.length) ∧ (∀ j, j < k → ge xs j = ge ys j)) ∧ St All S w0 30 [(0, .rd (Zg xs)), (1, .rd (Zg ys)), (5, .int k)] J a w) (fun (k : Nat) => (xs.length - k : Nat)) ?_ ?_))))))))
 intro a w h
 exact ⟨0, (show (0 ≤ xs.length) ∧ (0 ≤ ys.length) ∧ (∀ j, j < 0 → ge xs j = ge ys j) from by first | trivial | grind), lz [0, 1, 2] rfl h⟩
 rintro k
 refine ZD fun hF => ?_
 obtain ⟨f1_1, f1_2, f1_3⟩ := hF
 refine Za (Za (rg tb hJ [0, 1, 2, 1020] [_, _, .int xs.length, _, _, _, _, .int ys.length, _, _, _, _, _, .ptr [.lit (.string (ge xs k))], _, _, _, .ptr [.lit (.string (ge ys k))], _, _, _] [2, 7, 13, 17] [(_, _), (_, _), (_, _), (_, .bool (((decide ((k : Int) < (xs.length : Int))) && (decide ((k : Int) < (ys.length : Int)))) && (decide ((ge xs k) = (ge ys k)))))] rfl rfl rfl rfl ⟨Ys ZB rfl rfl rfl rfl, fun _ _ _ hx hl hc => Yy ZB rfl (hl.dep 6 12 _ rfl rfl rfl hc) hx, fun _ _ _ hx hl hc => ZI (i := (k : Int)) Zk rfl (hl.dep 11 17 _ rfl rfl rfl hc) (hl.dep 12 18 _ rfl rfl rfl hc) (Int.natCast_nonneg _) (ZL (xs := xs) (k := k) (by have hc' : (((decide ((k : Int) < (xs.length : Int))) && (decide ((k : Int) < (ys.length : Int)))) == true) = true := hc; (try simp at hc'); (first | omega | (simp; omega) | grind [Zb]))) rfl hx, fun _ _ _ hx hl hc => ZI (i := (k : Int)) Zk rfl (hl.dep 15 21 _ rfl rfl rfl hc) (hl.dep 16 22 _ rfl rfl rfl hc) (Int.natCast_nonneg _) (ZL (xs := ys) (k := k) (by have hc' : (((decide ((k : Int) < (xs.length : Int))) && (decide ((k : Int) < (ys.length : Int)))) == true) = true := hc; (try simp at hc'); (first | omega | (simp; omega) | grind [Zb]))) rfl hx, trivial⟩ (nx (tc 3 rfl rfl (fun hb1 => ?_) (fun hb1 => ?_)))))
 try simp at hb1
 refine Zd (nx (Ze (rg tb hJ [0, 1, 1002] [_, .int ((k + 1 : Nat) : Int), _] [1] [(_, _), (_, _), (_, .int ((k + 1 : Nat) : Int))] rfl rfl rfl rfl ⟨Yc (by first | omega | (simp; omega) | grind [Zb]) rfl rfl rfl rfl rfl, trivial⟩ ?_)))
 intro a w h; change ∃ j, _ ∧ _
 exact ⟨k + 1, ⟨⟨(show (k + 1) ≤ xs.length from by first | omega | (simp; omega) | grind [Zb]), (show (k + 1) ≤ ys.length from by first | omega | (simp; omega) | grind [Zb]), (show ∀ j, j < (k + 1) → ge xs j = ge ys j from by first | omega | (simp; omega) | grind [Zb])⟩, lz [0, 1, 2] rfl h⟩, (show xs.length - (k + 1) < xs.length - k from by first | omega | (simp; omega))⟩
 try simp at hb1
 refine Zv (nx (Za (rg tb hJ [1001] [_, _] [] [(_, .int k)] rfl rfl rfl rfl trivial (nx (Zi (fun a w h => Zh (m := 0) rfl h rfl (congrArg AV.int (show (k : Int) = ((Zae xs ys : Nat) : Int) from by rw [Zf3 xs ys k f1_1 f1_2 f1_3 (by grind)]))))))))
theorem Zmo {J : World → Prop} (hJ : Stab J) (l : List Pr) (vs : List ByteArray) (b : l.length * 32 ≤ 140737488351232) : Fn Tryz.prog J 140 [.rd (YG l), .rd (Zg vs)] (.rd (YG (l.filter (inV vs)))) := by
 refine Zx (N := 38) Tryz.func140 rfl rfl (lb rfl) fun S w0 hS hJ0 => ?_
 refine tw Yi ?_
 refine Zf (fun a w h => Zj h 0 rfl) fun hl1 => Zf (fun a w h => Zj h 1 rfl) fun hl2 => Za (rgo tb hJ [0, 1] [_] [] [(_, _), (_, _)] rfl rfl rfl rfl trivial (nx (Za (Zn (XM ZH hJ rfl rfl rfl (lb rfl) fun v1 => ?_)))))
 refine sv tb rfl rfl rfl rfl (Zy ?_)
 refine kw (lz [0, 2, 3] (env' := [(_, _), (_, _), (_, _)]) rfl) ?_
 refine nx (Za (Za (rgo tb hJ [0, 1, 2, 1000] [_] [] [(_, _), (_, _), (_, _), (_, .int (0 : Int))] rfl rfl rfl rfl trivial (nx (Ze (Zw (ι := Nat × Value × (List Pr)) (fun (ii' : Nat × Value × (List Pr)) a w => match ii' with | (k, v, out) => ((k ≤ l.length) ∧ (out = (l.take k).filter (inV vs)) ∧ (out.length ≤ k)) ∧ St All (SO S [OB.row v 148 2 (out.map prC)]) w0 38 [(0, .rd (YG l)), (1, .rd (Zg vs)), (6, .int k), (5, .lit v)] (XO J S w0.heap.size [OB.row v 148 2 (out.map prC)]) a w) (fun (ii' : Nat × Value × (List Pr)) => match ii' with | (k, _, _) => (l.length - k : Nat)) ?_ ?_))))))
 intro a w h
 exact ⟨(0, v1, ([] : List Pr)), (show (0 ≤ l.length) ∧ (([] : List Pr) = (l.take 0).filter (inV vs)) ∧ (([] : List Pr).length ≤ 0) from ⟨Nat.zero_le _, by simp, by simp⟩), lz [1, 2, 3, 0] rfl h⟩
 rintro ⟨k, v, out⟩
 refine ZD fun hF => ?_
 obtain ⟨f1_1, f1_2, f1_3⟩ := hF
 refine Za (Za (rgo tb hJ [0, 1, 2, 3, 1003] [_, _, .int l.length, _] [2] [(_, _), (_, _), (_, _), (_, _), (_, .bool (decide ((k : Int) < (l.length : Int))))] rfl rfl rfl rfl ⟨Ys Z1 rfl rfl rfl rfl, trivial⟩ (nx (tc 4 rfl rfl (fun hb1 => ?_) (fun hb1 => ?_)))))
 try simp at hb1
 refine Zd (nx (Za (Ze (Za (rgo tb hJ [0, 1, 2, 3, 1015] [_, _, _, .ptr (prC (ge l k)), _, _, .bool (decide (((ge l k).a) ∈ vs)), _, _, _, _, .ptr (prC (ge l k)), _, _, .bool (decide (((ge l k).b) ∈ vs)), _] [3, 6, 11, 14] [(_, _), (_, _), (_, _), (_, _), (_, .bool ((decide (((ge l k).a) ∈ vs)) && (decide (((ge l k).b) ∈ vs))))] rfl rfl rfl rfl ⟨hIx ZH (by first | omega | (simp; omega) | grind [Zb]) rfl rfl rfl rfl rfl rfl, hFo hS hJ (Zax hJ (xs := vs) (s := ((ge l k).a)) ) YN rfl rfl rfl rfl, fun a _ _ hx hl hc => ZI (i := (k : Int)) ZH rfl (hl.dep 9 23 _ rfl rfl rfl hc) (hl.dep 10 24 _ rfl rfl rfl hc) (Int.natCast_nonneg _) (ZL (xs := l) (k := k) (by have hc' : ((decide (((ge l k).a) ∈ vs)) == true) = true := hc; (try simp at hc'); (first | omega | (simp; omega) | grind [Zb]))) rfl hx, fun _ _ hk hx hl hc => Qk (Zax hJ (xs := vs) (s := ((ge l k).b)) ) YN rfl (Zr hS _ hk hx) (hx.1) (Zc (hl.dep 8 22 _ rfl rfl rfl hc) (Zc (hl.dep 13 27 _ rfl rfl rfl hc) Zm)) (jo hJ hx), trivial⟩ (nx (tc 4 rfl rfl (fun hb2 => ?_) (fun hb2 => ?_))))))))
 try simp at hb2
 refine Zn (sv tb rfl rfl rfl rfl (sv tb rfl rfl rfl rfl (sv tb rfl rfl rfl rfl (sq (.ptr (prC (ge l k))) rfl rfl (lb rfl) (fun _ _ h => ZI (i := (k : Int)) ZH rfl (h.get 1 rfl) (h.get 0 rfl) (Int.natCast_nonneg _) (ZL (xs := l) (k := k) (by first | omega | (simp; omega) | grind [Zb])) rfl h.x) (sv (av := .agg (prC (ge l k))) tb rfl rfl rfl rfl (sq (.rd (YG ([(ge l k)]))) rfl rfl (lb rfl) (fun _ _ h => ZeF ZH Zgi (by decide) rfl rfl (h.get 0 rfl) (Zr hS _ h.keep h.x _ (Nat.le_refl _)) (jo hJ h.x)) (ZR (f := prC) (m := 5) (s := 30) out ([(ge l k)]) (fun _ => rfl) Zbx hJ hJ0 rfl rfl rfl (lb rfl) rfl rfl (fun a w h => (h.get 0 rfl)) (by first | omega | (simp; omega) | grind [Zb]) (by first | omega | (simp; omega) | grind [Zb]) fun v2 => ?_)))))))
 refine sv tb rfl rfl rfl rfl (Zy ?_)
 refine kw (lz [0, 2, 8, 9, 10] (env' := [(_, _), (_, _), (_, _), (_, _), (_, _)]) rfl) ?_
 refine nx (Zf (fun a w h => Zj h 1 rfl) fun hl3 => rgo tb hJ [0, 2, 3, 1002] [_, .int ((k + 1 : Nat) : Int), _] [1] [(_, _), (_, _), (_, _), (_, .int ((k + 1 : Nat) : Int))] rfl rfl rfl rfl ⟨Yc (by first | omega | (simp; omega) | grind [Zb]) rfl rfl rfl rfl rfl, trivial⟩ ?_)
 intro a w h; change ∃ j, _ ∧ _
 exact ⟨(k + 1, v2, out ++ ([(ge l k)])), ⟨⟨(show (k + 1) ≤ l.length from by omega), (show (out ++ ([(ge l k)])) = (l.take (k + 1)).filter (inV vs) from by rw [ZM (by omega), f1_2]; simp [inV, hb2]), (show (out ++ ([(ge l k)])).length ≤ (k + 1) from by simp; omega)⟩, lz [1, 2, 3, 0] rfl h⟩, (show l.length - (k + 1) < l.length - k from by first | omega | (simp; omega))⟩
 try simp at hb2
 refine Zd (nx (rgo tb hJ [0, 1, 3, 1002] [_, .int ((k + 1 : Nat) : Int), _] [1] [(_, _), (_, _), (_, _), (_, .int ((k + 1 : Nat) : Int))] rfl rfl rfl rfl ⟨Yc (by first | omega | (simp; omega) | grind [Zb]) rfl rfl rfl rfl rfl, trivial⟩ ?_))
 intro a w h; change ∃ j, _ ∧ _
 exact ⟨(k + 1, v, out), ⟨⟨(show (k + 1) ≤ l.length from by omega), (show out = (l.take (k + 1)).filter (inV vs) from by rw [ZM (by omega), f1_2]; simp [inV]; grind), (show out.length ≤ (k + 1) from by omega)⟩, lz [0, 1, 3, 2] rfl h⟩, (show l.length - (k + 1) < l.length - k from by first | omega | (simp; omega))⟩
 try simp at hb1
 refine Zv (nx (Za (rgo tb hJ [1001] [_, _] [] [(_, .lit v)] rfl rfl rfl rfl trivial (nx ?_))))
 refine tw (fun h => ZO hS h (m := 0) (s := 4) rfl) ?_
 refine Zi (fun a w h => Zh (m := 0) rfl (Zl h) rfl (congrArg (fun z => AV.rd (YG z)) (show out = (l.filter (inV vs)) from by rw [f1_2, Zp (by omega)])))
theorem Zga {J : World → Prop} (hJ : Stab J) (l : List (List ByteArray)) (vs : List ByteArray) (b : vs.length ≤ 8000) : Fn Tryz.prog J 136 [.rd (X3 l), .rd (Zg vs)] (.rd (Zg (YZ vs l.flatten))) := by
 refine Zx (N := 46) Tryz.func136 rfl rfl (lb rfl) fun S w0 hS hJ0 => ?_
 refine tw Yi ?_
 refine Zf (fun a w h => Zj h 0 rfl) fun hl1 => Zf (fun a w h => Zj h 1 rfl) fun hl2 => Za (rgo tb hJ [0, 1] [_] [] [(_, _), (_, _)] rfl rfl rfl rfl trivial (nx (Za (Zn (XM Zk hJ rfl rfl rfl (lb rfl) fun v1 => ?_)))))
 refine sv tb rfl rfl rfl rfl (Zy ?_)
 refine kw (lz [0, 2, 3] (env' := [(_, _), (_, _), (_, _)]) rfl) ?_
 refine nx (Za (Za (rgo tb hJ [0, 1, 2, 1000] [_] [] [(_, _), (_, _), (_, _), (_, .int (0 : Int))] rfl rfl rfl rfl trivial (nx (Ze (Zw (ι := Nat × Value × (List ByteArray)) (fun (ii' : Nat × Value × (List ByteArray)) a w => match ii' with | (k, v, out) => ((k ≤ l.length) ∧ (out = YZ vs (l.take k).flatten)) ∧ St All (SO S [OB.row v 9 1 (out.map Qz)]) w0 46 [(0, .rd (X3 l)), (1, .rd (Zg vs)), (6, .int k), (5, .lit v)] (XO J S w0.heap.size [OB.row v 9 1 (out.map Qz)]) a w) (fun (ii' : Nat × Value × (List ByteArray)) => match ii' with | (k, _, _) => (l.length - k : Nat)) ?_ ?_))))))
 intro a w h
 exact ⟨(0, v1, ([] : List ByteArray)), (show (0 ≤ l.length) ∧ (([] : List ByteArray) = YZ vs (l.take 0).flatten) from ⟨Nat.zero_le _, by simp [YZ]⟩), lz [1, 2, 3, 0] rfl h⟩
 rintro ⟨k, v, out⟩
 refine ZD fun hF => ?_
 obtain ⟨f1_1, f1_2⟩ := hF
 refine Za (Za (rgo tb hJ [0, 1, 2, 3, 1003] [_, _, .int l.length, _] [2] [(_, _), (_, _), (_, _), (_, _), (_, .bool (decide ((k : Int) < (l.length : Int))))] rfl rfl rfl rfl ⟨Ys Zb6 rfl rfl rfl rfl, trivial⟩ (nx (tc 4 rfl rfl (fun hb1 => ?_) (fun hb1 => ?_)))))
 try simp at hb1
 refine Zd (nx (Za (Ze (Za (rgo tb hJ [0, 1, 2, 3, 1000] [_] [] [(_, _), (_, _), (_, _), (_, _), (_, .int (0 : Int))] rfl rfl rfl rfl trivial (nx (Ze (Zw (ι := Nat × Value × (List ByteArray)) (fun (ii' : Nat × Value × (List ByteArray)) a w => match ii' with | (j, vb, out2) => ((j ≤ (ge l k).length) ∧ (out2 = YZ vs ((l.take k).flatten ++ (ge l k).take j))) ∧ St All (SO S [OB.row vb 9 1 (out2.map Qz)]) w0 46 [(0, .rd (X3 l)), (1, .rd (Zg vs)), (6, .int k), (7, .int j), (5, .lit vb)] (XO J S w0.heap.size [OB.row vb 9 1 (out2.map Qz)]) a w) (fun (ii' : Nat × Value × (List ByteArray)) => match ii' with | (j, _, _) => ((ge l k).length - j : Nat)) ?_ ?_))))))))
 intro a w h
 exact ⟨(0, v, out), (show (0 ≤ (ge l k).length) ∧ (out = YZ vs ((l.take k).flatten ++ (ge l k).take 0)) from ⟨Nat.zero_le _, by simp [f1_2]⟩), lz [0, 1, 2, 4, 3] rfl h⟩
 rintro ⟨j, vb, out2⟩
 refine ZD fun hF => ?_
 obtain ⟨f2_1, f2_2⟩ := hF
 refine Za (Za (rgo tb hJ [0, 1, 2, 3, 4, 1004, 1006] [_, _, _, .ptr [Zg (ge l k)], _, .int (((ge l k).length : Nat) : Int), _] [3, 5] [(_, _), (_, _), (_, _), (_, _), (_, _), (_, .rd (Zg (ge l k))), (_, .bool (decide ((j : Int) < (((ge l k).length : Nat) : Int))))] rfl rfl rfl rfl ⟨hIx YT (by first | omega | (simp; omega) | grind [Zb]) rfl rfl rfl rfl rfl rfl, Ys ZB rfl rfl rfl rfl, trivial⟩ (nx (Zf (fun a w h => Zj h 5 rfl) fun hl3 => tc 6 rfl rfl (fun hb2 => ?_) (fun hb2 => ?_)))))
 try simp at hb2
 refine Zd (nx (Za (Ze (Za (rgo tb hJ [0, 1, 2, 3, 4, 1007] [_, _, .ptr [Zg (ge l k)], _, _, .ptr [.lit (.string (ge (ge l k) j))], _, _] [2, 5] [(_, _), (_, _), (_, _), (_, _), (_, _), (_, .str (ge (ge l k) j))] rfl rfl rfl rfl ⟨hIx YT (by first | omega | (simp; omega) | grind [Zb]) rfl rfl rfl rfl rfl rfl, hIx Zk (by first | omega | (simp; omega) | grind [Zb]) rfl rfl rfl rfl rfl rfl, trivial⟩ (nx (Za (rgr tb hJ [0, 1, 2, 3, 4, 5, 1008] [_, _, .bool (decide ((ge (ge l k) j) ∈ vs)), _, _, _, .bool (decide ((ge (ge l k) j) ∈ out2)), _, _] [2, 6] [(_, _), (_, _), (_, _), (_, _), (_, _), (_, _), (_, .bool ((decide ((ge (ge l k) j) ∈ vs)) && (!(decide ((ge (ge l k) j) ∈ out2)))))] rfl rfl rfl rfl ⟨hFr hS hJ (Zax hJ (xs := vs) (s := (ge (ge l k) j)) ) YN rfl rfl rfl rfl, fun _ _ hk hx hl hc => Qk (Zax hJ (xs := out2) (s := (ge (ge l k) j)) ) YN rfl (nm hS hk) (hx.1) (Zc (YM hS hx (mo 0 rfl) (hl.dep 4 36 _ rfl rfl rfl hc)) (Zc (hl.dep 5 37 _ rfl rfl rfl hc) Zm)) (jo hJ hx), trivial⟩ (nx (tc 6 rfl rfl (fun hb3 => ?_) (fun hb3 => ?_)))))))))))
 try simp at hb3
 refine Zn (sv tb rfl rfl rfl rfl (sv tb rfl rfl rfl rfl (sq (.rd (Zg ([(ge (ge l k) j)]))) rfl rfl (lb rfl) (fun _ _ h => ZV Zk Zay rfl (h.get 0 rfl) (Zr hS _ h.keep h.x _ (Nat.le_refl _)) (jo hJ h.x)) (ZR (f := Qz) (m := 2) (s := 41) out2 ([(ge (ge l k) j)]) (fun _ => rfl) XE hJ hJ0 rfl rfl rfl (lb rfl) rfl rfl (fun a w h => (h.get 0 rfl)) (by have := Zjb vs ((l.take k).flatten ++ (ge l k).take j); simp [f2_2]; omega) (by have := Zjb vs ((l.take k).flatten ++ (ge l k).take j); simp [f2_2]; omega) fun v2 => ?_))))
 refine sv tb rfl rfl rfl rfl (Zy ?_)
 refine kw (lz [0, 2, 5, 6, 7, 8] (env' := [(_, _), (_, _), (_, _), (_, _), (_, _), (_, _)]) rfl) ?_
 refine nx (Zf (fun a w h => Zj h 1 rfl) fun hl4 => rgo tb hJ [0, 2, 3, 4, 1002] [_, .int ((j + 1 : Nat) : Int), _] [1] [(_, _), (_, _), (_, _), (_, _), (_, .int ((j + 1 : Nat) : Int))] rfl rfl rfl rfl ⟨Yc (by first | omega | (simp; omega) | grind [Zb]) rfl rfl rfl rfl rfl, trivial⟩ ?_)
 intro a w h; change ∃ j, _ ∧ _
 exact ⟨(j + 1, v2, out2 ++ ([(ge (ge l k) j)])), ⟨⟨(show (j + 1) ≤ (ge l k).length from by omega), (show (out2 ++ ([(ge (ge l k) j)])) = YZ vs ((l.take k).flatten ++ (ge l k).take (j + 1)) from by rw [ZS (by omega), ← List.append_assoc, Q4, ← f2_2]; simp [hb3])⟩, lz [1, 2, 3, 4, 0] rfl h⟩, (show (ge l k).length - (j + 1) < (ge l k).length - j from by first | omega | (simp; omega))⟩
 try simp at hb3
 refine Zd (nx (rgo tb hJ [0, 1, 2, 4, 1002] [_, .int ((j + 1 : Nat) : Int), _] [1] [(_, _), (_, _), (_, _), (_, _), (_, .int ((j + 1 : Nat) : Int))] rfl rfl rfl rfl ⟨Yc (by first | omega | (simp; omega) | grind [Zb]) rfl rfl rfl rfl rfl, trivial⟩ ?_))
 intro a w h; change ∃ j, _ ∧ _
 exact ⟨(j + 1, vb, out2), ⟨⟨(show (j + 1) ≤ (ge l k).length from by omega), (show out2 = YZ vs ((l.take k).flatten ++ (ge l k).take (j + 1)) from by rw [ZS (by omega), ← List.append_assoc, Q4, ← f2_2]; simp; grind)⟩, lz [0, 1, 2, 4, 3] rfl h⟩, (show (ge l k).length - (j + 1) < (ge l k).length - j from by first | omega | (simp; omega))⟩
 try simp at hb2
 refine Zv (nx (rgo tb hJ [0, 1, 4, 1002] [_, .int ((k + 1 : Nat) : Int), _] [1] [(_, _), (_, _), (_, _), (_, .int ((k + 1 : Nat) : Int))] rfl rfl rfl rfl ⟨Yc (by first | omega | (simp; omega) | grind [Zb]) rfl rfl rfl rfl rfl, trivial⟩ ?_))
 intro a w h; change ∃ j, _ ∧ _
 exact ⟨(k + 1, vb, out2), ⟨⟨(show (k + 1) ≤ l.length from by omega), (show out2 = YZ vs (l.take (k + 1)).flatten from by rw [f2_2, Zp (xs := ge l k) (by omega), ZS (by omega)]; simp)⟩, lz [0, 1, 3, 2] rfl h⟩, (show l.length - (k + 1) < l.length - k from by first | omega | (simp; omega))⟩
 try simp at hb1
 refine Zv (nx (Za (rgo tb hJ [1001] [_, _] [] [(_, .lit v)] rfl rfl rfl rfl trivial (nx ?_))))
 refine tw (fun h => ZO hS h (m := 0) (s := 4) rfl) ?_
 refine Zi (fun a w h => Zh (m := 0) rfl (Zl h) rfl (congrArg (fun z => AV.rd (Zg z)) (show out = (YZ vs l.flatten) from by rw [f1_2, Zp (by omega)])))
theorem ZbH {J : World → Prop} (hJ : Stab J) (f : Fr) (b : f.hyps.length * 48 ≤ 140737488351232) : Fn Tryz.prog J 114 [.agg (frC f)] (.rd (Zg ((ZZ f.hyps).map Hy.label))) := by
 refine Zx (N := 30) Tryz.func114 rfl rfl (lb rfl) fun S w0 hS hJ0 => ?_
 refine tw Yi ?_
 refine Za (rgo tb hJ [1000] [_, _] [0] [(_, .ptr (frC f))] rfl rfl rfl rfl ⟨fun _ _ hk hx hl _ => Yv rfl (hl.env 0 0 _ rfl rfl) (Zr hS _ hk hx _ (Nat.le_refl _)) (jo hJ hx), trivial⟩ (nx (Za (Zn (XM Zk hJ rfl rfl rfl (lb rfl) fun v1 => ?_)))))
 refine sv tb rfl rfl rfl rfl (Zy ?_)
 refine kw (lz [0, 2] (env' := [(_, _), (_, _)]) rfl) ?_
 refine nx (Za (Za (rgo tb hJ [0, 1, 1000] [_] [] [(_, _), (_, _), (_, .int (0 : Int))] rfl rfl rfl rfl trivial (nx (Ze (Zw (ι := Nat × Value × (List ByteArray)) (fun (ii' : Nat × Value × (List ByteArray)) a w => match ii' with | (k, v, out) => ((k ≤ f.hyps.length) ∧ (out = (ZZ (f.hyps.take k)).map Hy.label) ∧ (out.length ≤ k)) ∧ St All (SO S [OB.row v 9 1 (out.map Qz)]) w0 30 [(1, .ptr (frC f)), (4, .int k), (3, .lit v)] (XO J S w0.heap.size [OB.row v 9 1 (out.map Qz)]) a w) (fun (ii' : Nat × Value × (List ByteArray)) => match ii' with | (k, _, _) => (f.hyps.length - k : Nat)) ?_ ?_))))))
 intro a w h
 exact ⟨(0, v1, ([] : List ByteArray)), (show (0 ≤ f.hyps.length) ∧ (([] : List ByteArray) = (ZZ (f.hyps.take 0)).map Hy.label) ∧ (([] : List ByteArray).length ≤ 0) from ⟨Nat.zero_le _, by simp [ZZ], by simp⟩), lz [1, 2, 0] rfl h⟩
 rintro ⟨k, v, out⟩
 refine ZD fun hF => ?_
 obtain ⟨f1_1, f1_2, f1_3⟩ := hF
 refine Za (Za (rgo tb hJ [0, 1, 2, 1002, 1004] [_, _, _, .int f.hyps.length, _] [3] [(_, _), (_, _), (_, _), (_, .rd (Z4 f.hyps)), (_, .bool (decide ((k : Int) < (f.hyps.length : Int))))] rfl rfl rfl rfl ⟨Ys ZC rfl rfl rfl rfl, trivial⟩ (nx (Zf (fun a w h => Zj h 3 rfl) fun hl1 => tc 4 rfl rfl (fun hb1 => ?_) (fun hb1 => ?_)))))
 try simp at hb1
 refine Zd (nx (Za (Ze (Za (rgo tb hJ [0, 1, 2, 1006] [_, _, _, .ptr (hyC (ge f.hyps k)), _, _, _] [3] [(_, _), (_, _), (_, _), (_, .bool (!((ge f.hyps k).floating)))] rfl rfl rfl rfl ⟨hIx Zt (by first | omega | (simp; omega) | grind [Zb]) rfl rfl rfl rfl rfl rfl, trivial⟩ (nx (tc 3 rfl rfl (fun hb2 => ?_) (fun hb2 => ?_))))))))
 try simp at hb2
 refine Zn (sv tb rfl rfl rfl rfl (sv (av := .ptr [Z4 f.hyps, YG f.apart, Zg f.text, Z4 f.dummies, YG f.wide, Zg f.proof]) tb rfl rfl rfl rfl (sv (av := .rd (Z4 f.hyps)) tb rfl rfl rfl rfl (sv tb rfl rfl rfl rfl (sq (.ptr (hyC (ge f.hyps k))) rfl rfl (lb rfl) (fun _ _ h => ZI (i := (k : Int)) Zt rfl (h.get 1 rfl) (h.get 0 rfl) (Int.natCast_nonneg _) (ZL (xs := f.hyps) (k := k) (by first | omega | (simp; omega) | grind [Zb])) rfl h.x) (sv (av := .ptr (hyC (ge f.hyps k))) tb rfl rfl rfl rfl (sv (av := .str ((ge f.hyps k).label)) tb rfl rfl rfl rfl (sq (.rd (Zg ([(ge f.hyps k).label]))) rfl rfl (lb rfl) (fun _ _ h => ZV Zk Zay rfl (h.get 0 rfl) (Zr hS _ h.keep h.x _ (Nat.le_refl _)) (jo hJ h.x)) (ZR (f := Qz) (m := 7) (s := 20) out ([(ge f.hyps k).label]) (fun _ => rfl) XE hJ hJ0 rfl rfl rfl (lb rfl) rfl rfl (fun a w h => (h.get 0 rfl)) (by first | omega | (simp; omega) | grind [Zb]) (by first | omega | (simp; omega) | grind [Zb]) fun v2 => ?_)))))))))
 refine sv tb rfl rfl rfl rfl (Zy ?_)
 refine kw (lz [0, 2, 10, 11] (env' := [(_, _), (_, _), (_, _), (_, _)]) rfl) ?_
 refine nx (Zf (fun a w h => Zj h 1 rfl) fun hl2 => rgo tb hJ [0, 2, 1002] [_, .int ((k + 1 : Nat) : Int), _] [1] [(_, _), (_, _), (_, .int ((k + 1 : Nat) : Int))] rfl rfl rfl rfl ⟨Yc (by first | omega | (simp; omega) | grind [Zb]) rfl rfl rfl rfl rfl, trivial⟩ ?_)
 intro a w h; change ∃ j, _ ∧ _
 exact ⟨(k + 1, v2, out ++ ([(ge f.hyps k).label])), ⟨⟨(show (k + 1) ≤ f.hyps.length from by omega), (show (out ++ ([(ge f.hyps k).label])) = (ZZ (f.hyps.take (k + 1))).map Hy.label from by rw [ZZ, ZM (by omega), f1_2]; simp [ZZ, hb2]), (show (out ++ ([(ge f.hyps k).label])).length ≤ (k + 1) from by simp; omega)⟩, lz [1, 2, 0] rfl h⟩, (show f.hyps.length - (k + 1) < f.hyps.length - k from by first | omega | (simp; omega))⟩
 try simp at hb2
 refine Zd (nx (rgo tb hJ [0, 2, 1002] [_, .int ((k + 1 : Nat) : Int), _] [1] [(_, _), (_, _), (_, .int ((k + 1 : Nat) : Int))] rfl rfl rfl rfl ⟨Yc (by first | omega | (simp; omega) | grind [Zb]) rfl rfl rfl rfl rfl, trivial⟩ ?_))
 intro a w h; change ∃ j, _ ∧ _
 exact ⟨(k + 1, v, out), ⟨⟨(show (k + 1) ≤ f.hyps.length from by omega), (show out = (ZZ (f.hyps.take (k + 1))).map Hy.label from by rw [ZZ, ZM (by omega), f1_2]; simp [ZZ, hb2]), (show out.length ≤ (k + 1) from by omega)⟩, lz [0, 2, 1] rfl h⟩, (show f.hyps.length - (k + 1) < f.hyps.length - k from by first | omega | (simp; omega))⟩
 try simp at hb1
 refine Zv (nx (Za (rgo tb hJ [1001] [_, _] [] [(_, .lit v)] rfl rfl rfl rfl trivial (nx ?_))))
 refine tw (fun h => ZO hS h (m := 0) (s := 2) rfl) ?_
 refine Zi (fun a w h => Zh (m := 0) rfl (Zl h) rfl (congrArg (fun z => AV.rd (Zg z)) (show out = ((ZZ f.hyps).map Hy.label) from by rw [f1_2, Zp (by omega)])))
theorem Zh7 {J : World → Prop} (hJ : Stab J) (hs : List Hy) (t : List ByteArray) (b : hs.length ≤ 40) : Fn Tryz.prog J 137 [.rd (Z4 hs), .rd (Zg t)] (.rd (X3 (t :: (ZZ hs).map Hy.text))) := by
 refine Zx (N := 30) Tryz.func137 rfl rfl (lb rfl) fun S w0 hS hJ0 => ?_
 refine tw Yi ?_
 refine Zf (fun a w h => Zj h 0 rfl) fun hl1 => Zf (fun a w h => Zj h 1 rfl) fun hl2 => Za (rgo tb hJ [0, 1] [_] [] [(_, _), (_, _)] rfl rfl rfl rfl trivial (nx (Za (Zn (sv tb rfl rfl rfl rfl (Zbl YT ZdB hJ rfl rfl rfl (lb rfl) (fun _ _ h => (h.get 0 rfl)) fun v1 => ?_))))))
 refine sv tb rfl rfl rfl rfl (Zy ?_)
 refine kw (lz [0, 3] (env' := [(_, _), (_, _)]) rfl) ?_
 refine nx (Za (Za (rgo tb hJ [0, 1, 1000] [_] [] [(_, _), (_, _), (_, .int (0 : Int))] rfl rfl rfl rfl trivial (nx (Ze (Zw (ι := Nat × Value × (List (List ByteArray))) (fun (ii' : Nat × Value × (List (List ByteArray))) a w => match ii' with | (k, v, out) => ((k ≤ hs.length) ∧ (out = t :: (ZZ (hs.take k)).map Hy.text) ∧ (out.length ≤ k + 1)) ∧ St All (SO S [OB.row v 22 1 (out.map Zb9)]) w0 30 [(0, .rd (Z4 hs)), (6, .int k), (5, .lit v)] (XO J S w0.heap.size [OB.row v 22 1 (out.map Zb9)]) a w) (fun (ii' : Nat × Value × (List (List ByteArray))) => match ii' with | (k, _, _) => (hs.length - k : Nat)) ?_ ?_))))))
 intro a w h
 exact ⟨(0, v1, [t]), (show (0 ≤ hs.length) ∧ (([t]) = t :: (ZZ (hs.take 0)).map Hy.text) ∧ (([t]).length ≤ 0 + 1) from ⟨Nat.zero_le _, by simp [ZZ], by simp⟩), lz [1, 2, 0] rfl h⟩
 rintro ⟨k, v, out⟩
 refine ZD fun hF => ?_
 obtain ⟨f1_1, f1_2, f1_3⟩ := hF
 refine Za (Za (rgo tb hJ [0, 1, 2, 1003] [_, _, .int hs.length, _] [2] [(_, _), (_, _), (_, _), (_, .bool (decide ((k : Int) < (hs.length : Int))))] rfl rfl rfl rfl ⟨Ys ZC rfl rfl rfl rfl, trivial⟩ (nx (tc 3 rfl rfl (fun hb1 => ?_) (fun hb1 => ?_)))))
 try simp at hb1
 refine Zd (nx (Za (Ze (Za (rgo tb hJ [0, 1, 2, 1005] [_, _, .ptr (hyC (ge hs k)), _, _, _] [2] [(_, _), (_, _), (_, _), (_, .bool (!((ge hs k).floating)))] rfl rfl rfl rfl ⟨hIx Zt (by first | omega | (simp; omega) | grind [Zb]) rfl rfl rfl rfl rfl rfl, trivial⟩ (nx (tc 3 rfl rfl (fun hb2 => ?_) (fun hb2 => ?_))))))))
 try simp at hb2
 refine Zn (sv tb rfl rfl rfl rfl (sv tb rfl rfl rfl rfl (sv tb rfl rfl rfl rfl (sq (.ptr (hyC (ge hs k))) rfl rfl (lb rfl) (fun _ _ h => ZI (i := (k : Int)) Zt rfl (h.get 1 rfl) (h.get 0 rfl) (Int.natCast_nonneg _) (ZL (xs := hs) (k := k) (by first | omega | (simp; omega) | grind [Zb])) rfl h.x) (sv (av := .ptr [Zg ((ge hs k).text)]) tb rfl rfl rfl rfl (sv (av := .rd (Zg ((ge hs k).text))) tb rfl rfl rfl rfl (sq (.rd (X3 ([(ge hs k).text]))) rfl rfl (lb rfl) (fun _ _ h => ZV YT ZdB rfl (h.get 0 rfl) (Zr hS _ h.keep h.x _ (Nat.le_refl _)) (jo hJ h.x)) (ZR (f := Zb9) (m := 6) (s := 21) out ([(ge hs k).text]) (fun _ => rfl) Zdy hJ hJ0 rfl rfl rfl (lb rfl) rfl rfl (fun a w h => (h.get 0 rfl)) (by first | omega | (simp; omega) | grind [Zb]) (by first | omega | (simp; omega) | grind [Zb]) fun v2 => ?_))))))))
 refine sv tb rfl rfl rfl rfl (Zy ?_)
 refine kw (lz [0, 2, 3, 9, 10] (env' := [(_, _), (_, _), (_, _), (_, _), (_, _)]) rfl) ?_
 refine nx (Zf (fun a w h => Zj h 1 rfl) fun hl3 => Zf (fun a w h => Zj h 2 rfl) fun hl4 => rgo tb hJ [0, 3, 1002] [_, .int ((k + 1 : Nat) : Int), _] [1] [(_, _), (_, _), (_, .int ((k + 1 : Nat) : Int))] rfl rfl rfl rfl ⟨Yc (by first | omega | (simp; omega) | grind [Zb]) rfl rfl rfl rfl rfl, trivial⟩ ?_)
 intro a w h; change ∃ j, _ ∧ _
 exact ⟨(k + 1, v2, out ++ ([(ge hs k).text])), ⟨⟨(show (k + 1) ≤ hs.length from by omega), (show (out ++ ([(ge hs k).text])) = t :: (ZZ (hs.take (k + 1))).map Hy.text from by rw [ZZ, ZM (by omega), f1_2]; simp [ZZ, hb2]), (show (out ++ ([(ge hs k).text])).length ≤ (k + 1) + 1 from by simp; omega)⟩, lz [1, 2, 0] rfl h⟩, (show hs.length - (k + 1) < hs.length - k from by first | omega | (simp; omega))⟩
 try simp at hb2
 refine Zd (nx (rgo tb hJ [0, 2, 1002] [_, .int ((k + 1 : Nat) : Int), _] [1] [(_, _), (_, _), (_, .int ((k + 1 : Nat) : Int))] rfl rfl rfl rfl ⟨Yc (by first | omega | (simp; omega) | grind [Zb]) rfl rfl rfl rfl rfl, trivial⟩ ?_))
 intro a w h; change ∃ j, _ ∧ _
 exact ⟨(k + 1, v, out), ⟨⟨(show (k + 1) ≤ hs.length from by omega), (show out = t :: (ZZ (hs.take (k + 1))).map Hy.text from by rw [ZZ, ZM (by omega), f1_2]; simp [ZZ, hb2]), (show out.length ≤ (k + 1) + 1 from by omega)⟩, lz [0, 2, 1] rfl h⟩, (show hs.length - (k + 1) < hs.length - k from by first | omega | (simp; omega))⟩
 try simp at hb1
 refine Zv (nx (Za (rgo tb hJ [1001] [_, _] [] [(_, .lit v)] rfl rfl rfl rfl trivial (nx ?_))))
 refine tw (fun h => ZO hS h (m := 0) (s := 4) rfl) ?_
 refine Zi (fun a w h => Zh (m := 0) rfl (Zl h) rfl (congrArg (fun z => AV.rd (X3 z)) (show out = (t :: (ZZ hs).map Hy.text) from by rw [f1_2, Zp (by omega)])))
end Go.Proofs.YtnpgmdffjemnbaaGreatDoor
set_option maxHeartbeats 8000000
set_option maxRecDepth 100000
namespace Go.Proofs.YtnpgmdffjemnbaaGreatDoor
open Go.RowKit

theorem Zmr {J : World → Prop} (hJ : Stab J) (d : Db) (k : Nat) (hn : k ≤ d.frames.length) (hk0 : k ≤ 400) (hz : 0 < k → (ge d.frames (k - 1)).hyps.length ≤ 40) : Fn Tryz.prog J 116 [.agg (dbC d), .int k] (.rd (Zg (ZcN d k))) := by
 refine Zx (N := 14) Tryz.func116 rfl rfl (lb rfl) fun S w0 hS hJ0 => ?_
 clear hJ0
 refine Za (rg tb hJ [1, 1000] [_, _] [0] [(_, _), (_, .ptr (dbC d))] rfl rfl rfl rfl ⟨fun _ _ hk hx hl _ => Yv rfl (hl.env 0 0 _ rfl rfl) (hS _ hk.size) (js hJ hx), trivial⟩ (nx (Za (Za (rg tb hJ [0, 1, 1001] [_, _] [] [(_, _), (_, _), (_, .bool (decide ((k : Int) = (0 : Int))))] rfl rfl rfl rfl trivial (nx (tc 2 rfl rfl (fun hb1 => ?_) (fun hb1 => ?_))))))))
 try simp at hb1
 refine Za (rg tb hJ [1000] [_] [] [(_, .lit (.slice none 0 0))] rfl rfl rfl rfl trivial (nx ?_))
 refine tw (fun h => Y8 h (m := 0) (s := 4) rfl) ?_
 refine Zi (fun a w h => Zh (m := 0) rfl h rfl (congrArg (fun z => AV.rd (Zg z)) (show ([] : List ByteArray) = (ZcN d k) from by simp [ZcN, hb1])))
 try simp at hb1
 refine Zd (nx (Za (rg tb hJ [1001, 1006, 1007] [_, _, _, .int ((k : Int) - (1 : Int)), .ptr (frC (ge d.frames ((k : Int) - (1 : Int)).toNat)), _, _, _] [3, 4, 6] [(_, .rd (Yn d.frames)), (_, .rd (Zg ((ZZ (ge d.frames ((k : Int) - (1 : Int)).toNat).hyps).map Hy.label))), (_, .rd (Zg ((ZZ (ge d.frames ((k : Int) - (1 : Int)).toNat).hyps).map Hy.label)))] rfl rfl rfl rfl ⟨ZoF (by first | omega | (simp; omega) | grind [Zb]) rfl rfl rfl rfl rfl, hIz Ye (by first | omega | (simp; omega) | grind [Zb]) (by first | omega | (simp; omega) | grind [Zb]) rfl rfl rfl rfl rfl rfl, hFn hS hJ (ZbH hJ (f := (ge d.frames ((k : Int) - (1 : Int)).toNat)) (by have := hz (by omega); rw [show ((k : Int) - 1).toNat = k - 1 by omega]; omega)) Zhk rfl rfl rfl rfl, trivial⟩ (nx (Zf (fun a w h => Zj h 0 rfl) fun hl1 => Zf (fun a w h => Zj h 1 rfl) fun hl2 => Zi (fun a w h => Zh (m := 2) rfl h rfl (congrArg (fun z => AV.rd (Zg z)) (show ((ZZ (ge d.frames ((k : Int) - (1 : Int)).toNat).hyps).map Hy.label) = (ZcN d k) from by rw [ZcN, if_neg hb1, show ((k : Int) - 1).toNat = k - 1 by omega]))))))))
theorem Zgb {J : World → Prop} (hJ : Stab J) (d : Db) (n : Nat) (s : ByteArray) (hn : n ≤ d.frames.length) (hz : ∀ i, i < n → (ge d.frames i).hyps.length ≤ 40 ∧ (ge d.frames i).dummies.length ≤ 40) : Fn Tryz.prog J 107 [.agg (dbC d), .int n, .str s] (.tup [.bool (frL d n s), .bool (hyL d n s)]) := by
 refine Zx (N := 51) Tryz.func107 rfl rfl (lb rfl) fun S w0 hS hJ0 => ?_
 clear hJ0
 refine Za (rg tb hJ [1, 2, 1000, 1001, 1002] [_, _, _] [0] [(_, _), (_, _), (_, .ptr (dbC d)), (_, .bool false), (_, .bool false)] rfl rfl rfl rfl ⟨fun _ _ hk hx hl _ => Yv rfl (hl.env 0 0 _ rfl rfl) (hS _ hk.size) (js hJ hx), trivial⟩ (nx (Za (Za (rg tb hJ [0, 1, 2, 3, 4, 1000] [_] [] [(_, _), (_, _), (_, _), (_, _), (_, _), (_, .int (0 : Int))] rfl rfl rfl rfl trivial (nx (Ze (Zw (ι := Nat × Bool × Bool) (fun (ii' : Nat × Bool × Bool) a w => match ii' with | (k, p, q) => ((k ≤ n) ∧ (p = frL d k s) ∧ (q = hyL d k s)) ∧ St All S w0 51 [(1, .int n), (2, .str s), (3, .ptr (dbC d)), (8, .int k), (6, .bool p), (7, .bool q)] J a w) (fun (ii' : Nat × Bool × Bool) => match ii' with | (k, _, _) => (n - k : Nat)) ?_ ?_))))))))
 intro a w h
 exact ⟨(0, false, false), (show (0 ≤ n) ∧ (false = frL d 0 s) ∧ (false = hyL d 0 s) from ⟨Nat.zero_le _, by simp [frL], by simp [hyL]⟩), lz [0, 1, 2, 5, 3, 4] rfl h⟩
 rintro ⟨k, p, q⟩
 refine ZD fun hF => ?_
 obtain ⟨f1_1, f1_2, f1_3⟩ := hF
 refine Za (Za (rg tb hJ [0, 1, 2, 3, 4, 5, 1002] [_, _, _] [] [(_, _), (_, _), (_, _), (_, _), (_, _), (_, _), (_, .bool (decide ((k : Int) < (n : Int))))] rfl rfl rfl rfl trivial (nx (tc 6 rfl rfl (fun hb1 => ?_) (fun hb1 => ?_)))))
 try simp at hb1
 refine Zd (nx (Za (Ze (Za (rg tb hJ [0, 1, 2, 3, 5, 1011] [_, _, _, _, _, .ptr (frC (ge d.frames k)), _, _, _, _, _, _] [5] [(_, _), (_, _), (_, _), (_, _), (_, _), (_, .bool (p || (decide (((ge d.frames k).label) = s))))] rfl rfl rfl rfl ⟨fun _ _ _ hx hl hc => ZI (i := (k : Int)) Ye rfl (hl.dep 3 19 _ rfl rfl rfl hc) (hl.dep 4 20 _ rfl rfl rfl hc) (Int.natCast_nonneg _) (ZL (xs := d.frames) (k := k) (by have hc' : (p == false) = true := hc; (try simp at hc'); (first | omega | (simp; omega) | grind [Zb]))) rfl hx, trivial⟩ (nx (Za (rg tb hJ [0, 1, 2, 3, 4, 5, 1001, 1005, 1006] [_, _, _, .ptr (frC (ge d.frames k)), _, _, _] [3, 5] [(_, _), (_, _), (_, _), (_, _), (_, _), (_, _), (_, .rd (Yn d.frames)), (_, .rd (Z4 ((ge d.frames k).hyps ++ (ge d.frames k).dummies))), (_, .rd (Z4 ((ge d.frames k).hyps ++ (ge d.frames k).dummies)))] rfl rfl rfl rfl ⟨hIx Ye (by first | omega | (simp; omega) | grind [Zb]) rfl rfl rfl rfl rfl rfl, hFn hS hJ (Zmu hJ (f := (ge d.frames k)) (by have := hz k (by omega); omega)) ZbZ rfl rfl rfl rfl, trivial⟩ (nx (Zf (fun a w h => Zj h 6 rfl) fun hl1 => Zf (fun a w h => Zj h 7 rfl) fun hl2 => Za ?_))))))))))
 refine rg tb hJ [0, 1, 2, 3, 4, 5, 8, 1000] [_] [] [(_, _), (_, _), (_, _), (_, _), (_, _), (_, _), (_, _), (_, .int (0 : Int))] rfl rfl rfl rfl trivial (nx (Ze (Zw (ι := Nat × Bool) (fun (ii' : Nat × Bool) a w => match ii' with | (j, q2) => ((j ≤ ((ge d.frames k).hyps ++ (ge d.frames k).dummies).length) ∧ (q2 = (hyL d k s || (((ge d.frames k).hyps ++ (ge d.frames k).dummies).take j).any fun h => decide (h.label = s)))) ∧ St All S w0 51 [(1, .int n), (2, .str s), (3, .ptr (dbC d)), (8, .int k), (6, .bool (p || (decide (((ge d.frames k).label) = s)))), (9, .rd (Z4 ((ge d.frames k).hyps ++ (ge d.frames k).dummies))), (10, .int j), (7, .bool q2)] J a w) (fun (ii' : Nat × Bool) => match ii' with | (j, _) => (((ge d.frames k).hyps ++ (ge d.frames k).dummies).length - j : Nat)) ?_ ?_)))
 intro a w h
 exact ⟨(0, q), (show (0 ≤ ((ge d.frames k).hyps ++ (ge d.frames k).dummies).length) ∧ (q = (hyL d k s || (((ge d.frames k).hyps ++ (ge d.frames k).dummies).take 0).any fun h => decide (h.label = s))) from ⟨Nat.zero_le _, by simp [f1_3]⟩), lz [0, 1, 2, 3, 5, 6, 7, 4] rfl h⟩
 rintro ⟨j, q2⟩
 refine ZD fun hF => ?_
 obtain ⟨f2_1, f2_2⟩ := hF
 refine Za (Za (rg tb hJ [0, 1, 2, 3, 4, 5, 6, 7, 1003] [_, _, .int ((((ge d.frames k).hyps ++ (ge d.frames k).dummies).length : Nat) : Int), _] [2] [(_, _), (_, _), (_, _), (_, _), (_, _), (_, _), (_, _), (_, _), (_, .bool (decide ((j : Int) < ((((ge d.frames k).hyps ++ (ge d.frames k).dummies).length : Nat) : Int))))] rfl rfl rfl rfl ⟨Ys ZC rfl rfl rfl rfl, trivial⟩ (nx (tc 8 rfl rfl (fun hb2 => ?_) (fun hb2 => ?_)))))
 try simp at hb2
 refine Zd (nx (Za (Ze (rg tb hJ [0, 1, 2, 3, 4, 5, 6, 1010] [_, _, _, _, .ptr (hyC (ge ((ge d.frames k).hyps ++ (ge d.frames k).dummies) j)), _, _, _, _, _, _] [4] [(_, _), (_, _), (_, _), (_, _), (_, _), (_, _), (_, _), (_, .bool (q2 || (decide (((ge ((ge d.frames k).hyps ++ (ge d.frames k).dummies) j).label) = s))))] rfl rfl rfl rfl ⟨fun _ _ _ hx hl hc => ZI (i := (j : Int)) Zt rfl (hl.dep 2 41 _ rfl rfl rfl hc) (hl.dep 3 42 _ rfl rfl rfl hc) (Int.natCast_nonneg _) (ZL (xs := ((ge d.frames k).hyps ++ (ge d.frames k).dummies)) (k := j) (by have hc' : (q2 == false) = true := hc; (try simp at hc'); (first | omega | (simp; omega) | grind [Zb]))) rfl hx, trivial⟩ (nx (rg tb hJ [0, 1, 2, 3, 4, 5, 7, 1002] [_, .int ((j + 1 : Nat) : Int), _] [1] [(_, _), (_, _), (_, _), (_, _), (_, _), (_, _), (_, _), (_, .int ((j + 1 : Nat) : Int))] rfl rfl rfl rfl ⟨Yc (by first | omega | (simp; omega) | grind [Zb]) rfl rfl rfl rfl rfl, trivial⟩ ?_))))))
 intro a w h; change ∃ j, _ ∧ _
 exact ⟨(j + 1, q2 || (decide (((ge ((ge d.frames k).hyps ++ (ge d.frames k).dummies) j).label) = s))), ⟨⟨(show (j + 1) ≤ ((ge d.frames k).hyps ++ (ge d.frames k).dummies).length from by simp; omega), (show (q2 || (decide (((ge ((ge d.frames k).hyps ++ (ge d.frames k).dummies) j).label) = s))) = (hyL d k s || (((ge d.frames k).hyps ++ (ge d.frames k).dummies).take (j + 1)).any fun h => decide (h.label = s)) from by rw [XF (by simp; omega), ← Bool.or_assoc, ← f2_2])⟩, lz [0, 1, 2, 3, 4, 5, 7, 6] rfl h⟩, (show ((ge d.frames k).hyps ++ (ge d.frames k).dummies).length - (j + 1) < ((ge d.frames k).hyps ++ (ge d.frames k).dummies).length - j from by first | omega | (simp; omega))⟩
 try simp at hb2
 refine Zv (nx (rg tb hJ [0, 1, 2, 4, 7, 1002] [_, .int ((k + 1 : Nat) : Int), _] [1] [(_, _), (_, _), (_, _), (_, _), (_, _), (_, .int ((k + 1 : Nat) : Int))] rfl rfl rfl rfl ⟨Yc (by first | omega | (simp; omega) | grind [Zb]) rfl rfl rfl rfl rfl, trivial⟩ ?_))
 intro a w h; change ∃ j, _ ∧ _
 exact ⟨(k + 1, p || (decide (((ge d.frames k).label) = s)), q2), ⟨⟨(show (k + 1) ≤ n from by omega), (show (p || (decide (((ge d.frames k).label) = s))) = frL d (k + 1) s from by rw [f1_2, frL, frL, XF (by omega)]), (show q2 = hyL d (k + 1) s from by rw [f2_2, Zp (xs := ((ge d.frames k).hyps ++ (ge d.frames k).dummies)) (by simp; omega), hyL, hyL, XF (by omega)])⟩, lz [0, 1, 2, 5, 3, 4] rfl h⟩, (show n - (k + 1) < n - k from by first | omega | (simp; omega))⟩
 try simp at hb1
 refine Zv (nx (Za (rg tb hJ [1002, 1003] [_, _, _, _] [] [(_, .bool p), (_, .bool q)] rfl rfl rfl rfl trivial (nx (Zi (fun a w h => YC (m := 0) (k := 1) rfl h rfl rfl (congrArg AV.bool (show p = (frL d n s) from by rw [f1_2, show k = n by omega])) (congrArg AV.bool (show q = (hyL d n s) from by rw [f1_3, show k = n by omega]))))))))
theorem c_less {J : World → Prop} (hJ : Stab J) (x : Pr) (y : Pr)  : Fn Tryz.prog J 179 [.agg (prC x), .agg (prC y)] (.bool (ltP x y)) := by
 refine Zx (N := 24) Tryz.func179 rfl rfl (lb rfl) fun S w0 hS hJ0 => ?_
 clear hJ0
 refine Za (rg tb hJ [1000, 1001] [_, _, _] [0, 1] [(_, .ptr (prC x)), (_, .ptr (prC y))] rfl rfl rfl rfl ⟨fun _ _ hk hx hl _ => Yv rfl (hl.env 0 0 _ rfl rfl) (hS _ hk.size) (js hJ hx), fun _ _ hk hx hl _ => Yv rfl (hl.env 1 1 _ rfl rfl) (hS _ hk.size) (js hJ hx), trivial⟩ (nx (Za (rg tb hJ [1019] [_, _, _, _, _, _, _, _, _, _, _, _, _, _, _, _, _, _, _, _] [] [(_, .bool ((Op.bytesLess x.a.toList y.a.toList) || ((decide (x.a = y.a)) && (Op.bytesLess x.b.toList y.b.toList))))] rfl rfl rfl rfl trivial (nx (Zi (fun a w h => Zh (m := 0) rfl h rfl (congrArg AV.bool (show ((Op.bytesLess x.a.toList y.a.toList) || ((decide (x.a = y.a)) && (Op.bytesLess x.b.toList y.b.toList))) = (ltP x y) from by first | rfl | grind [Zb])))))))))
theorem c_put {J : World → Prop} (hJ : Stab J) (l : List Pr) (p : Pr) (b : (l.length + 1) * 32 ≤ 140737488351264) : Fn Tryz.prog J 165 [.rd (YG l), .agg (prC p)] (.rd (YG (QI l p))) := by
 refine Zx (N := 45) Tryz.func165 rfl rfl (lb rfl) fun S w0 hS hJ0 => ?_
 refine tw Yi ?_
 refine Zf (fun a w h => Zj h 0 rfl) fun hl1 => Za (rgo tb hJ [0, 1000] [_, _] [0] [(_, _), (_, .ptr (prC p))] rfl rfl rfl rfl ⟨fun _ _ hk hx hl _ => Yv rfl (hl.env 1 1 _ rfl rfl) (Zr hS _ hk hx _ (Nat.le_refl _)) (jo hJ hx), trivial⟩ (nx (Za (rgo tb hJ [0, 1, 1000] [_] [] [(_, _), (_, _), (_, .int (0 : Int))] rfl rfl rfl rfl trivial (nx (Za (Ze (Zw (ι := Nat) (fun (k : Nat) a w => ((k ≤ l.length) ∧ (∀ j, j < k → ltP (ge l j) p = true)) ∧ St All (SO S []) w0 45 [(0, .rd (YG l)), (3, .ptr (prC p)), (5, .int k)] (XO J S w0.heap.size []) a w) (fun (k : Nat) => (l.length - k : Nat)) ?_ ?_))))))))
 intro a w h
 exact ⟨0, (show (0 ≤ l.length) ∧ (∀ j, j < 0 → ltP (ge l j) p = true) from by first | trivial | grind), lz [0, 1, 2] rfl h⟩
 rintro k
 refine ZD fun hF => ?_
 obtain ⟨f1_1, f1_2⟩ := hF
 refine Za (Za (rgo tb hJ [0, 1, 2, 1011] [_, _, .int l.length, _, _, _, _, .ptr (prC (ge l k)), _, _, .bool (ltP (ge l k) p), _] [2, 7, 10] [(_, _), (_, _), (_, _), (_, .bool ((decide ((k : Int) < (l.length : Int))) && (ltP (ge l k) p)))] rfl rfl rfl rfl ⟨Ys Z1 rfl rfl rfl rfl, fun _ _ _ hx hl hc => ZI (i := (k : Int)) ZH rfl (hl.dep 5 11 _ rfl rfl rfl hc) (hl.dep 6 12 _ rfl rfl rfl hc) (Int.natCast_nonneg _) (ZL (xs := l) (k := k) (by have hc' : ((decide ((k : Int) < (l.length : Int))) == true) = true := hc; (try simp at hc'); (first | omega | (simp; omega) | grind [Zb]))) rfl hx, fun _ _ hk hx hl hc => Qk (c_less hJ (x := (ge l k)) (y := p) ) ZlJ rfl (Zr hS _ hk hx) (hx.1) (Zc (hl.dep 8 14 _ rfl rfl rfl hc) (Zc (hl.dep 9 15 _ rfl rfl rfl hc) Zm)) (jo hJ hx), trivial⟩ (nx (tc 3 rfl rfl (fun hb1 => ?_) (fun hb1 => ?_)))))
 try simp at hb1
 refine Zd (nx (Ze (rgo tb hJ [0, 1, 1002] [_, .int ((k + 1 : Nat) : Int), _] [1] [(_, _), (_, _), (_, .int ((k + 1 : Nat) : Int))] rfl rfl rfl rfl ⟨Yc (by first | omega | (simp; omega) | grind [Zb]) rfl rfl rfl rfl rfl, trivial⟩ ?_)))
 intro a w h; change ∃ j, _ ∧ _
 exact ⟨k + 1, ⟨⟨(show (k + 1) ≤ l.length from by omega), (show ∀ j, j < (k + 1) → ltP (ge l j) p = true from ZW f1_2 (by simp_all))⟩, lz [0, 1, 2] rfl h⟩, (show l.length - (k + 1) < l.length - k from by first | omega | (simp; omega))⟩
 try simp at hb1
 refine Zv (nx (Za (Za (rgo tb hJ [0, 1, 2, 1011] [_, _, .int l.length, _, _, _, _, .ptr (prC (ge l k)), _, _, .bool (decide ((ge l k).a = p.a) && decide ((ge l k).b = p.b)), _] [2, 7, 10] [(_, _), (_, _), (_, _), (_, .bool ((decide ((k : Int) < (l.length : Int))) && (decide ((ge l k).a = p.a) && decide ((ge l k).b = p.b))))] rfl rfl rfl rfl ⟨Ys Z1 rfl rfl rfl rfl, fun _ _ _ hx hl hc => ZI (i := (k : Int)) ZH rfl (hl.dep 5 25 _ rfl rfl rfl hc) (hl.dep 6 26 _ rfl rfl rfl hc) (Int.natCast_nonneg _) (ZL (xs := l) (k := k) (by have hc' : ((decide ((k : Int) < (l.length : Int))) == true) = true := hc; (try simp at hc'); (first | omega | (simp; omega) | grind [Zb]))) rfl hx, fun _ _ _ hx hl hc => r_eqlP ZjF rfl (hl.dep 8 28 _ rfl rfl rfl hc) (hl.dep 9 29 _ rfl rfl rfl hc) hx, trivial⟩ (nx (tc 3 rfl rfl (fun hb2 => ?_) (fun hb2 => ?_)))))))
 try simp at hb2
 refine Za (rgo tb hJ [1001] [_, _] [] [(_, .rd (YG l))] rfl rfl rfl rfl trivial (nx (Zi (fun a w h => Zh (m := 0) rfl (Zl h) rfl (congrArg (fun z => AV.rd (YG z)) (show l = (QI l p) from by rw [ZfI l p k f1_1 f1_2 (by grind), if_pos ⟨hb2.1, by simp [ZcU, hb2]⟩]))))))
 try simp at hb2
 refine Zd (nx (Za ?_))
 refine fun a w h => Qp (id := 6) (t := 57) (e := 148) (size := 2) (bytes := 32) (i0 := 0) (fol := 12) (d := 4) (ch := [(4, ((l.take k).map prC)), (7, (([p]).map prC)), (11, ((l.drop k).map prC))]) (fun ix' => ([.any, .rd (YG l), .int k, .rd (YG (l.take k)), .any, .agg (prC p), .rd (YG ([p])), .any, .rd (YG l), .int k, .rd (YG (l.drop k)), .any, .any] : List AV).getD ix' .any) (fun ix' => ([true, true, true, true, true, true, true, true, true, true, true, true, true] : List Bool).getD ix' true) [] (((l.take k) ++ ([p]) ++ (l.drop k)).map prC) (by simp) ?r6_1 hJ hJ0 h Y0 rfl rfl rfl rfl ⟨?o6_1_0, ⟨?o6_1_1, ⟨?o6_1_2, ⟨?o6_1_3, ⟨?o6_1_4, ⟨?o6_1_5, ⟨?o6_1_6, ⟨?o6_1_7, ⟨?o6_1_8, ⟨?o6_1_9, ⟨?o6_1_10, ⟨?o6_1_11, ⟨?o6_1_12, trivial⟩⟩⟩⟩⟩⟩⟩⟩⟩⟩⟩⟩⟩ trivial (fun v1 => ?n6_1)
 case r6_1 =>
  refine Row.mk' Zbx ⟨_, rfl, rfl, rfl, rfl, rfl⟩ ⟨?x6_1_0, ⟨?x6_1_1, ⟨?x6_1_2, trivial⟩⟩⟩ ⟨_, _, _, _, rfl, rfl, rfl, rfl, rfl, rfl, rfl, rfl, rfl⟩ rfl rfl rfl
  case x6_1_0 => exact ⟨_, _, _, _, rfl, rfl, rfl, rfl, rfl, rfl, rfl, rfl, Y5 (f := prC) (fun _ => rfl), (by have hm : maxLen = 9223372036854775807 := rfl; simp [upto]; first | omega | (simp; omega) | grind [Zb]), (by have hm : maxLen = 9223372036854775807 := rfl; simp [upto]; first | omega | (simp; omega) | grind [Zb]), fun _ _ _ _ _ hl => (hl.dep 3 36 _ rfl rfl rfl rfl)⟩
  case x6_1_1 => exact ⟨_, _, _, _, rfl, rfl, rfl, rfl, rfl, rfl, rfl, rfl, Y5 (f := prC) (fun _ => rfl), (by have hm : maxLen = 9223372036854775807 := rfl; simp [upto]; first | omega | (simp; omega) | grind [Zb]), (by have hm : maxLen = 9223372036854775807 := rfl; simp [upto]; first | omega | (simp; omega) | grind [Zb]), fun _ _ _ _ _ hl => (hl.dep 6 39 _ rfl rfl rfl rfl)⟩
  case x6_1_2 => exact ⟨_, _, _, _, rfl, rfl, rfl, rfl, rfl, rfl, rfl, rfl, Y5 (f := prC) (fun _ => rfl), (by have hm : maxLen = 9223372036854775807 := rfl; simp [upto]; first | omega | (simp; omega) | grind [Zb]), (by have hm : maxLen = 9223372036854775807 := rfl; simp [upto]; first | omega | (simp; omega) | grind [Zb]), fun _ _ _ _ _ hl => (hl.dep 10 43 _ rfl rfl rfl rfl)⟩
 case o6_1_0 => exact fun h => Zs rfl h
 case o6_1_1 => exact fun _ _ => ⟨rfl, fun _ _ _ hx hl _ => Yj rfl (hl.env 0 0 _ rfl rfl) hx⟩
 case o6_1_2 => exact fun _ _ => ⟨rfl, fun _ _ _ hx hl _ => Yj rfl (hl.env 2 5 _ rfl rfl) hx⟩
 case o6_1_3 => exact fun _ _ => ⟨rfl, fun _ _ _ hx hl _ => Xb (ys := l.take k) (lo := 0) (hi := k) List.drop_zero ZH (fun _ => rfl) rfl (hl.dep 1 34 _ rfl rfl rfl rfl) rfl (hl.dep 2 35 _ rfl rfl rfl rfl) (by first | omega | (simp; omega) | grind [Zb]) (by first | omega | (simp; omega) | grind [Zb]) hx⟩
 case o6_1_4 => exact fun h => Zs rfl h
 case o6_1_5 => exact fun _ _ => ⟨rfl, fun _ _ _ hx hl _ => ZdI Zfo rfl (hl.env 1 3 _ rfl rfl) (Nat.le_refl _) hx⟩
 case o6_1_6 => exact fun _ _ => ⟨rfl, fun _ _ hk hx hl _ => ZeF ZH Zgi (by decide) rfl rfl (hl.dep 5 38 _ rfl rfl rfl rfl) (Zr hS _ hk hx _ (Nat.le_refl _)) (jo hJ hx)⟩
 case o6_1_7 => exact fun h => Zs rfl h
 case o6_1_8 => exact fun _ _ => ⟨rfl, fun _ _ _ hx hl _ => Yj rfl (hl.env 0 0 _ rfl rfl) hx⟩
 case o6_1_9 => exact fun _ _ => ⟨rfl, fun _ _ _ hx hl _ => Yj rfl (hl.env 2 5 _ rfl rfl) hx⟩
 case o6_1_10 => exact fun _ _ => ⟨rfl, fun _ _ _ hx hl _ => Xb (ys := l.drop k) (lo := k) (hi := l.length) (by rw [List.take_length]) ZH (fun _ => rfl) rfl (hl.dep 8 41 _ rfl rfl rfl rfl) (hl.dep 9 42 _ rfl rfl rfl rfl) rfl (by first | omega | (simp; omega) | grind [Zb]) (by first | omega | (simp; omega) | grind [Zb]) hx⟩
 case o6_1_11 => exact fun h => Zs rfl h
 case o6_1_12 => exact fun h => Zs rfl h
 clear a w h
 refine nx ?_
 refine tw (fun h => ZO hS h (m := 0) (s := 4) rfl) ?_
 refine Zi (fun a w h => Zh (m := 0) rfl (Zl h) rfl (congrArg (fun z => AV.rd (YG z)) (show ((l.take k) ++ ([p]) ++ (l.drop k)) = (QI l p) from by rw [ZfI l p k f1_1 f1_2 (by grind), if_neg (by simp [ZcU]; grind)]; simp)))
theorem c_Join {J : World → Prop} (hJ : Stab J) (ws : List Pr) (zs : List Pr) (b : (ws.length + zs.length + 1) * 32 ≤ 140737488351264) : Fn Tryz.prog J 139 [.rd (YG ws), .rd (YG zs)] (.rd (YG (ZbJ ws zs))) := by
 refine Zx (N := 34) Tryz.func139 rfl rfl (lb rfl) fun S w0 hS hJ0 => ?_
 refine tw Yi ?_
 refine Zf (fun a w h => Zj h 0 rfl) fun hl1 => Zf (fun a w h => Zj h 1 rfl) fun hl2 => Za (rgo tb hJ [0, 1] [_] [] [(_, _), (_, _)] rfl rfl rfl rfl trivial (nx (Za (Zn (XM ZH hJ rfl rfl rfl (lb rfl) fun v1 => ?_)))))
 refine sv tb rfl rfl rfl rfl (Zy ?_)
 refine kw (lz [0, 2, 3] (env' := [(_, _), (_, _), (_, _)]) rfl) ?_
 refine nx (Za (Za ?_))
 refine tw (fun h => ZO hS h (m := 0) (s := 5) rfl) ?_
 refine rgo tb hJ [0, 1, 2, 1000] [_] [] [(_, _), (_, _), (_, _), (_, .int (0 : Int))] rfl rfl rfl rfl trivial (nx (Ze (Zw (ι := Nat × (List Pr)) (fun (ii' : Nat × (List Pr)) a w => match ii' with | (k, out) => ((k ≤ ws.length) ∧ (out = (ws.take k).foldl QI []) ∧ (out.length ≤ k)) ∧ St All (SO S []) w0 34 [(0, .rd (YG ws)), (1, .rd (YG zs)), (6, .int k), (5, .rd (YG out))] (XO J S w0.heap.size []) a w) (fun (ii' : Nat × (List Pr)) => match ii' with | (k, _) => (ws.length - k : Nat)) ?_ ?_)))
 intro a w h
 exact ⟨(0, []), (show (0 ≤ ws.length) ∧ (([]) = (ws.take 0).foldl QI []) ∧ (([]).length ≤ 0) from ⟨Nat.zero_le _, by simp, by simp⟩), lz [1, 2, 3, 0] rfl h⟩
 rintro ⟨k, out⟩
 refine ZD fun hF => ?_
 obtain ⟨f1_1, f1_2, f1_3⟩ := hF
 refine Za (Za (rgo tb hJ [0, 1, 2, 3, 1003] [_, _, .int ws.length, _] [2] [(_, _), (_, _), (_, _), (_, _), (_, .bool (decide ((k : Int) < (ws.length : Int))))] rfl rfl rfl rfl ⟨Ys Z1 rfl rfl rfl rfl, trivial⟩ (nx (Zf (fun a w h => Zj h 3 rfl) fun hl3 => tc 4 rfl rfl (fun hb1 => ?_) (fun hb1 => ?_)))))
 try simp at hb1
 refine Zd (nx (Za (Ze (rgo tb hJ [0, 1, 2, 1005, 1006] [_, _, _, .ptr (prC (ge ws k)), _, _, _] [3, 5] [(_, _), (_, _), (_, _), (_, .rd (YG (QI out (ge ws k)))), (_, .rd (YG (QI out (ge ws k))))] rfl rfl rfl rfl ⟨hIx ZH (by first | omega | (simp; omega) | grind [Zb]) rfl rfl rfl rfl rfl rfl, hFo hS hJ (c_put hJ (l := out) (p := (ge ws k)) (by exact Nat.le_trans (Nat.mul_le_mul_right 32 (by omega)) b)) Zhe rfl rfl rfl rfl, trivial⟩ (nx (Zf (fun a w h => Zj h 3 rfl) fun hl4 => rgo tb hJ [0, 1, 4, 1002] [_, .int ((k + 1 : Nat) : Int), _] [1] [(_, _), (_, _), (_, _), (_, .int ((k + 1 : Nat) : Int))] rfl rfl rfl rfl ⟨Yc (by first | omega | (simp; omega) | grind [Zb]) rfl rfl rfl rfl rfl, trivial⟩ ?_))))))
 intro a w h; change ∃ j, _ ∧ _
 exact ⟨(k + 1, (QI out (ge ws k))), ⟨⟨(show (k + 1) ≤ ws.length from by omega), (show (QI out (ge ws k)) = (ws.take (k + 1)).foldl QI [] from by rw [f1_2, Zcu (by omega)]), (show (QI out (ge ws k)).length ≤ (k + 1) from by have := ZgI out (ge ws k); omega)⟩, lz [0, 1, 3, 2] rfl h⟩, (show ws.length - (k + 1) < ws.length - k from by first | omega | (simp; omega))⟩
 try simp at hb1
 refine Zv (nx (Za (Za (rgo tb hJ [1, 3, 1000] [_] [] [(_, _), (_, _), (_, .int (0 : Int))] rfl rfl rfl rfl trivial (nx (Ze (Zw (ι := Nat × (List Pr)) (fun (ii' : Nat × (List Pr)) a w => match ii' with | (j, out2) => ((j ≤ zs.length) ∧ (out2 = (ws ++ zs.take j).foldl QI []) ∧ (out2.length ≤ ws.length + j)) ∧ St All (SO S []) w0 34 [(1, .rd (YG zs)), (7, .int j), (5, .rd (YG out2))] (XO J S w0.heap.size []) a w) (fun (ii' : Nat × (List Pr)) => match ii' with | (j, _) => (zs.length - j : Nat)) ?_ ?_)))))))
 intro a w h
 exact ⟨(0, out), (show (0 ≤ zs.length) ∧ (out = (ws ++ zs.take 0).foldl QI []) ∧ (out.length ≤ ws.length + 0) from ⟨Nat.zero_le _, by rw [f1_2, Zp (by omega)]; simp, by omega⟩), lz [0, 2, 1] rfl h⟩
 rintro ⟨j, out2⟩
 refine ZD fun hF => ?_
 obtain ⟨f2_1, f2_2, f2_3⟩ := hF
 refine Za (Za (rgo tb hJ [0, 1, 2, 1003] [_, _, .int zs.length, _] [2] [(_, _), (_, _), (_, _), (_, .bool (decide ((j : Int) < (zs.length : Int))))] rfl rfl rfl rfl ⟨Ys Z1 rfl rfl rfl rfl, trivial⟩ (nx (Zf (fun a w h => Zj h 2 rfl) fun hl5 => tc 3 rfl rfl (fun hb2 => ?_) (fun hb2 => ?_)))))
 try simp at hb2
 refine Zd (nx (Za (Ze (rgo tb hJ [0, 1, 1005, 1006] [_, _, _, .ptr (prC (ge zs j)), _, _, _] [3, 5] [(_, _), (_, _), (_, .rd (YG (QI out2 (ge zs j)))), (_, .rd (YG (QI out2 (ge zs j))))] rfl rfl rfl rfl ⟨hIx ZH (by first | omega | (simp; omega) | grind [Zb]) rfl rfl rfl rfl rfl rfl, hFo hS hJ (c_put hJ (l := out2) (p := (ge zs j)) (by exact Nat.le_trans (Nat.mul_le_mul_right 32 (by omega)) b)) Zhe rfl rfl rfl rfl, trivial⟩ (nx (Zf (fun a w h => Zj h 2 rfl) fun hl6 => rgo tb hJ [0, 3, 1002] [_, .int ((j + 1 : Nat) : Int), _] [1] [(_, _), (_, _), (_, .int ((j + 1 : Nat) : Int))] rfl rfl rfl rfl ⟨Yc (by first | omega | (simp; omega) | grind [Zb]) rfl rfl rfl rfl rfl, trivial⟩ ?_))))))
 intro a w h; change ∃ j, _ ∧ _
 exact ⟨(j + 1, (QI out2 (ge zs j))), ⟨⟨(show (j + 1) ≤ zs.length from by omega), (show (QI out2 (ge zs j)) = (ws ++ zs.take (j + 1)).foldl QI [] from by rw [f2_2, ZS (by omega), ← List.append_assoc]; simp only [List.foldl_append, List.foldl_cons, List.foldl_nil]), (show (QI out2 (ge zs j)).length ≤ ws.length + (j + 1) from by have := ZgI out2 (ge zs j); omega)⟩, lz [0, 2, 1] rfl h⟩, (show zs.length - (j + 1) < zs.length - j from by first | omega | (simp; omega))⟩
 try simp at hb2
 refine Zv (nx (Za (rgo tb hJ [1001] [_, _] [] [(_, .rd (YG out2))] rfl rfl rfl rfl trivial (nx (Zi (fun a w h => Zh (m := 0) rfl (Zl h) rfl (congrArg (fun z => AV.rd (YG z)) (show out2 = (ZbJ ws zs) from by rw [f2_2, Zp (xs := zs) (by omega)]; rfl))))))))
end Go.Proofs.YtnpgmdffjemnbaaGreatDoor
set_option maxHeartbeats 8000000
set_option maxRecDepth 100000
namespace Go.Proofs.YtnpgmdffjemnbaaGreatDoor
open Go.RowKit

theorem Zfh {J : World → Prop} (hJ : Stab J) (d : Db) (k : Nat) (y : Hy) (bs : List Hy) (dm : Bool) (hk0 : k < d.frames.length) (hf : d.frames.length ≤ 400) (hz : ∀ i, i < k + 1 → (ge d.frames i).hyps.length ≤ 40 ∧ (ge d.frames i).dummies.length ≤ 40) (hb : bs.length ≤ 80) : Fn Tryz.prog J 110 [.agg (dbC d), .int k, .agg (hyC y), .rd (Z4 bs), .bool dm] (.int (Qf d k y bs dm)) := by
 refine Zx (N := 206) Tryz.func110 rfl rfl (lb rfl) fun S w0 hS hJ0 => ?_
 refine tw Yi ?_
 refine Zf (fun a w h => Zj h 3 rfl) fun hl1 => Za (rgo tb hJ [1, 3, 4, 1000, 1001] [_, _, _] [0, 1] [(_, _), (_, _), (_, _), (_, .ptr (dbC d)), (_, .ptr (hyC y))] rfl rfl rfl rfl ⟨fun _ _ hk hx hl _ => Yv rfl (hl.env 0 0 _ rfl rfl) (Zr hS _ hk hx _ (Nat.le_refl _)) (jo hJ hx), fun _ _ hk hx hl _ => Yv rfl (hl.env 2 2 _ rfl rfl) (Zr hS _ hk hx _ (Nat.le_refl _)) (jo hJ hx), trivial⟩ (nx (Za (rgo tb hJ [0, 1, 2, 3, 4, 1001, 1003] [_, _, .int y.text.length, _] [2] [(_, _), (_, _), (_, _), (_, _), (_, _), (_, .rd (Zg y.text)), (_, .int y.text.length)] rfl rfl rfl rfl ⟨Ys ZB rfl rfl rfl rfl, trivial⟩ (nx (Zf (fun a w h => Zj h 5 rfl) fun hl2 => Za (Za (rgo tb hJ [0, 1, 3, 4, 1032] [_, _, .bool (Q8 y.label), _, _, _, _, _, _, _, _, _, _, _, _, _, _, _, _, _, _, _, _, _, _, _, _, _, _, _, _, _, _] [2] [(_, _), (_, _), (_, _), (_, _), (_, .bool ((((!(Q8 y.label)) || (dm && (!y.floating))) || (y.floating && (!decide ((y.text.length : Int) = (2 : Int))))) || ((!y.floating) && ((decide ((y.text.length : Int) = (0 : Int))) || (decide ((200 : Int) < (y.text.length : Int)))))))] rfl rfl rfl rfl ⟨hFo hS hJ (ZcL hJ (s := y.label) ) Zec rfl rfl rfl rfl, trivial⟩ (nx (tc 4 rfl rfl (fun hb1 => ?_) (fun hb1 => ?_)))))))))))
 ·
  replace hb1 : Qv y dm = true := hb1
  refine Za (rgo tb hJ [1000] [_] [] [(_, .int (2 : Int))] rfl rfl rfl rfl trivial (nx (Zi (fun a w h => Zh (m := 0) rfl (Zl h) rfl (congrArg AV.int (show (2 : Int) = (Qf d k y bs dm) from by clear h; subst_vars; grind [Qf]))))))
 ·
  replace hb1 : Qv y dm = false := hb1
  have hy1 := Ze6 hb1
  refine Zd (nx (Za (rgo tb hJ [0, 1, 2, 3, 1009] [_, _, .int ((k + 1 : Nat) : Int), _, _, .tup [.bool (frL d (k + 1) y.label), .bool (hyL d (k + 1) y.label)], _, _, _, _, _] [2, 5] [(_, _), (_, _), (_, _), (_, _), (_, .bool (frL d (k + 1) y.label))] rfl rfl rfl rfl ⟨Yc (by first | omega | (simp; omega) | grind [Zb]) rfl rfl rfl rfl rfl, hFo hS hJ (Zgb hJ (d := d) (n := (k + 1)) (s := y.label) (by first | omega | (simp; omega) | grind [Zb]) (hz)) Zeb rfl rfl rfl rfl, trivial⟩ (nx (Za (Za (rgo tb hJ [0, 1, 2, 3, 1006] [_, _, _, _, _, .bool (Zag d y.label), _] [5] [(_, _), (_, _), (_, _), (_, _), (_, .bool ((frL d (k + 1) y.label) || (Zag d y.label)))] rfl rfl rfl rfl ⟨fun _ _ hk hx hl hc => Qk (Zed hJ (d := d) (s := y.label) ) Zea rfl (Zr hS _ hk hx) (hx.1) (Zc (hl.dep 2 69 _ rfl rfl rfl hc) (Zc (hl.dep 4 71 _ rfl rfl rfl hc) Zm)) (jo hJ hx), trivial⟩ (nx (tc 4 rfl rfl (fun hb2 => ?_) (fun hb2 => ?_))))))))))
  ·
   replace hb2 : (frL d (k + 1) y.label || Zag d y.label) = true := hb2
   refine Za (rgo tb hJ [1000] [_] [] [(_, .int (6 : Int))] rfl rfl rfl rfl trivial (nx (Zi (fun a w h => Zh (m := 0) rfl (Zl h) rfl (congrArg AV.int (show (6 : Int) = (Qf d k y bs dm) from by clear h; subst_vars; grind [Qf]))))))
  ·
   replace hb2 : (frL d (k + 1) y.label || Zag d y.label) = false := hb2
   refine Zd (nx (Za (Za (rgo tb hJ [0, 1, 2, 3, 1000] [_] [] [(_, _), (_, _), (_, _), (_, _), (_, .int (0 : Int))] rfl rfl rfl rfl trivial (nx (Ze (Zw (ι := Nat) (fun (j : Nat) a w => ((j ≤ bs.length) ∧ ((bs.take j).any (ZfT y) = false)) ∧ St All (SO S []) w0 206 [(1, .int k), (3, .rd (Z4 bs)), (5, .ptr (dbC d)), (7, .ptr (hyC y)), (14, .int j)] (XO J S w0.heap.size []) a w) (fun (j : Nat) => (bs.length - j : Nat)) ?_ ?_)))))))
   ·
    intro a w h
    exact ⟨0, (show (0 ≤ bs.length) ∧ ((bs.take 0).any (ZfT y) = false) from ⟨Nat.zero_le _, rfl⟩), lz [0, 1, 2, 3, 4] rfl h⟩
   ·
    rintro j
    refine ZD fun hF => ?_
    obtain ⟨f1_1, f1_2⟩ := hF
    refine Za (Za (rgo tb hJ [0, 1, 2, 3, 4, 1003] [_, _, .int bs.length, _] [2] [(_, _), (_, _), (_, _), (_, _), (_, _), (_, .bool (decide ((j : Int) < (bs.length : Int))))] rfl rfl rfl rfl ⟨Ys ZC rfl rfl rfl rfl, trivial⟩ (nx (tc 5 rfl rfl (fun hb3 => ?_) (fun hb3 => ?_)))))
    ·
     try simp at hb3
     refine Zd (nx (Za (Ze (Za (rgo tb hJ [0, 1, 2, 3, 4, 1007] [_, _, .ptr (hyC (ge bs j)), _, _, _, _, _] [2] [(_, _), (_, _), (_, _), (_, _), (_, _), (_, .bool (decide (((ge bs j).label) = y.label)))] rfl rfl rfl rfl ⟨hIx Zt (by first | omega | (simp; omega) | grind [Zb]) rfl rfl rfl rfl rfl rfl, trivial⟩ (nx (tc 5 rfl rfl (fun hb4 => ?_) (fun hb4 => ?_))))))))
     ·
      try simp at hb4
      have q4 := Qj (p := ZfT y) (xs := bs) (k := j) (by omega) (by simpa [ZfT] using hb4)
      refine Za (rgo tb hJ [1000] [_] [] [(_, .int (6 : Int))] rfl rfl rfl rfl trivial (nx (Zi (fun a w h => Zh (m := 0) rfl (Zl h) rfl (congrArg AV.int (show (6 : Int) = (Qf d k y bs dm) from by clear h; subst_vars; grind [Qf]))))))
     ·
      try simp at hb4
      refine Zd (nx (rgo tb hJ [0, 1, 2, 3, 1002] [_, .int ((j + 1 : Nat) : Int), _] [1] [(_, _), (_, _), (_, _), (_, _), (_, .int ((j + 1 : Nat) : Int))] rfl rfl rfl rfl ⟨Yc (by first | omega | (simp; omega) | grind [Zb]) rfl rfl rfl rfl rfl, trivial⟩ ?_))
      intro a w h; change ∃ j, _ ∧ _
      exact ⟨j + 1, ⟨⟨(show (j + 1) ≤ bs.length from by omega), (show (bs.take (j + 1)).any (ZfT y) = false from XH (by omega) f1_2 (by simpa [ZfT] using hb4))⟩, lz [0, 1, 2, 3, 4] rfl h⟩, (show bs.length - (j + 1) < bs.length - j from by first | omega | (simp; omega))⟩
    ·
     try simp at hb3
     have e3 := XG (p := ZfT y) f1_2 (by omega)
     refine Zv (nx (Za (Za (rgo tb hJ [0, 1, 2, 3, 1021] [_, _, _, _, _, _, _, .ptr [.lit (.string (ge y.text 0))], _, .bool (decide ((ge y.text 0) ∈ d.consts)), _, _, _, _, _, _, .ptr [.lit (.string (ge y.text 1))], _, .bool (decide ((ge y.text 1) ∈ d.vars)), _, _, _] [7, 9, 16, 18] [(_, _), (_, _), (_, _), (_, _), (_, .bool (y.floating && ((!(decide ((ge y.text 0) ∈ d.consts))) || (!(decide ((ge y.text 1) ∈ d.vars))))))] rfl rfl rfl rfl ⟨fun _ _ _ hx hl hc => ZI (i := ((0 : Nat) : Int)) Zk rfl (hl.dep 6 94 _ rfl rfl rfl hc) (Rel.of_lit (Go.Value.int Go.IntKind.i64 0)) (Int.natCast_nonneg _) (ZL (xs := y.text) (k := 0) (by have hc' : (y.floating == true) = true := hc; (try simp at hc'); (omega))) rfl hx, fun _ _ hk hx hl hc => Qk (Zax hJ (xs := d.consts) (s := (ge y.text 0)) ) YN rfl (Zr hS _ hk hx) (hx.1) (Zc (hl.dep 4 92 _ rfl rfl rfl hc) (Zc (hl.dep 8 96 _ rfl rfl rfl hc) Zm)) (jo hJ hx), fun _ _ _ hx hl hc => ZI (i := ((1 : Nat) : Int)) Zk rfl (hl.dep 15 103 _ rfl rfl rfl hc) (Rel.of_lit (Go.Value.int Go.IntKind.i64 1)) (Int.natCast_nonneg _) (ZL (xs := y.text) (k := 1) (by have hc' : ((y.floating == true) && ((!(decide ((ge y.text 0) ∈ d.consts))) == false)) = true := hc; (try simp at hc'); (have := Yl hb1 (by simp_all); omega))) rfl hx, fun _ _ hk hx hl hc => Qk (Zax hJ (xs := d.vars) (s := (ge y.text 1)) ) YN rfl (Zr hS _ hk hx) (hx.1) (Zc (hl.dep 13 101 _ rfl rfl rfl hc) (Zc (hl.dep 17 105 _ rfl rfl rfl hc) Zm)) (jo hJ hx), trivial⟩ (nx (tc 4 rfl rfl (fun hb5 => ?_) (fun hb5 => ?_)))))))
     ·
      replace hb5 : Zdp d y = true := hb5
      refine Za (rgo tb hJ [1000] [_] [] [(_, .int (12 : Int))] rfl rfl rfl rfl trivial (nx (Zi (fun a w h => Zh (m := 0) rfl (Zl h) rfl (congrArg AV.int (show (12 : Int) = (Qf d k y bs dm) from by clear h; subst_vars; grind [Qf]))))))
     ·
      replace hb5 : Zdp d y = false := hb5
      refine Zd (nx (Za (Za (rgo tb hJ [0, 1, 2, 3, 1002] [_, _, _] [] [(_, _), (_, _), (_, _), (_, _), (_, .bool (!y.floating))] rfl rfl rfl rfl trivial (nx (tc 4 rfl rfl (fun hb6 => ?_) (fun hb6 => ?_)))))))
      ·
       try simp at hb6
       refine Za (rgo tb hJ [0, 1, 2, 3, 1004] [_, _, _, .int (XJ d y.text), _] [3] [(_, _), (_, _), (_, _), (_, _), (_, .int (XJ d y.text))] rfl rfl rfl rfl ⟨hFo hS hJ (Zfi hJ (d := d) (l := y.text) (by first | omega | (simp; omega) | grind [Zb])) Zhl rfl rfl rfl rfl, trivial⟩ (nx (Za (rgo tb hJ [0, 1, 2, 3, 4, 1001] [_, _] [] [(_, _), (_, _), (_, _), (_, _), (_, _), (_, .bool (!decide (XJ d y.text = (0 : Int))))] rfl rfl rfl rfl trivial (nx (tc 5 rfl rfl (fun hb7 => ?_) (fun hb7 => ?_)))))))
       ·
        refine Za (rgo tb hJ [1001] [_, _] [] [(_, .int (XJ d y.text))] rfl rfl rfl rfl trivial (nx (Zi (fun a w h => Zh (m := 0) rfl (Zl h) rfl (congrArg AV.int (show (XJ d y.text) = (Qf d k y bs dm) from by clear h; subst_vars; grind [Qf]))))))
       ·
        refine Zd (nx (Za (Zn (XM Zt hJ rfl rfl rfl (lb rfl) fun v1 => ?_))))
        refine sv tb rfl rfl rfl rfl (Zy ?_)
        refine kw (lz [0, 2, 3, 4, 5] (env' := [(_, _), (_, _), (_, _), (_, _), (_, _)]) rfl) ?_
        refine nx (Za (Za (rgo tb hJ [0, 1, 2, 3, 4, 1000] [_] [] [(_, _), (_, _), (_, _), (_, _), (_, _), (_, .int (0 : Int))] rfl rfl rfl rfl trivial (nx (Ze (Zw (ι := Nat × Value × (List Hy)) (fun (ii' : Nat × Value × (List Hy)) a w => match ii' with | (i, vo, others) => ((i ≤ k) ∧ (others = oth d i) ∧ (others.length ≤ 80 * i)) ∧ St All (SO S [OB.row vo 109 3 (others.map hyC)]) w0 206 [(1, .int k), (3, .rd (Z4 bs)), (5, .ptr (dbC d)), (7, .ptr (hyC y)), (17, .int i), (16, .lit vo)] (XO J S w0.heap.size [OB.row vo 109 3 (others.map hyC)]) a w) (fun (ii' : Nat × Value × (List Hy)) => match ii' with | (i, _, _) => (k - i : Nat)) ?_ ?_))))))
        ·
         intro a w h
         exact ⟨(0, v1, ([] : List Hy)), (show (0 ≤ k) ∧ (([] : List Hy) = oth d 0) ∧ (([] : List Hy).length ≤ 80 * 0) from ⟨Nat.zero_le _, rfl, Nat.zero_le _⟩), lz [1, 2, 3, 4, 5, 0] rfl h⟩
        ·
         rintro ⟨i, vo, others⟩
         refine ZD fun hF => ?_
         obtain ⟨f2_1, f2_2, f2_3⟩ := hF
         refine Za (Za (rgo tb hJ [0, 1, 2, 3, 4, 5, 1002] [_, _, _] [] [(_, _), (_, _), (_, _), (_, _), (_, _), (_, _), (_, .bool (decide ((i : Int) < (k : Int))))] rfl rfl rfl rfl trivial (nx (tc 6 rfl rfl (fun hb8 => ?_) (fun hb8 => ?_)))))
         ·
          try simp at hb8
          refine Zd (nx (Za (Ze (Zn (sv tb rfl rfl rfl rfl (sv (av := .ptr [Yn d.frames]) tb rfl rfl rfl rfl (sv (av := .rd (Yn d.frames)) tb rfl rfl rfl rfl (sv tb rfl rfl rfl rfl (sq (.ptr (frC (ge d.frames i))) rfl rfl (lb rfl) (fun _ _ h => ZI (i := (i : Int)) Ye rfl (h.get 1 rfl) (h.get 0 rfl) (Int.natCast_nonneg _) (ZL (xs := d.frames) (k := i) (by first | omega | (simp; omega) | grind [Zb])) rfl h.x) (sv (av := .agg (frC (ge d.frames i))) tb rfl rfl rfl rfl (sq (.rd (Z4 ((ge d.frames i).hyps ++ (ge d.frames i).dummies))) rfl rfl (lb rfl) (fun _ _ h => Qk (Zmu hJ (f := (ge d.frames i)) (by have := hz i (by omega); omega)) ZbZ rfl (Zr hS _ h.keep h.x) (h.x.1) (Zc (h.get 0 rfl) Zm) (jo hJ h.x)) (ZR (f := hyC) (m := 6) (s := 126) others ((ge d.frames i).hyps ++ (ge d.frames i).dummies) (fun _ => rfl) Xz hJ hJ0 rfl rfl rfl (lb rfl) rfl rfl (fun a w h => (h.get 0 rfl)) (by first | (have := hz i (by omega); simp; omega) | (have := hz i (by omega); refine Xq ?_; simp; omega)) (by first | (have := hz i (by omega); simp; omega) | (have := hz i (by omega); refine Xq ?_; simp; omega)) fun v2 => ?_))))))))))))
          refine sv tb rfl rfl rfl rfl (Zy ?_)
          refine kw (lz [0, 2, 6, 9, 10, 11, 12, 13] (env' := [(_, _), (_, _), (_, _), (_, _), (_, _), (_, _), (_, _), (_, _)]) rfl) ?_
          refine nx (Zf (fun a w h => Zj h 1 rfl) fun hl3 => Zf (fun a w h => Zj h 2 rfl) fun hl4 => rgo tb hJ [0, 3, 4, 5, 6, 1002] [_, .int ((i + 1 : Nat) : Int), _] [1] [(_, _), (_, _), (_, _), (_, _), (_, _), (_, .int ((i + 1 : Nat) : Int))] rfl rfl rfl rfl ⟨Yc (by first | omega | (simp; omega) | grind [Zb]) rfl rfl rfl rfl rfl, trivial⟩ ?_)
          intro a w h; change ∃ j, _ ∧ _
          exact ⟨(i + 1, v2, others ++ ((ge d.frames i).hyps ++ (ge d.frames i).dummies)), ⟨⟨(show (i + 1) ≤ k from by omega), (show (others ++ ((ge d.frames i).hyps ++ (ge d.frames i).dummies)) = oth d (i + 1) from by rw [Zak (by omega), f2_2]), (show (others ++ ((ge d.frames i).hyps ++ (ge d.frames i).dummies)).length ≤ 80 * (i + 1) from by have := hz i (by omega); simp; omega)⟩, lz [1, 2, 3, 4, 5, 0] rfl h⟩, (show k - (i + 1) < k - i from by first | omega | (simp; omega))⟩
         ·
          try simp at hb8
          have hik : i = k := by omega
          rw [hik] at f2_2 f2_3
          refine Zv (nx (Za (Za ?_)))
          refine tw (fun h => ZO hS h (m := 5) (s := 16) rfl) ?_
          refine rgo tb hJ [0, 2, 4, 1001] [_, _] [] [(_, _), (_, _), (_, _), (_, .bool y.floating)] rfl rfl rfl rfl trivial (nx (Zf (fun a w h => Zj h 0 rfl) fun hl5 => tc 3 rfl rfl (fun hb9 => ?_) (fun hb9 => ?_)))
          ·
           try simp at hb9
           have hy2 := Yl hb1 hb9
           refine Za ?_
           refine fun a w h => Qp (id := 24) (t := 56) (e := 109) (size := 3) (bytes := 48) (i0 := 0) (fol := 5) (d := 18) (ch := [(2, (others.map hyC)), (4, (bs.map hyC))]) (fun ix' => ([.any, .rd (Z4 others), .any, .rd (Z4 bs), .any, .any] : List AV).getD ix' .any) (fun ix' => ([true, true, true, true, true, true] : List Bool).getD ix' true) [(0, 16, .rd (Z4 others)), (1, 3, .rd (Z4 bs)), (2, 7, .ptr (hyC y))] ((others ++ bs).map hyC) (by simp) ?r24_1 hJ hJ0 h Y0 rfl rfl rfl rfl ⟨?o24_1_0, ⟨?o24_1_1, ⟨?o24_1_2, ⟨?o24_1_3, ⟨?o24_1_4, ⟨?o24_1_5, trivial⟩⟩⟩⟩⟩⟩ ⟨rfl, rfl, ⟨rfl, rfl, ⟨rfl, rfl, trivial⟩⟩⟩ (fun v3 => ?n24_1)
           case r24_1 =>
            refine Row.mk' Xz ⟨_, rfl, rfl, rfl, rfl, rfl⟩ ⟨?x24_1_0, ⟨?x24_1_1, trivial⟩⟩ ⟨_, _, _, _, rfl, rfl, rfl, rfl, rfl, rfl, rfl, rfl, rfl⟩ rfl rfl rfl
            case x24_1_0 => exact ⟨_, _, _, _, rfl, rfl, rfl, rfl, rfl, rfl, rfl, rfl, Y5 (f := hyC) (fun _ => rfl), (by have hm : maxLen = 9223372036854775807 := rfl; simp [upto]; first | (have := hz i (by omega); simp; omega) | (have := hz i (by omega); refine Xq ?_; simp; omega)), (by have hm : maxLen = 9223372036854775807 := rfl; simp [upto]; first | (have := hz i (by omega); simp; omega) | (have := hz i (by omega); refine Xq ?_; simp; omega)), fun _ _ _ _ _ hl => (hl.dep 1 137 _ rfl rfl rfl rfl)⟩
            case x24_1_1 => exact ⟨_, _, _, _, rfl, rfl, rfl, rfl, rfl, rfl, rfl, rfl, Y5 (f := hyC) (fun _ => rfl), (by have hm : maxLen = 9223372036854775807 := rfl; simp [upto]; first | (have := hz i (by omega); simp; omega) | (have := hz i (by omega); refine Xq ?_; simp; omega)), (by have hm : maxLen = 9223372036854775807 := rfl; simp [upto]; first | (have := hz i (by omega); simp; omega) | (have := hz i (by omega); refine Xq ?_; simp; omega)), fun _ _ _ _ _ hl => (hl.dep 3 139 _ rfl rfl rfl rfl)⟩
           case o24_1_0 => exact fun h => Zs rfl h
           case o24_1_1 => exact fun _ _ => ⟨rfl, fun _ _ _ hx hl _ => Yj rfl (hl.env 0 16 _ rfl rfl) hx⟩
           case o24_1_2 => exact fun h => Zs rfl h
           case o24_1_3 => exact fun _ _ => ⟨rfl, fun _ _ _ hx hl _ => Yj rfl (hl.env 1 3 _ rfl rfl) hx⟩
           case o24_1_4 => exact fun h => Zs rfl h
           case o24_1_5 => exact fun h => Zs rfl h
           clear a w h
           refine nx (Za (Za ?_))
           refine tw (fun h => ZO hS h (m := 0) (s := 18) rfl) ?_
           refine rgo tb hJ [0, 1, 2, 3, 1000] [_] [] [(_, _), (_, _), (_, _), (_, _), (_, .int (0 : Int))] rfl rfl rfl rfl trivial (nx (Zf (fun a w h => Zj h 0 rfl) fun hl6 => Ze (Zw (ι := Nat) (fun (j : Nat) a w => ((j ≤ (others ++ bs).length) ∧ (((others ++ bs).take j).any (Zc1 y) = false)) ∧ St All (SO S []) w0 206 [(18, .rd (Z4 (others ++ bs))), (16, .rd (Z4 others)), (3, .rd (Z4 bs)), (7, .ptr (hyC y)), (19, .int j)] (XO J S w0.heap.size []) a w) (fun (j : Nat) => ((others ++ bs).length - j : Nat)) ?_ ?_)))
           ·
            intro a w h
            exact ⟨0, (show (0 ≤ (others ++ bs).length) ∧ (((others ++ bs).take 0).any (Zc1 y) = false) from ⟨Nat.zero_le _, rfl⟩), lz [0, 1, 2, 3, 4] rfl h⟩
           ·
            rintro j
            refine ZD fun hF => ?_
            obtain ⟨f3_1, f3_2⟩ := hF
            refine Za (Za (rgo tb hJ [0, 1, 2, 3, 4, 1003] [_, _, .int (((others ++ bs).length : Nat) : Int), _] [2] [(_, _), (_, _), (_, _), (_, _), (_, _), (_, .bool (decide ((j : Int) < (((others ++ bs).length : Nat) : Int))))] rfl rfl rfl rfl ⟨Ys ZC rfl rfl rfl rfl, trivial⟩ (nx (tc 5 rfl rfl (fun hb10 => ?_) (fun hb10 => ?_)))))
            ·
             try simp at hb10
             refine Zd (nx (Za (Ze (Za (rgo tb hJ [0, 1, 2, 3, 4, 1006, 1021] [_, _, .ptr (hyC (ge (others ++ bs) j)), _, _, _, _, .bool (ofB (ge (others ++ bs) j) (y.text.drop 1)), _, _, _, .ptr (hyC (ge (others ++ bs) j)), _, _, .ptr [.lit (.string (ge ((ge (others ++ bs) j).text) 0))], _, _, _, .ptr [.lit (.string (ge y.text 0))], _, _, _] [2, 6, 7, 11, 14, 18] [(_, _), (_, _), (_, _), (_, _), (_, _), (_, .rd (Zg (y.text.drop 1))), (_, .bool ((ofB (ge (others ++ bs) j) (y.text.drop 1)) && (!decide ((ge ((ge (others ++ bs) j).text) 0) = (ge y.text 0)))))] rfl rfl rfl rfl ⟨hIx Zt (by first | omega | (simp; omega) | grind [Zb]) rfl rfl rfl rfl rfl rfl, fun _ _ _ hx hl _ => Xb (ys := y.text.drop 1) (lo := 1) (hi := y.text.length) (by rw [List.take_length]) Zk (fun _ => rfl) rfl (hl.dep 5 152 _ rfl rfl rfl rfl) (Rel.of_lit (Go.Value.int Go.IntKind.i64 1)) rfl (by first | omega | (simp; omega) | grind [Zb]) (by first | omega | (simp; omega) | grind [Zb]) hx, hFo hS hJ (c_of hJ (y := (ge (others ++ bs) j)) (vs := (y.text.drop 1)) ) Za9 rfl rfl rfl rfl, fun _ _ _ hx hl hc => ZI (i := (j : Int)) Zt rfl (hl.dep 9 156 _ rfl rfl rfl hc) (hl.dep 10 157 _ rfl rfl rfl hc) (Int.natCast_nonneg _) (ZL (xs := others ++ bs) (k := j) (by have hc' : ((ofB (ge (others ++ bs) j) (y.text.drop 1)) == true) = true := hc; (try simp at hc'); (first | omega | (simp; omega) | grind [Zb]))) rfl hx, fun _ _ _ hx hl hc => ZI (i := ((0 : Nat) : Int)) Zk rfl (hl.dep 13 160 _ rfl rfl rfl hc) (Rel.of_lit (Go.Value.int Go.IntKind.i64 0)) (Int.natCast_nonneg _) (ZL (xs := (ge (others ++ bs) j).text) (k := 0) (by have hc' : ((ofB (ge (others ++ bs) j) (y.text.drop 1)) == true) = true := hc; (try simp at hc'); (have := Zja hc'; omega))) rfl hx, fun _ _ _ hx hl hc => ZI (i := ((0 : Nat) : Int)) Zk rfl (hl.dep 17 164 _ rfl rfl rfl hc) (Rel.of_lit (Go.Value.int Go.IntKind.i64 0)) (Int.natCast_nonneg _) (ZL (xs := y.text) (k := 0) (by have hc' : ((ofB (ge (others ++ bs) j) (y.text.drop 1)) == true) = true := hc; (try simp at hc'); (first | omega | (simp; omega) | grind [Zb]))) rfl hx, trivial⟩ (nx (Zf (fun a w h => Zj h 5 rfl) fun hl7 => tc 6 rfl rfl (fun hb11 => ?_) (fun hb11 => ?_))))))))
             ·
              try simp at hb11
              have q11 := Qj (p := Zc1 y) (xs := others ++ bs) (k := j) (by simp; omega) (by simpa [Zc1] using hb11)
              refine Za (rgo tb hJ [1000] [_] [] [(_, .int (11 : Int))] rfl rfl rfl rfl trivial (nx (Zi (fun a w h => Zh (m := 0) rfl (Zl h) rfl (congrArg AV.int (show (11 : Int) = (Qf d k y bs dm) from by clear h; subst_vars; grind [Qf]))))))
             ·
              try simp at hb11
              refine Zd (nx (rgo tb hJ [0, 1, 2, 3, 1002] [_, .int ((j + 1 : Nat) : Int), _] [1] [(_, _), (_, _), (_, _), (_, _), (_, .int ((j + 1 : Nat) : Int))] rfl rfl rfl rfl ⟨Yc (by first | omega | (simp; omega) | grind [Zb]) rfl rfl rfl rfl rfl, trivial⟩ ?_))
              intro a w h; change ∃ j, _ ∧ _
              exact ⟨j + 1, ⟨⟨(show (j + 1) ≤ (others ++ bs).length from by simp; omega), (show ((others ++ bs).take (j + 1)).any (Zc1 y) = false from XH (by simp; omega) f3_2 (by simp [Zc1]; grind))⟩, lz [0, 1, 2, 3, 4] rfl h⟩, (show (others ++ bs).length - (j + 1) < (others ++ bs).length - j from by first | omega | (simp; omega))⟩
            ·
             try simp at hb10
             have e10 := XG (p := Zc1 y) f3_2 (by simp; omega)
             refine Zv (nx (Za (rgo tb hJ [1, 2, 3, 1000] [_] [] [(_, _), (_, _), (_, _), (_, .int (0 : Int))] rfl rfl rfl rfl trivial (nx (Ze (Zw (ι := Nat) (fun (j : Nat) a w => ((j ≤ bs.length) ∧ ((bs.take j).any (hOf y) = false)) ∧ St All (SO S []) w0 206 [(16, .rd (Z4 others)), (3, .rd (Z4 bs)), (7, .ptr (hyC y)), (20, .int j)] (XO J S w0.heap.size []) a w) (fun (j : Nat) => (bs.length - j : Nat)) ?_ ?_))))))
             ·
              intro a w h
              exact ⟨0, (show (0 ≤ bs.length) ∧ ((bs.take 0).any (hOf y) = false) from ⟨Nat.zero_le _, rfl⟩), lz [0, 1, 2, 3] rfl h⟩
             ·
              rintro j
              refine ZD fun hF => ?_
              obtain ⟨f4_1, f4_2⟩ := hF
              refine Za (Za (rgo tb hJ [0, 1, 2, 3, 1003] [_, _, .int bs.length, _] [2] [(_, _), (_, _), (_, _), (_, _), (_, .bool (decide ((j : Int) < (bs.length : Int))))] rfl rfl rfl rfl ⟨Ys ZC rfl rfl rfl rfl, trivial⟩ (nx (tc 4 rfl rfl (fun hb12 => ?_) (fun hb12 => ?_)))))
              ·
               try simp at hb12
               refine Zd (nx (Za (Ze (Za (rgo tb hJ [0, 1, 2, 3, 1006, 1007] [_, _, .ptr (hyC (ge bs j)), _, _, _, _, _] [2, 6, 7] [(_, _), (_, _), (_, _), (_, _), (_, .rd (Zg (y.text.drop 1))), (_, .bool (ofB (ge bs j) (y.text.drop 1)))] rfl rfl rfl rfl ⟨hIx Zt (by first | omega | (simp; omega) | grind [Zb]) rfl rfl rfl rfl rfl rfl, fun _ _ _ hx hl _ => Xb (ys := y.text.drop 1) (lo := 1) (hi := y.text.length) (by rw [List.take_length]) Zk (fun _ => rfl) rfl (hl.dep 5 180 _ rfl rfl rfl rfl) (Rel.of_lit (Go.Value.int Go.IntKind.i64 1)) rfl (by first | omega | (simp; omega) | grind [Zb]) (by first | omega | (simp; omega) | grind [Zb]) hx, hFo hS hJ (c_of hJ (y := (ge bs j)) (vs := (y.text.drop 1)) ) Za9 rfl rfl rfl rfl, trivial⟩ (nx (Zf (fun a w h => Zj h 4 rfl) fun hl8 => tc 5 rfl rfl (fun hb13 => ?_) (fun hb13 => ?_))))))))
               ·
                try simp at hb13
                have q13 := Qj (p := hOf y) (xs := bs) (k := j) (by omega) (by simpa [hOf] using hb13)
                refine Za (rgo tb hJ [1000] [_] [] [(_, .int (6 : Int))] rfl rfl rfl rfl trivial (nx (Zi (fun a w h => Zh (m := 0) rfl (Zl h) rfl (congrArg AV.int (show (6 : Int) = (Qf d k y bs dm) from by clear h; subst_vars; grind [Qf]))))))
               ·
                try simp at hb13
                refine Zd (nx (rgo tb hJ [0, 1, 2, 1002] [_, .int ((j + 1 : Nat) : Int), _] [1] [(_, _), (_, _), (_, _), (_, .int ((j + 1 : Nat) : Int))] rfl rfl rfl rfl ⟨Yc (by first | omega | (simp; omega) | grind [Zb]) rfl rfl rfl rfl rfl, trivial⟩ ?_))
                intro a w h; change ∃ j, _ ∧ _
                exact ⟨j + 1, ⟨⟨(show (j + 1) ≤ bs.length from by omega), (show (bs.take (j + 1)).any (hOf y) = false from XH (by omega) f4_2 (by simpa [hOf] using hb13))⟩, lz [0, 1, 2, 3] rfl h⟩, (show bs.length - (j + 1) < bs.length - j from by first | omega | (simp; omega))⟩
              ·
               try simp at hb12
               have e12 := XG (p := hOf y) f4_2 (by omega)
               refine Zv (nx (Za (Za (rgo tb hJ [0, 2, 1000] [_] [] [(_, _), (_, _), (_, .int (0 : Int))] rfl rfl rfl rfl trivial (nx (Ze (Zw (ι := Nat) (fun (j : Nat) a w => ((j ≤ others.length) ∧ ((others.take j).any (Zaa y) = false)) ∧ St All (SO S []) w0 206 [(16, .rd (Z4 others)), (7, .ptr (hyC y)), (21, .int j)] (XO J S w0.heap.size []) a w) (fun (j : Nat) => (others.length - j : Nat)) ?_ ?_)))))))
               ·
                intro a w h
                exact ⟨0, (show (0 ≤ others.length) ∧ ((others.take 0).any (Zaa y) = false) from ⟨Nat.zero_le _, rfl⟩), lz [0, 1, 2] rfl h⟩
               ·
                rintro j
                refine ZD fun hF => ?_
                obtain ⟨f5_1, f5_2⟩ := hF
                refine Za (Za (rgo tb hJ [0, 1, 2, 1003] [_, _, .int others.length, _] [2] [(_, _), (_, _), (_, _), (_, .bool (decide ((j : Int) < (others.length : Int))))] rfl rfl rfl rfl ⟨Ys ZC rfl rfl rfl rfl, trivial⟩ (nx (tc 3 rfl rfl (fun hb14 => ?_) (fun hb14 => ?_)))))
                ·
                 try simp at hb14
                 refine Zd (nx (Za (Ze (Za (rgo tb hJ [0, 1, 2, 1016] [_, _, .ptr (hyC (ge others j)), _, _, _, _, _, _, _, _, .ptr (hyC (ge others j)), _, _, .bool (Zc0 (ge others j) y), _, _] [2, 11, 14] [(_, _), (_, _), (_, _), (_, .bool ((decide (((ge others j).label) = y.label)) && (!(Zc0 (ge others j) y))))] rfl rfl rfl rfl ⟨hIx Zt (by first | omega | (simp; omega) | grind [Zb]) rfl rfl rfl rfl rfl rfl, fun _ _ _ hx hl hc => ZI (i := (j : Int)) Zt rfl (hl.dep 9 198 _ rfl rfl rfl hc) (hl.dep 10 199 _ rfl rfl rfl hc) (Int.natCast_nonneg _) (ZL (xs := others) (k := j) (by have hc' : ((decide (((ge others j).label) = y.label)) == true) = true := hc; (try simp at hc'); (first | omega | (simp; omega) | grind [Zb]))) rfl hx, fun _ _ hk hx hl hc => Qk (Zba hJ (x := (ge others j)) (y := y) ) ZbY rfl (Zr hS _ hk hx) (hx.1) (Zc (hl.dep 12 201 _ rfl rfl rfl hc) (Zc (hl.dep 13 202 _ rfl rfl rfl hc) Zm)) (jo hJ hx), trivial⟩ (nx (tc 3 rfl rfl (fun hb15 => ?_) (fun hb15 => ?_))))))))
                 ·
                  try simp at hb15
                  have q15 := Qj (p := Zaa y) (xs := others) (k := j) (by omega) (by simpa [Zaa] using hb15)
                  refine Za (rgo tb hJ [1000] [_] [] [(_, .int (6 : Int))] rfl rfl rfl rfl trivial (nx (Zi (fun a w h => Zh (m := 0) rfl (Zl h) rfl (congrArg AV.int (show (6 : Int) = (Qf d k y bs dm) from by clear h; subst_vars; grind [Qf]))))))
                 ·
                  try simp at hb15
                  refine Zd (nx (rgo tb hJ [0, 1, 1002] [_, .int ((j + 1 : Nat) : Int), _] [1] [(_, _), (_, _), (_, .int ((j + 1 : Nat) : Int))] rfl rfl rfl rfl ⟨Yc (by first | omega | (simp; omega) | grind [Zb]) rfl rfl rfl rfl rfl, trivial⟩ ?_))
                  intro a w h; change ∃ j, _ ∧ _
                  exact ⟨j + 1, ⟨⟨(show (j + 1) ≤ others.length from by omega), (show (others.take (j + 1)).any (Zaa y) = false from XH (by omega) f5_2 (by simp [Zaa]; grind))⟩, lz [0, 1, 2] rfl h⟩, (show others.length - (j + 1) < others.length - j from by first | omega | (simp; omega))⟩
                ·
                 try simp at hb14
                 have e14 := XG (p := Zaa y) f5_2 (by omega)
                 refine Zv (nx (Za (rgo tb hJ [1000] [_] [] [(_, .int (0 : Int))] rfl rfl rfl rfl trivial (nx (Zi (fun a w h => Zh (m := 0) rfl (Zl h) rfl (congrArg AV.int (show (0 : Int) = (Qf d k y bs dm) from by clear h; subst_vars; grind [Qf]))))))))
          ·
           try simp at hb9
           refine Zd (nx (Za (Za (rgo tb hJ [0, 2, 1000] [_] [] [(_, _), (_, _), (_, .int (0 : Int))] rfl rfl rfl rfl trivial (nx (Ze (Zw (ι := Nat) (fun (j : Nat) a w => ((j ≤ others.length) ∧ ((others.take j).any (Zaa y) = false)) ∧ St All (SO S []) w0 206 [(16, .rd (Z4 others)), (7, .ptr (hyC y)), (21, .int j)] (XO J S w0.heap.size []) a w) (fun (j : Nat) => (others.length - j : Nat)) ?_ ?_)))))))
           ·
            intro a w h
            exact ⟨0, (show (0 ≤ others.length) ∧ ((others.take 0).any (Zaa y) = false) from ⟨Nat.zero_le _, rfl⟩), lz [0, 1, 2] rfl h⟩
           ·
            rintro j
            refine ZD fun hF => ?_
            obtain ⟨f5_1, f5_2⟩ := hF
            refine Za (Za (rgo tb hJ [0, 1, 2, 1003] [_, _, .int others.length, _] [2] [(_, _), (_, _), (_, _), (_, .bool (decide ((j : Int) < (others.length : Int))))] rfl rfl rfl rfl ⟨Ys ZC rfl rfl rfl rfl, trivial⟩ (nx (tc 3 rfl rfl (fun hb14 => ?_) (fun hb14 => ?_)))))
            ·
             try simp at hb14
             refine Zd (nx (Za (Ze (Za (rgo tb hJ [0, 1, 2, 1016] [_, _, .ptr (hyC (ge others j)), _, _, _, _, _, _, _, _, .ptr (hyC (ge others j)), _, _, .bool (Zc0 (ge others j) y), _, _] [2, 11, 14] [(_, _), (_, _), (_, _), (_, .bool ((decide (((ge others j).label) = y.label)) && (!(Zc0 (ge others j) y))))] rfl rfl rfl rfl ⟨hIx Zt (by first | omega | (simp; omega) | grind [Zb]) rfl rfl rfl rfl rfl rfl, fun _ _ _ hx hl hc => ZI (i := (j : Int)) Zt rfl (hl.dep 9 198 _ rfl rfl rfl hc) (hl.dep 10 199 _ rfl rfl rfl hc) (Int.natCast_nonneg _) (ZL (xs := others) (k := j) (by have hc' : ((decide (((ge others j).label) = y.label)) == true) = true := hc; (try simp at hc'); (first | omega | (simp; omega) | grind [Zb]))) rfl hx, fun _ _ hk hx hl hc => Qk (Zba hJ (x := (ge others j)) (y := y) ) ZbY rfl (Zr hS _ hk hx) (hx.1) (Zc (hl.dep 12 201 _ rfl rfl rfl hc) (Zc (hl.dep 13 202 _ rfl rfl rfl hc) Zm)) (jo hJ hx), trivial⟩ (nx (tc 3 rfl rfl (fun hb15 => ?_) (fun hb15 => ?_))))))))
             ·
              try simp at hb15
              have q15 := Qj (p := Zaa y) (xs := others) (k := j) (by omega) (by simpa [Zaa] using hb15)
              refine Za (rgo tb hJ [1000] [_] [] [(_, .int (6 : Int))] rfl rfl rfl rfl trivial (nx (Zi (fun a w h => Zh (m := 0) rfl (Zl h) rfl (congrArg AV.int (show (6 : Int) = (Qf d k y bs dm) from by clear h; subst_vars; grind [Qf]))))))
             ·
              try simp at hb15
              refine Zd (nx (rgo tb hJ [0, 1, 1002] [_, .int ((j + 1 : Nat) : Int), _] [1] [(_, _), (_, _), (_, .int ((j + 1 : Nat) : Int))] rfl rfl rfl rfl ⟨Yc (by first | omega | (simp; omega) | grind [Zb]) rfl rfl rfl rfl rfl, trivial⟩ ?_))
              intro a w h; change ∃ j, _ ∧ _
              exact ⟨j + 1, ⟨⟨(show (j + 1) ≤ others.length from by omega), (show (others.take (j + 1)).any (Zaa y) = false from XH (by omega) f5_2 (by simp [Zaa]; grind))⟩, lz [0, 1, 2] rfl h⟩, (show others.length - (j + 1) < others.length - j from by first | omega | (simp; omega))⟩
            ·
             try simp at hb14
             have e14 := XG (p := Zaa y) f5_2 (by omega)
             refine Zv (nx (Za (rgo tb hJ [1000] [_] [] [(_, .int (0 : Int))] rfl rfl rfl rfl trivial (nx (Zi (fun a w h => Zh (m := 0) rfl (Zl h) rfl (congrArg AV.int (show (0 : Int) = (Qf d k y bs dm) from by clear h; subst_vars; grind [Qf]))))))))
      ·
       try simp at hb6
       refine Zd (nx (Za (Zn (XM Zt hJ rfl rfl rfl (lb rfl) fun v4 => ?_))))
       refine sv tb rfl rfl rfl rfl (Zy ?_)
       refine kw (lz [0, 2, 3, 4, 5] (env' := [(_, _), (_, _), (_, _), (_, _), (_, _)]) rfl) ?_
       refine nx (Za (Za (rgo tb hJ [0, 1, 2, 3, 4, 1000] [_] [] [(_, _), (_, _), (_, _), (_, _), (_, _), (_, .int (0 : Int))] rfl rfl rfl rfl trivial (nx (Ze (Zw (ι := Nat × Value × (List Hy)) (fun (ii' : Nat × Value × (List Hy)) a w => match ii' with | (i, vo, others) => ((i ≤ k) ∧ (others = oth d i) ∧ (others.length ≤ 80 * i)) ∧ St All (SO S [OB.row vo 109 3 (others.map hyC)]) w0 206 [(1, .int k), (3, .rd (Z4 bs)), (5, .ptr (dbC d)), (7, .ptr (hyC y)), (17, .int i), (16, .lit vo)] (XO J S w0.heap.size [OB.row vo 109 3 (others.map hyC)]) a w) (fun (ii' : Nat × Value × (List Hy)) => match ii' with | (i, _, _) => (k - i : Nat)) ?_ ?_))))))
       ·
        intro a w h
        exact ⟨(0, v4, ([] : List Hy)), (show (0 ≤ k) ∧ (([] : List Hy) = oth d 0) ∧ (([] : List Hy).length ≤ 80 * 0) from ⟨Nat.zero_le _, rfl, Nat.zero_le _⟩), lz [1, 2, 3, 4, 5, 0] rfl h⟩
       ·
        rintro ⟨i, vo, others⟩
        refine ZD fun hF => ?_
        obtain ⟨f2_1, f2_2, f2_3⟩ := hF
        refine Za (Za (rgo tb hJ [0, 1, 2, 3, 4, 5, 1002] [_, _, _] [] [(_, _), (_, _), (_, _), (_, _), (_, _), (_, _), (_, .bool (decide ((i : Int) < (k : Int))))] rfl rfl rfl rfl trivial (nx (tc 6 rfl rfl (fun hb8 => ?_) (fun hb8 => ?_)))))
        ·
         try simp at hb8
         refine Zd (nx (Za (Ze (Zn (sv tb rfl rfl rfl rfl (sv (av := .ptr [Yn d.frames]) tb rfl rfl rfl rfl (sv (av := .rd (Yn d.frames)) tb rfl rfl rfl rfl (sv tb rfl rfl rfl rfl (sq (.ptr (frC (ge d.frames i))) rfl rfl (lb rfl) (fun _ _ h => ZI (i := (i : Int)) Ye rfl (h.get 1 rfl) (h.get 0 rfl) (Int.natCast_nonneg _) (ZL (xs := d.frames) (k := i) (by first | omega | (simp; omega) | grind [Zb])) rfl h.x) (sv (av := .agg (frC (ge d.frames i))) tb rfl rfl rfl rfl (sq (.rd (Z4 ((ge d.frames i).hyps ++ (ge d.frames i).dummies))) rfl rfl (lb rfl) (fun _ _ h => Qk (Zmu hJ (f := (ge d.frames i)) (by have := hz i (by omega); omega)) ZbZ rfl (Zr hS _ h.keep h.x) (h.x.1) (Zc (h.get 0 rfl) Zm) (jo hJ h.x)) (ZR (f := hyC) (m := 6) (s := 126) others ((ge d.frames i).hyps ++ (ge d.frames i).dummies) (fun _ => rfl) Xz hJ hJ0 rfl rfl rfl (lb rfl) rfl rfl (fun a w h => (h.get 0 rfl)) (by first | (have := hz i (by omega); simp; omega) | (have := hz i (by omega); refine Xq ?_; simp; omega)) (by first | (have := hz i (by omega); simp; omega) | (have := hz i (by omega); refine Xq ?_; simp; omega)) fun v5 => ?_))))))))))))
         refine sv tb rfl rfl rfl rfl (Zy ?_)
         refine kw (lz [0, 2, 6, 9, 10, 11, 12, 13] (env' := [(_, _), (_, _), (_, _), (_, _), (_, _), (_, _), (_, _), (_, _)]) rfl) ?_
         refine nx (Zf (fun a w h => Zj h 1 rfl) fun hl9 => Zf (fun a w h => Zj h 2 rfl) fun hl10 => rgo tb hJ [0, 3, 4, 5, 6, 1002] [_, .int ((i + 1 : Nat) : Int), _] [1] [(_, _), (_, _), (_, _), (_, _), (_, _), (_, .int ((i + 1 : Nat) : Int))] rfl rfl rfl rfl ⟨Yc (by first | omega | (simp; omega) | grind [Zb]) rfl rfl rfl rfl rfl, trivial⟩ ?_)
         intro a w h; change ∃ j, _ ∧ _
         exact ⟨(i + 1, v5, others ++ ((ge d.frames i).hyps ++ (ge d.frames i).dummies)), ⟨⟨(show (i + 1) ≤ k from by omega), (show (others ++ ((ge d.frames i).hyps ++ (ge d.frames i).dummies)) = oth d (i + 1) from by rw [Zak (by omega), f2_2]), (show (others ++ ((ge d.frames i).hyps ++ (ge d.frames i).dummies)).length ≤ 80 * (i + 1) from by have := hz i (by omega); simp; omega)⟩, lz [1, 2, 3, 4, 5, 0] rfl h⟩, (show k - (i + 1) < k - i from by first | omega | (simp; omega))⟩
        ·
         try simp at hb8
         have hik : i = k := by omega
         rw [hik] at f2_2 f2_3
         refine Zv (nx (Za (Za ?_)))
         refine tw (fun h => ZO hS h (m := 5) (s := 16) rfl) ?_
         refine rgo tb hJ [0, 2, 4, 1001] [_, _] [] [(_, _), (_, _), (_, _), (_, .bool y.floating)] rfl rfl rfl rfl trivial (nx (Zf (fun a w h => Zj h 0 rfl) fun hl11 => tc 3 rfl rfl (fun hb9 => ?_) (fun hb9 => ?_)))
         ·
          try simp at hb9
          have hy2 := Yl hb1 hb9
          refine Za ?_
          refine fun a w h => Qp (id := 24) (t := 56) (e := 109) (size := 3) (bytes := 48) (i0 := 0) (fol := 5) (d := 18) (ch := [(2, (others.map hyC)), (4, (bs.map hyC))]) (fun ix' => ([.any, .rd (Z4 others), .any, .rd (Z4 bs), .any, .any] : List AV).getD ix' .any) (fun ix' => ([true, true, true, true, true, true] : List Bool).getD ix' true) [(0, 16, .rd (Z4 others)), (1, 3, .rd (Z4 bs)), (2, 7, .ptr (hyC y))] ((others ++ bs).map hyC) (by simp) ?r24_2 hJ hJ0 h Y0 rfl rfl rfl rfl ⟨?o24_2_0, ⟨?o24_2_1, ⟨?o24_2_2, ⟨?o24_2_3, ⟨?o24_2_4, ⟨?o24_2_5, trivial⟩⟩⟩⟩⟩⟩ ⟨rfl, rfl, ⟨rfl, rfl, ⟨rfl, rfl, trivial⟩⟩⟩ (fun v6 => ?n24_2)
          case r24_2 =>
           refine Row.mk' Xz ⟨_, rfl, rfl, rfl, rfl, rfl⟩ ⟨?x24_2_0, ⟨?x24_2_1, trivial⟩⟩ ⟨_, _, _, _, rfl, rfl, rfl, rfl, rfl, rfl, rfl, rfl, rfl⟩ rfl rfl rfl
           case x24_2_0 => exact ⟨_, _, _, _, rfl, rfl, rfl, rfl, rfl, rfl, rfl, rfl, Y5 (f := hyC) (fun _ => rfl), (by have hm : maxLen = 9223372036854775807 := rfl; simp [upto]; first | (have := hz i (by omega); simp; omega) | (have := hz i (by omega); refine Xq ?_; simp; omega)), (by have hm : maxLen = 9223372036854775807 := rfl; simp [upto]; first | (have := hz i (by omega); simp; omega) | (have := hz i (by omega); refine Xq ?_; simp; omega)), fun _ _ _ _ _ hl => (hl.dep 1 137 _ rfl rfl rfl rfl)⟩
           case x24_2_1 => exact ⟨_, _, _, _, rfl, rfl, rfl, rfl, rfl, rfl, rfl, rfl, Y5 (f := hyC) (fun _ => rfl), (by have hm : maxLen = 9223372036854775807 := rfl; simp [upto]; first | (have := hz i (by omega); simp; omega) | (have := hz i (by omega); refine Xq ?_; simp; omega)), (by have hm : maxLen = 9223372036854775807 := rfl; simp [upto]; first | (have := hz i (by omega); simp; omega) | (have := hz i (by omega); refine Xq ?_; simp; omega)), fun _ _ _ _ _ hl => (hl.dep 3 139 _ rfl rfl rfl rfl)⟩
          case o24_2_0 => exact fun h => Zs rfl h
          case o24_2_1 => exact fun _ _ => ⟨rfl, fun _ _ _ hx hl _ => Yj rfl (hl.env 0 16 _ rfl rfl) hx⟩
          case o24_2_2 => exact fun h => Zs rfl h
          case o24_2_3 => exact fun _ _ => ⟨rfl, fun _ _ _ hx hl _ => Yj rfl (hl.env 1 3 _ rfl rfl) hx⟩
          case o24_2_4 => exact fun h => Zs rfl h
          case o24_2_5 => exact fun h => Zs rfl h
          clear a w h
          refine nx (Za (Za ?_))
          refine tw (fun h => ZO hS h (m := 0) (s := 18) rfl) ?_
          refine rgo tb hJ [0, 1, 2, 3, 1000] [_] [] [(_, _), (_, _), (_, _), (_, _), (_, .int (0 : Int))] rfl rfl rfl rfl trivial (nx (Zf (fun a w h => Zj h 0 rfl) fun hl12 => Ze (Zw (ι := Nat) (fun (j : Nat) a w => ((j ≤ (others ++ bs).length) ∧ (((others ++ bs).take j).any (Zc1 y) = false)) ∧ St All (SO S []) w0 206 [(18, .rd (Z4 (others ++ bs))), (16, .rd (Z4 others)), (3, .rd (Z4 bs)), (7, .ptr (hyC y)), (19, .int j)] (XO J S w0.heap.size []) a w) (fun (j : Nat) => ((others ++ bs).length - j : Nat)) ?_ ?_)))
          ·
           intro a w h
           exact ⟨0, (show (0 ≤ (others ++ bs).length) ∧ (((others ++ bs).take 0).any (Zc1 y) = false) from ⟨Nat.zero_le _, rfl⟩), lz [0, 1, 2, 3, 4] rfl h⟩
          ·
           rintro j
           refine ZD fun hF => ?_
           obtain ⟨f3_1, f3_2⟩ := hF
           refine Za (Za (rgo tb hJ [0, 1, 2, 3, 4, 1003] [_, _, .int (((others ++ bs).length : Nat) : Int), _] [2] [(_, _), (_, _), (_, _), (_, _), (_, _), (_, .bool (decide ((j : Int) < (((others ++ bs).length : Nat) : Int))))] rfl rfl rfl rfl ⟨Ys ZC rfl rfl rfl rfl, trivial⟩ (nx (tc 5 rfl rfl (fun hb10 => ?_) (fun hb10 => ?_)))))
           ·
            try simp at hb10
            refine Zd (nx (Za (Ze (Za (rgo tb hJ [0, 1, 2, 3, 4, 1006, 1021] [_, _, .ptr (hyC (ge (others ++ bs) j)), _, _, _, _, .bool (ofB (ge (others ++ bs) j) (y.text.drop 1)), _, _, _, .ptr (hyC (ge (others ++ bs) j)), _, _, .ptr [.lit (.string (ge ((ge (others ++ bs) j).text) 0))], _, _, _, .ptr [.lit (.string (ge y.text 0))], _, _, _] [2, 6, 7, 11, 14, 18] [(_, _), (_, _), (_, _), (_, _), (_, _), (_, .rd (Zg (y.text.drop 1))), (_, .bool ((ofB (ge (others ++ bs) j) (y.text.drop 1)) && (!decide ((ge ((ge (others ++ bs) j).text) 0) = (ge y.text 0)))))] rfl rfl rfl rfl ⟨hIx Zt (by first | omega | (simp; omega) | grind [Zb]) rfl rfl rfl rfl rfl rfl, fun _ _ _ hx hl _ => Xb (ys := y.text.drop 1) (lo := 1) (hi := y.text.length) (by rw [List.take_length]) Zk (fun _ => rfl) rfl (hl.dep 5 152 _ rfl rfl rfl rfl) (Rel.of_lit (Go.Value.int Go.IntKind.i64 1)) rfl (by first | omega | (simp; omega) | grind [Zb]) (by first | omega | (simp; omega) | grind [Zb]) hx, hFo hS hJ (c_of hJ (y := (ge (others ++ bs) j)) (vs := (y.text.drop 1)) ) Za9 rfl rfl rfl rfl, fun _ _ _ hx hl hc => ZI (i := (j : Int)) Zt rfl (hl.dep 9 156 _ rfl rfl rfl hc) (hl.dep 10 157 _ rfl rfl rfl hc) (Int.natCast_nonneg _) (ZL (xs := others ++ bs) (k := j) (by have hc' : ((ofB (ge (others ++ bs) j) (y.text.drop 1)) == true) = true := hc; (try simp at hc'); (first | omega | (simp; omega) | grind [Zb]))) rfl hx, fun _ _ _ hx hl hc => ZI (i := ((0 : Nat) : Int)) Zk rfl (hl.dep 13 160 _ rfl rfl rfl hc) (Rel.of_lit (Go.Value.int Go.IntKind.i64 0)) (Int.natCast_nonneg _) (ZL (xs := (ge (others ++ bs) j).text) (k := 0) (by have hc' : ((ofB (ge (others ++ bs) j) (y.text.drop 1)) == true) = true := hc; (try simp at hc'); (have := Zja hc'; omega))) rfl hx, fun _ _ _ hx hl hc => ZI (i := ((0 : Nat) : Int)) Zk rfl (hl.dep 17 164 _ rfl rfl rfl hc) (Rel.of_lit (Go.Value.int Go.IntKind.i64 0)) (Int.natCast_nonneg _) (ZL (xs := y.text) (k := 0) (by have hc' : ((ofB (ge (others ++ bs) j) (y.text.drop 1)) == true) = true := hc; (try simp at hc'); (first | omega | (simp; omega) | grind [Zb]))) rfl hx, trivial⟩ (nx (Zf (fun a w h => Zj h 5 rfl) fun hl13 => tc 6 rfl rfl (fun hb11 => ?_) (fun hb11 => ?_))))))))
            ·
             try simp at hb11
             have q11 := Qj (p := Zc1 y) (xs := others ++ bs) (k := j) (by simp; omega) (by simpa [Zc1] using hb11)
             refine Za (rgo tb hJ [1000] [_] [] [(_, .int (11 : Int))] rfl rfl rfl rfl trivial (nx (Zi (fun a w h => Zh (m := 0) rfl (Zl h) rfl (congrArg AV.int (show (11 : Int) = (Qf d k y bs dm) from by clear h; subst_vars; grind [Qf]))))))
            ·
             try simp at hb11
             refine Zd (nx (rgo tb hJ [0, 1, 2, 3, 1002] [_, .int ((j + 1 : Nat) : Int), _] [1] [(_, _), (_, _), (_, _), (_, _), (_, .int ((j + 1 : Nat) : Int))] rfl rfl rfl rfl ⟨Yc (by first | omega | (simp; omega) | grind [Zb]) rfl rfl rfl rfl rfl, trivial⟩ ?_))
             intro a w h; change ∃ j, _ ∧ _
             exact ⟨j + 1, ⟨⟨(show (j + 1) ≤ (others ++ bs).length from by simp; omega), (show ((others ++ bs).take (j + 1)).any (Zc1 y) = false from XH (by simp; omega) f3_2 (by simp [Zc1]; grind))⟩, lz [0, 1, 2, 3, 4] rfl h⟩, (show (others ++ bs).length - (j + 1) < (others ++ bs).length - j from by first | omega | (simp; omega))⟩
           ·
            try simp at hb10
            have e10 := XG (p := Zc1 y) f3_2 (by simp; omega)
            refine Zv (nx (Za (rgo tb hJ [1, 2, 3, 1000] [_] [] [(_, _), (_, _), (_, _), (_, .int (0 : Int))] rfl rfl rfl rfl trivial (nx (Ze (Zw (ι := Nat) (fun (j : Nat) a w => ((j ≤ bs.length) ∧ ((bs.take j).any (hOf y) = false)) ∧ St All (SO S []) w0 206 [(16, .rd (Z4 others)), (3, .rd (Z4 bs)), (7, .ptr (hyC y)), (20, .int j)] (XO J S w0.heap.size []) a w) (fun (j : Nat) => (bs.length - j : Nat)) ?_ ?_))))))
            ·
             intro a w h
             exact ⟨0, (show (0 ≤ bs.length) ∧ ((bs.take 0).any (hOf y) = false) from ⟨Nat.zero_le _, rfl⟩), lz [0, 1, 2, 3] rfl h⟩
            ·
             rintro j
             refine ZD fun hF => ?_
             obtain ⟨f4_1, f4_2⟩ := hF
             refine Za (Za (rgo tb hJ [0, 1, 2, 3, 1003] [_, _, .int bs.length, _] [2] [(_, _), (_, _), (_, _), (_, _), (_, .bool (decide ((j : Int) < (bs.length : Int))))] rfl rfl rfl rfl ⟨Ys ZC rfl rfl rfl rfl, trivial⟩ (nx (tc 4 rfl rfl (fun hb12 => ?_) (fun hb12 => ?_)))))
             ·
              try simp at hb12
              refine Zd (nx (Za (Ze (Za (rgo tb hJ [0, 1, 2, 3, 1006, 1007] [_, _, .ptr (hyC (ge bs j)), _, _, _, _, _] [2, 6, 7] [(_, _), (_, _), (_, _), (_, _), (_, .rd (Zg (y.text.drop 1))), (_, .bool (ofB (ge bs j) (y.text.drop 1)))] rfl rfl rfl rfl ⟨hIx Zt (by first | omega | (simp; omega) | grind [Zb]) rfl rfl rfl rfl rfl rfl, fun _ _ _ hx hl _ => Xb (ys := y.text.drop 1) (lo := 1) (hi := y.text.length) (by rw [List.take_length]) Zk (fun _ => rfl) rfl (hl.dep 5 180 _ rfl rfl rfl rfl) (Rel.of_lit (Go.Value.int Go.IntKind.i64 1)) rfl (by first | omega | (simp; omega) | grind [Zb]) (by first | omega | (simp; omega) | grind [Zb]) hx, hFo hS hJ (c_of hJ (y := (ge bs j)) (vs := (y.text.drop 1)) ) Za9 rfl rfl rfl rfl, trivial⟩ (nx (Zf (fun a w h => Zj h 4 rfl) fun hl14 => tc 5 rfl rfl (fun hb13 => ?_) (fun hb13 => ?_))))))))
              ·
               try simp at hb13
               have q13 := Qj (p := hOf y) (xs := bs) (k := j) (by omega) (by simpa [hOf] using hb13)
               refine Za (rgo tb hJ [1000] [_] [] [(_, .int (6 : Int))] rfl rfl rfl rfl trivial (nx (Zi (fun a w h => Zh (m := 0) rfl (Zl h) rfl (congrArg AV.int (show (6 : Int) = (Qf d k y bs dm) from by clear h; subst_vars; grind [Qf]))))))
              ·
               try simp at hb13
               refine Zd (nx (rgo tb hJ [0, 1, 2, 1002] [_, .int ((j + 1 : Nat) : Int), _] [1] [(_, _), (_, _), (_, _), (_, .int ((j + 1 : Nat) : Int))] rfl rfl rfl rfl ⟨Yc (by first | omega | (simp; omega) | grind [Zb]) rfl rfl rfl rfl rfl, trivial⟩ ?_))
               intro a w h; change ∃ j, _ ∧ _
               exact ⟨j + 1, ⟨⟨(show (j + 1) ≤ bs.length from by omega), (show (bs.take (j + 1)).any (hOf y) = false from XH (by omega) f4_2 (by simpa [hOf] using hb13))⟩, lz [0, 1, 2, 3] rfl h⟩, (show bs.length - (j + 1) < bs.length - j from by first | omega | (simp; omega))⟩
             ·
              try simp at hb12
              have e12 := XG (p := hOf y) f4_2 (by omega)
              refine Zv (nx (Za (Za (rgo tb hJ [0, 2, 1000] [_] [] [(_, _), (_, _), (_, .int (0 : Int))] rfl rfl rfl rfl trivial (nx (Ze (Zw (ι := Nat) (fun (j : Nat) a w => ((j ≤ others.length) ∧ ((others.take j).any (Zaa y) = false)) ∧ St All (SO S []) w0 206 [(16, .rd (Z4 others)), (7, .ptr (hyC y)), (21, .int j)] (XO J S w0.heap.size []) a w) (fun (j : Nat) => (others.length - j : Nat)) ?_ ?_)))))))
              ·
               intro a w h
               exact ⟨0, (show (0 ≤ others.length) ∧ ((others.take 0).any (Zaa y) = false) from ⟨Nat.zero_le _, rfl⟩), lz [0, 1, 2] rfl h⟩
              ·
               rintro j
               refine ZD fun hF => ?_
               obtain ⟨f5_1, f5_2⟩ := hF
               refine Za (Za (rgo tb hJ [0, 1, 2, 1003] [_, _, .int others.length, _] [2] [(_, _), (_, _), (_, _), (_, .bool (decide ((j : Int) < (others.length : Int))))] rfl rfl rfl rfl ⟨Ys ZC rfl rfl rfl rfl, trivial⟩ (nx (tc 3 rfl rfl (fun hb14 => ?_) (fun hb14 => ?_)))))
               ·
                try simp at hb14
                refine Zd (nx (Za (Ze (Za (rgo tb hJ [0, 1, 2, 1016] [_, _, .ptr (hyC (ge others j)), _, _, _, _, _, _, _, _, .ptr (hyC (ge others j)), _, _, .bool (Zc0 (ge others j) y), _, _] [2, 11, 14] [(_, _), (_, _), (_, _), (_, .bool ((decide (((ge others j).label) = y.label)) && (!(Zc0 (ge others j) y))))] rfl rfl rfl rfl ⟨hIx Zt (by first | omega | (simp; omega) | grind [Zb]) rfl rfl rfl rfl rfl rfl, fun _ _ _ hx hl hc => ZI (i := (j : Int)) Zt rfl (hl.dep 9 198 _ rfl rfl rfl hc) (hl.dep 10 199 _ rfl rfl rfl hc) (Int.natCast_nonneg _) (ZL (xs := others) (k := j) (by have hc' : ((decide (((ge others j).label) = y.label)) == true) = true := hc; (try simp at hc'); (first | omega | (simp; omega) | grind [Zb]))) rfl hx, fun _ _ hk hx hl hc => Qk (Zba hJ (x := (ge others j)) (y := y) ) ZbY rfl (Zr hS _ hk hx) (hx.1) (Zc (hl.dep 12 201 _ rfl rfl rfl hc) (Zc (hl.dep 13 202 _ rfl rfl rfl hc) Zm)) (jo hJ hx), trivial⟩ (nx (tc 3 rfl rfl (fun hb15 => ?_) (fun hb15 => ?_))))))))
                ·
                 try simp at hb15
                 have q15 := Qj (p := Zaa y) (xs := others) (k := j) (by omega) (by simpa [Zaa] using hb15)
                 refine Za (rgo tb hJ [1000] [_] [] [(_, .int (6 : Int))] rfl rfl rfl rfl trivial (nx (Zi (fun a w h => Zh (m := 0) rfl (Zl h) rfl (congrArg AV.int (show (6 : Int) = (Qf d k y bs dm) from by clear h; subst_vars; grind [Qf]))))))
                ·
                 try simp at hb15
                 refine Zd (nx (rgo tb hJ [0, 1, 1002] [_, .int ((j + 1 : Nat) : Int), _] [1] [(_, _), (_, _), (_, .int ((j + 1 : Nat) : Int))] rfl rfl rfl rfl ⟨Yc (by first | omega | (simp; omega) | grind [Zb]) rfl rfl rfl rfl rfl, trivial⟩ ?_))
                 intro a w h; change ∃ j, _ ∧ _
                 exact ⟨j + 1, ⟨⟨(show (j + 1) ≤ others.length from by omega), (show (others.take (j + 1)).any (Zaa y) = false from XH (by omega) f5_2 (by simp [Zaa]; grind))⟩, lz [0, 1, 2] rfl h⟩, (show others.length - (j + 1) < others.length - j from by first | omega | (simp; omega))⟩
               ·
                try simp at hb14
                have e14 := XG (p := Zaa y) f5_2 (by omega)
                refine Zv (nx (Za (rgo tb hJ [1000] [_] [] [(_, .int (0 : Int))] rfl rfl rfl rfl trivial (nx (Zi (fun a w h => Zh (m := 0) rfl (Zl h) rfl (congrArg AV.int (show (0 : Int) = (Qf d k y bs dm) from by clear h; subst_vars; grind [Qf]))))))))
         ·
          try simp at hb9
          refine Zd (nx (Za (Za (rgo tb hJ [0, 2, 1000] [_] [] [(_, _), (_, _), (_, .int (0 : Int))] rfl rfl rfl rfl trivial (nx (Ze (Zw (ι := Nat) (fun (j : Nat) a w => ((j ≤ others.length) ∧ ((others.take j).any (Zaa y) = false)) ∧ St All (SO S []) w0 206 [(16, .rd (Z4 others)), (7, .ptr (hyC y)), (21, .int j)] (XO J S w0.heap.size []) a w) (fun (j : Nat) => (others.length - j : Nat)) ?_ ?_)))))))
          ·
           intro a w h
           exact ⟨0, (show (0 ≤ others.length) ∧ ((others.take 0).any (Zaa y) = false) from ⟨Nat.zero_le _, rfl⟩), lz [0, 1, 2] rfl h⟩
          ·
           rintro j
           refine ZD fun hF => ?_
           obtain ⟨f5_1, f5_2⟩ := hF
           refine Za (Za (rgo tb hJ [0, 1, 2, 1003] [_, _, .int others.length, _] [2] [(_, _), (_, _), (_, _), (_, .bool (decide ((j : Int) < (others.length : Int))))] rfl rfl rfl rfl ⟨Ys ZC rfl rfl rfl rfl, trivial⟩ (nx (tc 3 rfl rfl (fun hb14 => ?_) (fun hb14 => ?_)))))
           ·
            try simp at hb14
            refine Zd (nx (Za (Ze (Za (rgo tb hJ [0, 1, 2, 1016] [_, _, .ptr (hyC (ge others j)), _, _, _, _, _, _, _, _, .ptr (hyC (ge others j)), _, _, .bool (Zc0 (ge others j) y), _, _] [2, 11, 14] [(_, _), (_, _), (_, _), (_, .bool ((decide (((ge others j).label) = y.label)) && (!(Zc0 (ge others j) y))))] rfl rfl rfl rfl ⟨hIx Zt (by first | omega | (simp; omega) | grind [Zb]) rfl rfl rfl rfl rfl rfl, fun _ _ _ hx hl hc => ZI (i := (j : Int)) Zt rfl (hl.dep 9 198 _ rfl rfl rfl hc) (hl.dep 10 199 _ rfl rfl rfl hc) (Int.natCast_nonneg _) (ZL (xs := others) (k := j) (by have hc' : ((decide (((ge others j).label) = y.label)) == true) = true := hc; (try simp at hc'); (first | omega | (simp; omega) | grind [Zb]))) rfl hx, fun _ _ hk hx hl hc => Qk (Zba hJ (x := (ge others j)) (y := y) ) ZbY rfl (Zr hS _ hk hx) (hx.1) (Zc (hl.dep 12 201 _ rfl rfl rfl hc) (Zc (hl.dep 13 202 _ rfl rfl rfl hc) Zm)) (jo hJ hx), trivial⟩ (nx (tc 3 rfl rfl (fun hb15 => ?_) (fun hb15 => ?_))))))))
            ·
             try simp at hb15
             have q15 := Qj (p := Zaa y) (xs := others) (k := j) (by omega) (by simpa [Zaa] using hb15)
             refine Za (rgo tb hJ [1000] [_] [] [(_, .int (6 : Int))] rfl rfl rfl rfl trivial (nx (Zi (fun a w h => Zh (m := 0) rfl (Zl h) rfl (congrArg AV.int (show (6 : Int) = (Qf d k y bs dm) from by clear h; subst_vars; grind [Qf]))))))
            ·
             try simp at hb15
             refine Zd (nx (rgo tb hJ [0, 1, 1002] [_, .int ((j + 1 : Nat) : Int), _] [1] [(_, _), (_, _), (_, .int ((j + 1 : Nat) : Int))] rfl rfl rfl rfl ⟨Yc (by first | omega | (simp; omega) | grind [Zb]) rfl rfl rfl rfl rfl, trivial⟩ ?_))
             intro a w h; change ∃ j, _ ∧ _
             exact ⟨j + 1, ⟨⟨(show (j + 1) ≤ others.length from by omega), (show (others.take (j + 1)).any (Zaa y) = false from XH (by omega) f5_2 (by simp [Zaa]; grind))⟩, lz [0, 1, 2] rfl h⟩, (show others.length - (j + 1) < others.length - j from by first | omega | (simp; omega))⟩
           ·
            try simp at hb14
            have e14 := XG (p := Zaa y) f5_2 (by omega)
            refine Zv (nx (Za (rgo tb hJ [1000] [_] [] [(_, .int (0 : Int))] rfl rfl rfl rfl trivial (nx (Zi (fun a w h => Zh (m := 0) rfl (Zl h) rfl (congrArg AV.int (show (0 : Int) = (Qf d k y bs dm) from by clear h; subst_vars; grind [Qf]))))))))

end Go.Proofs.YtnpgmdffjemnbaaGreatDoor
set_option maxHeartbeats 8000000
set_option maxRecDepth 100000
namespace Go.Proofs.YtnpgmdffjemnbaaGreatDoor
open Go.RowKit

theorem Zf8 {J : World → Prop} (hJ : Stab J) (d : Db) (f : Fr) (h1 : d.vars.length ≤ 8000) (h2 : f.hyps.length ≤ 40) (h3 : f.wide.length * 32 ≤ 140737488351232) (h4 : ∀ h ∈ f.hyps, h.floating = true → h.text.length = 2) : Fn Tryz.prog J 112 [.agg (dbC d), .agg (frC f)] (.bool (ZaI d f)) := by
 refine Zx (N := 113) Tryz.func112 rfl rfl (lb rfl) fun S w0 hS hJ0 => ?_
 refine tw Yi ?_
 refine Za (rgo tb hJ [1000, 1001] [_, _, _] [0, 1] [(_, .ptr (dbC d)), (_, .ptr (frC f))] rfl rfl rfl rfl ⟨fun _ _ hk hx hl _ => Yv rfl (hl.env 0 0 _ rfl rfl) (Zr hS _ hk hx _ (Nat.le_refl _)) (jo hJ hx), fun _ _ hk hx hl _ => Yv rfl (hl.env 1 1 _ rfl rfl) (Zr hS _ hk hx _ (Nat.le_refl _)) (jo hJ hx), trivial⟩ (nx (Za (rgo tb hJ [0, 1, 1001, 1003, 1004, 1006, 1007, 1008] [_, _, _, _, _, _, _, _, _] [4, 7] [(_, _), (_, _), (_, .rd (Z4 f.hyps)), (_, .rd (Zg f.text)), (_, .rd (X3 (f.text :: (ZZ f.hyps).map Hy.text))), (_, .rd (Zg d.vars)), (_, .rd (Zg (YZ d.vars (f.text :: (ZZ f.hyps).map Hy.text).flatten))), (_, .rd (Zg (YZ d.vars (f.text :: (ZZ f.hyps).map Hy.text).flatten)))] rfl rfl rfl rfl ⟨hFo hS hJ (Zh7 hJ (hs := f.hyps) (t := f.text) (by first | omega | (simp; omega) | grind [Zb])) Zl2 rfl rfl rfl rfl, hFo hS hJ (Zga hJ (l := (f.text :: (ZZ f.hyps).map Hy.text)) (vs := d.vars) (by first | omega | (simp; omega) | grind [Zb])) Zl3 rfl rfl rfl rfl, trivial⟩ (nx (Zf (fun a w h => Zj h 2 rfl) fun hl1 => Zf (fun a w h => Zj h 3 rfl) fun hl2 => Zf (fun a w h => Zj h 4 rfl) fun hl3 => Zf (fun a w h => Zj h 5 rfl) fun hl4 => Zf (fun a w h => Zj h 6 rfl) fun hl5 => Za (Zn ?_)))))))
 refine XM Zk hJ rfl rfl rfl (lb rfl) fun v1 => ?_
 refine sv tb rfl rfl rfl rfl (Zy ?_)
 refine kw (lz [0, 2, 3, 9] (env' := [(_, _), (_, _), (_, _), (_, _)]) rfl) ?_
 refine nx (Za (Za (rgo tb hJ [0, 1, 2, 3, 1000] [_] [] [(_, _), (_, _), (_, _), (_, _), (_, .int (0 : Int))] rfl rfl rfl rfl trivial (nx (Ze (Zw (ι := Nat × Value × (List ByteArray)) (fun (ii' : Nat × Value × (List ByteArray)) a w => match ii' with | (k, vo, found) => ((k ≤ f.hyps.length) ∧ (found = Zaf (f.hyps.take k)) ∧ (found.length ≤ k) ∧ ((f.hyps.take k).all (hIn (Y4 d f)) = true)) ∧ St All (SO S [OB.row vo 9 1 (found.map Qz)]) w0 113 [(2, .ptr (dbC d)), (3, .ptr (frC f)), (5, .rd (Zg (YZ d.vars (f.text :: (ZZ f.hyps).map Hy.text).flatten))), (7, .int k), (6, .lit vo)] (XO J S w0.heap.size [OB.row vo 9 1 (found.map Qz)]) a w) (fun (ii' : Nat × Value × (List ByteArray)) => match ii' with | (k, _, _) => (f.hyps.length - k : Nat)) ?_ ?_))))))
 ·
  intro a w h
  exact ⟨(0, v1, ([] : List ByteArray)), (show (0 ≤ f.hyps.length) ∧ (([] : List ByteArray) = Zaf (f.hyps.take 0)) ∧ (([] : List ByteArray).length ≤ 0) ∧ ((f.hyps.take 0).all (hIn (Y4 d f)) = true) from ⟨Nat.zero_le _, rfl, Nat.zero_le _, rfl⟩), lz [1, 2, 3, 4, 0] rfl h⟩
 ·
  rintro ⟨k, vo, found⟩
  refine ZD fun hF => ?_
  obtain ⟨f1_1, f1_2, f1_3, f1_4⟩ := hF
  refine Za (Za (rgo tb hJ [0, 1, 2, 3, 4, 1004] [_, _, _, .int f.hyps.length, _] [3] [(_, _), (_, _), (_, _), (_, _), (_, _), (_, .bool (decide ((k : Int) < (f.hyps.length : Int))))] rfl rfl rfl rfl ⟨Ys ZC rfl rfl rfl rfl, trivial⟩ (nx (tc 5 rfl rfl (fun hb1 => ?_) (fun hb1 => ?_)))))
  ·
   try simp at hb1
   refine Zd (nx (Za (Ze (Za (rgo tb hJ [0, 1, 2, 3, 4, 1005] [_, _, _, .ptr (hyC (ge f.hyps k)), _, _] [3] [(_, _), (_, _), (_, _), (_, _), (_, _), (_, .bool ((ge f.hyps k).floating))] rfl rfl rfl rfl ⟨hIx Zt (by first | omega | (simp; omega) | grind [Zb]) rfl rfl rfl rfl rfl rfl, trivial⟩ (nx (tc 5 rfl rfl (fun hb2 => ?_) (fun hb2 => ?_))))))))
   ·
    try simp at hb2
    refine Za (Za (rgo tb hJ [0, 1, 2, 3, 4, 1007] [_, _, _, .ptr (hyC (ge f.hyps k)), _, _, .bool (ofB (ge f.hyps k) (YZ d.vars (f.text :: (ZZ f.hyps).map Hy.text).flatten)), _] [3, 6] [(_, _), (_, _), (_, _), (_, _), (_, _), (_, .bool (!(ofB (ge f.hyps k) (YZ d.vars (f.text :: (ZZ f.hyps).map Hy.text).flatten))))] rfl rfl rfl rfl ⟨hIx Zt (by first | omega | (simp; omega) | grind [Zb]) rfl rfl rfl rfl rfl rfl, hFo hS hJ (c_of hJ (y := (ge f.hyps k)) (vs := (YZ d.vars (f.text :: (ZZ f.hyps).map Hy.text).flatten)) ) Za9 rfl rfl rfl rfl, trivial⟩ (nx (tc 5 rfl rfl (fun hb3 => ?_) (fun hb3 => ?_)))))
    ·
     try simp at hb3
     have q3 : f.hyps.all (hIn (Y4 d f)) = false := QB hb1 (by simp only [hIn, hb2, Y4]; simpa using hb3)
     refine Za (rgo tb hJ [1000] [_] [] [(_, .bool false)] rfl rfl rfl rfl trivial (nx (Zi (fun a w h => Zh (m := 0) rfl (Zl h) rfl (congrArg AV.bool (show false = (ZaI d f) from by clear h; first | (rw [ZaI, q3]; rfl) | (rw [ZaI, e1, q5]; rfl) | (rw [ZaI, e1, e4, q7]; rfl) | (rw [ZaI, e1, e4, e6]; rfl)))))))
    ·
     try simp at hb3
     refine Zd (nx (Zn (sv tb rfl rfl rfl rfl (sv (av := .ptr [Z4 f.hyps, YG f.apart, Zg f.text, Z4 f.dummies, YG f.wide, Zg f.proof]) tb rfl rfl rfl rfl (sv (av := .rd (Z4 f.hyps)) tb rfl rfl rfl rfl (sv tb rfl rfl rfl rfl (sq (.ptr (hyC (ge f.hyps k))) rfl rfl (lb rfl) (fun _ _ h => ZI (i := (k : Int)) Zt rfl (h.get 1 rfl) (h.get 0 rfl) (Int.natCast_nonneg _) (ZL (xs := f.hyps) (k := k) (by first | omega | (simp; omega) | grind [Zb])) rfl h.x) (sv (av := .ptr [Zg ((ge f.hyps k).text)]) tb rfl rfl rfl rfl (sv (av := .rd (Zg ((ge f.hyps k).text))) tb rfl rfl rfl rfl (sq (.ptr [.lit (.string (ge ((ge f.hyps k).text) 1))]) rfl rfl (lb rfl) (fun _ _ h => ZI (i := ((1 : Nat) : Int)) Zk rfl (h.get 0 rfl) (Rel.of_lit (Go.Value.int Go.IntKind.i64 1)) (Int.natCast_nonneg _) (ZL (xs := (ge f.hyps k).text) (k := 1) (by have := h4 _ (Zb hb1) hb2; omega)) rfl h.x) (sv (av := .str (ge ((ge f.hyps k).text) 1)) tb rfl rfl rfl rfl (sq (.rd (Zg ([(ge ((ge f.hyps k).text) 1)]))) rfl rfl (lb rfl) (fun _ _ h => ZV Zk Zay rfl (h.get 0 rfl) (Zr hS _ h.keep h.x _ (Nat.le_refl _)) (jo hJ h.x)) ?_))))))))))))
     refine ZR (f := Qz) (m := 9) (s := 41) found ([(ge ((ge f.hyps k).text) 1)]) (fun _ => rfl) XE hJ hJ0 rfl rfl rfl (lb rfl) rfl rfl (fun a w h => (h.get 0 rfl)) (by first | (simp; omega) | (refine ZfA ?_; simp; omega)) (by first | (simp; omega) | (refine ZfA ?_; simp; omega)) fun v2 => ?_
     refine sv tb rfl rfl rfl rfl (Zy ?_)
     refine kw (lz [0, 2, 5, 12, 13, 14, 15] (env' := [(_, _), (_, _), (_, _), (_, _), (_, _), (_, _), (_, _)]) rfl) ?_
     refine nx (Zf (fun a w h => Zj h 1 rfl) fun hl6 => Zf (fun a w h => Zj h 2 rfl) fun hl7 => rgo tb hJ [0, 3, 4, 5, 1002] [_, .int ((k + 1 : Nat) : Int), _] [1] [(_, _), (_, _), (_, _), (_, _), (_, .int ((k + 1 : Nat) : Int))] rfl rfl rfl rfl ⟨Yc (by first | omega | (simp; omega) | grind [Zb]) rfl rfl rfl rfl rfl, trivial⟩ ?_)
     intro a w h; change ∃ j, _ ∧ _
     exact ⟨(k + 1, v2, found ++ ([(ge ((ge f.hyps k).text) 1)])), ⟨⟨(show (k + 1) ≤ f.hyps.length from by omega), (show (found ++ ([(ge ((ge f.hyps k).text) 1)])) = Zaf (f.hyps.take (k + 1)) from by rw [f1_2, Zaf, Zaf, ZM (by omega)]; simp [hb2]), (show (found ++ ([(ge ((ge f.hyps k).text) 1)])).length ≤ (k + 1) from by simp; omega), (show (f.hyps.take (k + 1)).all (hIn (Y4 d f)) = true from by rw [Xc (by omega), f1_4]; simp only [hIn, hb2, Y4]; simpa using hb3)⟩, lz [1, 2, 3, 4, 0] rfl h⟩, (show f.hyps.length - (k + 1) < f.hyps.length - k from by first | omega | (simp; omega))⟩
   ·
    try simp at hb2
    refine Zd (nx (rgo tb hJ [0, 1, 2, 4, 1002] [_, .int ((k + 1 : Nat) : Int), _] [1] [(_, _), (_, _), (_, _), (_, _), (_, .int ((k + 1 : Nat) : Int))] rfl rfl rfl rfl ⟨Yc (by first | omega | (simp; omega) | grind [Zb]) rfl rfl rfl rfl rfl, trivial⟩ ?_))
    intro a w h; change ∃ j, _ ∧ _
    exact ⟨(k + 1, vo, found), ⟨⟨(show (k + 1) ≤ f.hyps.length from by omega), (show found = Zaf (f.hyps.take (k + 1)) from by rw [f1_2, Zaf, Zaf, ZM (by omega)]; simp [hb2]), (show found.length ≤ (k + 1) from by omega), (show (f.hyps.take (k + 1)).all (hIn (Y4 d f)) = true from by rw [Xc (by omega), f1_4]; simp [hIn, hb2])⟩, lz [0, 1, 2, 4, 3] rfl h⟩, (show f.hyps.length - (k + 1) < f.hyps.length - k from by first | omega | (simp; omega))⟩
  ·
   try simp at hb1
   have e1 : f.hyps.all (hIn (Y4 d f)) = true := by rw [← Zp (xs := f.hyps) (by omega)]; exact f1_4
   have f1_2' : found = Zaf f.hyps := by rw [f1_2, Zp (by omega)]
   refine Zv (nx (Za (Za ?_)))
   refine tw (fun h => ZO hS h (m := 4) (s := 6) rfl) ?_
   refine rgo tb hJ [0, 1, 2, 3, 1000] [_] [] [(_, _), (_, _), (_, _), (_, _), (_, .int (0 : Int))] rfl rfl rfl rfl trivial (nx (Zf (fun a w h => Zj h 0 rfl) fun hl8 => Ze (Zw (ι := Nat) (fun (k : Nat) a w => ((k ≤ (Y4 d f).length) ∧ (((Y4 d f).take k).all (fun s => decide (s ∈ Zaf f.hyps)) = true)) ∧ St All (SO S []) w0 113 [(6, .rd (Zg found)), (2, .ptr (dbC d)), (3, .ptr (frC f)), (5, .rd (Zg (YZ d.vars (f.text :: (ZZ f.hyps).map Hy.text).flatten))), (8, .int k)] (XO J S w0.heap.size []) a w) (fun (k : Nat) => ((Y4 d f).length - k : Nat)) ?_ ?_)))
   ·
    intro a w h
    exact ⟨0, (show (0 ≤ (Y4 d f).length) ∧ (((Y4 d f).take 0).all (fun s => decide (s ∈ Zaf f.hyps)) = true) from ⟨Nat.zero_le _, rfl⟩), lz [0, 1, 2, 3, 4] rfl h⟩
   ·
    rintro k
    refine ZD fun hF => ?_
    obtain ⟨f2_1, f2_2⟩ := hF
    refine Za (Za (rgo tb hJ [0, 1, 2, 3, 4, 1003] [_, _, .int (((YZ d.vars (f.text :: (ZZ f.hyps).map Hy.text).flatten).length : Nat) : Int), _] [2] [(_, _), (_, _), (_, _), (_, _), (_, _), (_, .bool (decide ((k : Int) < (((YZ d.vars (f.text :: (ZZ f.hyps).map Hy.text).flatten).length : Nat) : Int))))] rfl rfl rfl rfl ⟨Ys ZB rfl rfl rfl rfl, trivial⟩ (nx (tc 5 rfl rfl (fun hb4 => ?_) (fun hb4 => ?_)))))
    ·
     try simp at hb4
     have hb4' := hb4
     replace hb4 : k < (Y4 d f).length := hb4
     refine Zd (nx (Za (Ze (Za (rgo tb hJ [0, 1, 2, 3, 4, 1006] [_, _, _, .ptr [.lit (.string (ge (YZ d.vars (f.text :: (ZZ f.hyps).map Hy.text).flatten) k))], _, .bool (decide ((ge (YZ d.vars (f.text :: (ZZ f.hyps).map Hy.text).flatten) k) ∈ found)), _] [3, 5] [(_, _), (_, _), (_, _), (_, _), (_, _), (_, .bool (!(decide ((ge (YZ d.vars (f.text :: (ZZ f.hyps).map Hy.text).flatten) k) ∈ found))))] rfl rfl rfl rfl ⟨hIx Zk (by first | omega | (simp; omega) | grind [Zb]) rfl rfl rfl rfl rfl rfl, hFo hS hJ (Zax hJ (xs := found) (s := (ge (YZ d.vars (f.text :: (ZZ f.hyps).map Hy.text).flatten) k)) ) YN rfl rfl rfl rfl, trivial⟩ (nx (tc 5 rfl rfl (fun hb5 => ?_) (fun hb5 => ?_))))))))
     ·
      try simp at hb5
      have q5 : (Y4 d f).all (fun s => decide (s ∈ Zaf f.hyps)) = false := QB hb4 (decide_eq_false (by rw [← f1_2']; exact hb5))
      refine Za (rgo tb hJ [1000] [_] [] [(_, .bool false)] rfl rfl rfl rfl trivial (nx (Zi (fun a w h => Zh (m := 0) rfl (Zl h) rfl (congrArg AV.bool (show false = (ZaI d f) from by clear h; first | (rw [ZaI, q3]; rfl) | (rw [ZaI, e1, q5]; rfl) | (rw [ZaI, e1, e4, q7]; rfl) | (rw [ZaI, e1, e4, e6]; rfl)))))))
     ·
      try simp at hb5
      refine Zd (nx (rgo tb hJ [0, 1, 2, 3, 1002] [_, .int ((k + 1 : Nat) : Int), _] [1] [(_, _), (_, _), (_, _), (_, _), (_, .int ((k + 1 : Nat) : Int))] rfl rfl rfl rfl ⟨Yc (by first | omega | (simp; omega) | grind [Zb]) rfl rfl rfl rfl rfl, trivial⟩ ?_))
      intro a w h; change ∃ j, _ ∧ _
      exact ⟨k + 1, ⟨⟨(show (k + 1) ≤ (Y4 d f).length from by omega), (show ((Y4 d f).take (k + 1)).all (fun s => decide (s ∈ Zaf f.hyps)) = true from by rw [Xc hb4, f2_2, Bool.true_and]; exact decide_eq_true (by rw [← f1_2']; exact hb5))⟩, lz [0, 1, 2, 3, 4] rfl h⟩, (show (Y4 d f).length - (k + 1) < (Y4 d f).length - k from by first | omega | (simp; omega))⟩
    ·
     try simp at hb4
     replace hb4 : (Y4 d f).length ≤ k := hb4
     have e4 : (Y4 d f).all (fun s => decide (s ∈ Zaf f.hyps)) = true := by rw [← Zp (xs := Y4 d f) hb4]; exact f2_2
     refine Zv (nx (Za (Za (rgo tb hJ [1, 2, 3, 1000] [_] [] [(_, _), (_, _), (_, _), (_, .int (0 : Int))] rfl rfl rfl rfl trivial (nx (Ze (Zw (ι := Nat) (fun (k : Nat) a w => ((k ≤ f.wide.length) ∧ ((f.wide.take k).any (Zmv d) = false)) ∧ St All (SO S []) w0 113 [(2, .ptr (dbC d)), (3, .ptr (frC f)), (5, .rd (Zg (YZ d.vars (f.text :: (ZZ f.hyps).map Hy.text).flatten))), (9, .int k)] (XO J S w0.heap.size []) a w) (fun (k : Nat) => (f.wide.length - k : Nat)) ?_ ?_)))))))
     ·
      intro a w h
      exact ⟨0, (show (0 ≤ f.wide.length) ∧ ((f.wide.take 0).any (Zmv d) = false) from ⟨Nat.zero_le _, rfl⟩), lz [0, 1, 2, 3] rfl h⟩
     ·
      rintro k
      refine ZD fun hF => ?_
      obtain ⟨f3_1, f3_2⟩ := hF
      refine Za (Za (rgo tb hJ [0, 1, 2, 3, 1002, 1004] [_, _, _, .int f.wide.length, _] [3] [(_, _), (_, _), (_, _), (_, _), (_, .rd (YG f.wide)), (_, .bool (decide ((k : Int) < (f.wide.length : Int))))] rfl rfl rfl rfl ⟨Ys Z1 rfl rfl rfl rfl, trivial⟩ (nx (Zf (fun a w h => Zj h 4 rfl) fun hl9 => tc 5 rfl rfl (fun hb6 => ?_) (fun hb6 => ?_)))))
      ·
       try simp at hb6
       refine Zd (nx (Za (Ze (Za (Zn (sv (av := .ptr [YG f.wide, Zg f.proof]) tb rfl rfl rfl rfl (sv (av := .rd (YG f.wide)) tb rfl rfl rfl rfl (sv tb rfl rfl rfl rfl (sq (.ptr (prC (ge f.wide k))) rfl rfl (lb rfl) (fun _ _ h => ZI (i := (k : Int)) ZH rfl (h.get 1 rfl) (h.get 0 rfl) (Int.natCast_nonneg _) (ZL (xs := f.wide) (k := k) (by first | omega | (simp; omega) | grind [Zb])) rfl h.x) (sv (av := .agg (prC (ge f.wide k))) tb rfl rfl rfl rfl (QZ (cs := prC (ge f.wide k)) Zel rfl rfl rfl (lb rfl) rfl rfl rfl (by decide) (m := 0) rfl rfl (fun a w h => Zr hS _ h.keep h.x _ (Nat.le_refl _)) (fun a w h w' hk' => YY hJ _ _ hk' h.x) (Zy ?_))))))))))))
       refine kw (lz [0, 6, 7, 8, 9] (env' := [(_, _), (_, _), (_, _), (_, _), (_, _)]) rfl) ?_
       refine nx (Za (rgo tb hJ [1, 2, 3, 4, 1020] [_, _, _, _, _, _, _, _, _, _, .bool (decide (((ge f.wide k).a) ∈ d.vars)), _, _, _, _, _, _, _, .bool (decide (((ge f.wide k).b) ∈ d.vars)), _, _] [10, 18] [(_, _), (_, _), (_, _), (_, _), (_, .bool (((!Op.bytesLess ((ge f.wide k).a).toList ((ge f.wide k).b).toList) || (!(decide (((ge f.wide k).a) ∈ d.vars)))) || (!(decide (((ge f.wide k).b) ∈ d.vars)))))] rfl rfl rfl rfl ⟨fun a _ hk hx hl hc => Qk (Zax hJ (xs := d.vars) (s := ((ge f.wide k).a)) ) YN rfl (Zr hS _ hk hx) (hx.1) (Zc (hl.dep 7 84 _ rfl rfl rfl hc) (Zc (hl.dep 9 86 _ rfl rfl rfl hc) Zm)) (jo hJ hx), fun _ _ hk hx hl hc => Qk (Zax hJ (xs := d.vars) (s := ((ge f.wide k).b)) ) YN rfl (Zr hS _ hk hx) (hx.1) (Zc (hl.dep 15 92 _ rfl rfl rfl hc) (Zc (hl.dep 17 94 _ rfl rfl rfl hc) Zm)) (jo hJ hx), trivial⟩ (nx (tc 4 rfl rfl (fun hb7 => ?_) (fun hb7 => ?_)))))
       ·
        have q7 : f.wide.any (Zmv d) = true := Qj (by omega : k < f.wide.length) hb7
        refine Za (rgo tb hJ [1000] [_] [] [(_, .bool false)] rfl rfl rfl rfl trivial (nx (Zi (fun a w h => Zh (m := 0) rfl (Zl h) rfl (congrArg AV.bool (show false = (ZaI d f) from by clear h; first | (rw [ZaI, q3]; rfl) | (rw [ZaI, e1, q5]; rfl) | (rw [ZaI, e1, e4, q7]; rfl) | (rw [ZaI, e1, e4, e6]; rfl)))))))
       ·
        refine Zd (nx (rgo tb hJ [0, 1, 2, 1002] [_, .int ((k + 1 : Nat) : Int), _] [1] [(_, _), (_, _), (_, _), (_, .int ((k + 1 : Nat) : Int))] rfl rfl rfl rfl ⟨Yc (by first | omega | (simp; omega) | grind [Zb]) rfl rfl rfl rfl rfl, trivial⟩ ?_))
        intro a w h; change ∃ j, _ ∧ _
        exact ⟨k + 1, ⟨⟨(show (k + 1) ≤ f.wide.length from by omega), (show (f.wide.take (k + 1)).any (Zmv d) = false from XH (by omega) f3_2 hb7)⟩, lz [0, 1, 2, 3] rfl h⟩, (show f.wide.length - (k + 1) < f.wide.length - k from by first | omega | (simp; omega))⟩
      ·
       try simp at hb6
       have e6 := XG (p := Zmv d) f3_2 (by omega)
       refine Zv (nx (Za (rgo tb hJ [1004, 1015] [_, _, _, _, _, .bool (decide (f.wide = (ZbJ f.wide ([] : List Pr)))), _, _, _, _, _, _, .rd (YG (f.wide.filter (inV (YZ d.vars (f.text :: (ZZ f.hyps).map Hy.text).flatten)))), .bool (decide (f.apart = (f.wide.filter (inV (YZ d.vars (f.text :: (ZZ f.hyps).map Hy.text).flatten))))), _, _] [4, 5, 12, 13] [(_, .rd (YG (ZbJ f.wide ([] : List Pr)))), (_, .bool ((decide (f.wide = (ZbJ f.wide ([] : List Pr)))) && (decide (f.apart = (f.wide.filter (inV (YZ d.vars (f.text :: (ZZ f.hyps).map Hy.text).flatten)))))))] rfl rfl rfl rfl ⟨fun _ _ hk hx hl _ => Qk (c_Join hJ (ws := f.wide) (zs := ([] : List Pr)) (by simp only [List.length_nil]; omega)) Zl1 rfl (Zr hS _ hk hx) (hx.1) (Zc (hl.dep 3 101 _ rfl rfl rfl rfl) (Zc (QL (Rel.of_lit (Go.Value.slice none 0 0))) Zm)) (jo hJ hx), hFo hS hJ (ZcK hJ (xs := f.wide) (ys := (ZbJ f.wide ([] : List Pr))) ) Zhg rfl rfl rfl rfl, fun _ _ hk hx hl hc => Qk (Zmo hJ (l := f.wide) (vs := (YZ d.vars (f.text :: (ZZ f.hyps).map Hy.text).flatten)) (by have hc' : ((decide (f.wide = (ZbJ f.wide ([] : List Pr)))) == true) = true := hc; (try simp at hc'); (omega))) Zl0 rfl (Zr hS _ hk hx) (hx.1) (Zc (hl.dep 10 108 _ rfl rfl rfl hc) (Zc (hl.dep 11 109 _ rfl rfl rfl hc) Zm)) (jo hJ hx), fun _ _ hk hx hl hc => Qk (ZcK hJ (xs := f.apart) (ys := (f.wide.filter (inV (YZ d.vars (f.text :: (ZZ f.hyps).map Hy.text).flatten)))) ) Zhg rfl (Zr hS _ hk hx) (hx.1) (Zc (hl.dep 8 106 _ rfl rfl rfl hc) (Zc (hl.dep 12 110 _ rfl rfl rfl hc) Zm)) (jo hJ hx), trivial⟩ (nx (Zf (fun a w h => Zj h 0 rfl) fun hl10 => Zi (fun a w h => Zh (m := 1) rfl (Zl h) rfl (congrArg AV.bool (show ((decide (f.wide = (ZbJ f.wide ([] : List Pr)))) && (decide (f.apart = (f.wide.filter (inV (YZ d.vars (f.text :: (ZZ f.hyps).map Hy.text).flatten)))))) = (ZaI d f) from by clear h; first | (rw [ZaI, q3]; rfl) | (rw [ZaI, e1, q5]; rfl) | (rw [ZaI, e1, e4, q7]; rfl) | (rw [ZaI, e1, e4, e6]; rfl)))))))))

theorem Zj2 {J : World → Prop} (hJ : Stab J) (d : Db)  : Fn Tryz.prog J 79 [.agg (dbC d)] (.int (Xf d)) := by
 refine Zx (N := 63) Tryz.func79 rfl rfl (lb rfl) fun S w0 hS hJ0 => ?_
 clear hJ0
 refine Za (rg tb hJ [1000] [_, _] [0] [(_, .ptr (dbC d))] rfl rfl rfl rfl ⟨fun _ _ hk hx hl _ => Yv rfl (hl.env 0 0 _ rfl rfl) (hS _ hk.size) (js hJ hx), trivial⟩ (nx (Za (Za (rg tb hJ [0, 1000] [_] [] [(_, _), (_, .int (0 : Int))] rfl rfl rfl rfl trivial (nx (Ze (Zw (ι := Nat) (fun (k : Nat) a w => ((k ≤ d.consts.length) ∧ (∀ j, j < k → ZbK d j = 0)) ∧ St All S w0 63 [(1, .ptr (dbC d)), (3, .int k)] J a w) (fun (k : Nat) => (d.consts.length - k : Nat)) ?_ ?_))))))))
 intro a w h
 exact ⟨0, (show (0 ≤ d.consts.length) ∧ (∀ j, j < 0 → ZbK d j = 0) from ⟨Nat.zero_le _, fun j hj => by omega⟩), lz [0, 1] rfl h⟩
 rintro k
 refine ZD fun hF => ?_
 obtain ⟨f1_1, f1_2⟩ := hF
 refine Za (Za (rg tb hJ [0, 1, 1002, 1004] [_, _, _, .int d.consts.length, _] [3] [(_, _), (_, _), (_, .rd (Zg d.consts)), (_, .bool (decide ((k : Int) < (d.consts.length : Int))))] rfl rfl rfl rfl ⟨Ys ZB rfl rfl rfl rfl, trivial⟩ (nx (Zf (fun a w h => Zj h 2 rfl) fun hl1 => tc 3 rfl rfl (fun hb1 => ?_) (fun hb1 => ?_)))))
 try simp at hb1
 refine Zd (nx (Za (Ze (Za (Za (rg tb hJ [0, 1, 1006] [_, _, _, .ptr [.lit (.string (ge d.consts k))], _, .bool (Zbh (ge d.consts k)), _] [3, 5] [(_, _), (_, _), (_, .bool (!(Zbh (ge d.consts k))))] rfl rfl rfl rfl ⟨hIx Zk (by first | omega | (simp; omega) | grind [Zb]) rfl rfl rfl rfl rfl rfl, hFn hS hJ (Zdx hJ (s := (ge d.consts k)) ) Zhm rfl rfl rfl rfl, trivial⟩ (nx (tc 2 rfl rfl (fun hb2 => ?_) (fun hb2 => ?_)))))))))
 try simp at hb2
 have q2 : ZbK d k = 2 := by simp [ZbK, hb2]
 refine Za (rg tb hJ [1000] [_] [] [(_, .int (2 : Int))] rfl rfl rfl rfl trivial (nx (Zi (fun a w h => Zh (m := 0) rfl h rfl (congrArg AV.int (show (2 : Int) = (Xf d) from by first | (clear h; have := Z9 (by omega : k < d.consts.length) f1_2 (by rw [q2]; decide); rw [Xf, this, q2]; rfl) | (clear h; have := Z9 (by omega : k < d.vars.length) f2_2 (by rw [q5]; decide); rw [Xf, e1, this, q5]; rfl) | (rw [Xf, e1, e4]; rfl)))))))
 try simp at hb2
 refine Zd (nx (Za (rg tb hJ [0, 1, 1003, 1009] [_, _, _, _, _, _, _, .ptr [.lit (.string (ge d.consts k))], _, _] [3, 7, 9] [(_, _), (_, _), (_, .rd (Zg (d.consts.take k))), (_, .bool (decide ((ge d.consts k) ∈ (d.consts.take k))))] rfl rfl rfl rfl ⟨fun _ _ _ hx hl _ => Xb (ys := d.consts.take k) (lo := 0) (hi := k) List.drop_zero Zk (fun _ => rfl) rfl (hl.dep 1 20 _ rfl rfl rfl rfl) rfl (hl.dep 2 21 _ rfl rfl rfl rfl) (by first | omega | (simp; omega) | grind [Zb]) (by first | omega | (simp; omega) | grind [Zb]) hx, hIx Zk (by first | omega | (simp; omega) | grind [Zb]) rfl rfl rfl rfl rfl rfl, hFn hS hJ (Zax hJ (xs := (d.consts.take k)) (s := (ge d.consts k)) ) YN rfl rfl rfl rfl, trivial⟩ (nx (Zf (fun a w h => Zj h 2 rfl) fun hl2 => tc 3 rfl rfl (fun hb3 => ?_) (fun hb3 => ?_))))))
 try simp at hb3
 have q2 : ZbK d k = 6 := by simp [ZbK, hb2, hb3]
 refine Za (rg tb hJ [1000] [_] [] [(_, .int (6 : Int))] rfl rfl rfl rfl trivial (nx (Zi (fun a w h => Zh (m := 0) rfl h rfl (congrArg AV.int (show (6 : Int) = (Xf d) from by first | (clear h; have := Z9 (by omega : k < d.consts.length) f1_2 (by rw [q2]; decide); rw [Xf, this, q2]; rfl) | (clear h; have := Z9 (by omega : k < d.vars.length) f2_2 (by rw [q5]; decide); rw [Xf, e1, this, q5]; rfl) | (rw [Xf, e1, e4]; rfl)))))))
 try simp at hb3
 refine Zd (nx (rg tb hJ [0, 1002] [_, .int ((k + 1 : Nat) : Int), _] [1] [(_, _), (_, .int ((k + 1 : Nat) : Int))] rfl rfl rfl rfl ⟨Yc (by first | omega | (simp; omega) | grind [Zb]) rfl rfl rfl rfl rfl, trivial⟩ ?_))
 intro a w h; change ∃ j, _ ∧ _
 exact ⟨k + 1, ⟨⟨(show (k + 1) ≤ d.consts.length from by omega), (show ∀ j, j < (k + 1) → ZbK d j = 0 from ZW f1_2 (by simp_all [ZbK]))⟩, lz [0, 1] rfl h⟩, (show d.consts.length - (k + 1) < d.consts.length - k from by first | omega | (simp; omega))⟩
 try simp at hb1
 have e1 : YV d.consts.length (ZbK d) = 0 := Xl fun j hj => f1_2 j (by omega)
 refine Zv (nx (Za (Za (rg tb hJ [0, 1000] [_] [] [(_, _), (_, .int (0 : Int))] rfl rfl rfl rfl trivial (nx (Ze (Zw (ι := Nat) (fun (k : Nat) a w => ((k ≤ d.vars.length) ∧ (∀ j, j < k → ZcT d j = 0)) ∧ St All S w0 63 [(1, .ptr (dbC d)), (4, .int k)] J a w) (fun (k : Nat) => (d.vars.length - k : Nat)) ?_ ?_)))))))
 intro a w h
 exact ⟨0, (show (0 ≤ d.vars.length) ∧ (∀ j, j < 0 → ZcT d j = 0) from ⟨Nat.zero_le _, fun j hj => by omega⟩), lz [0, 1] rfl h⟩
 rintro k
 refine ZD fun hF => ?_
 obtain ⟨f2_1, f2_2⟩ := hF
 refine Za (Za (rg tb hJ [0, 1, 1002, 1004] [_, _, _, .int d.vars.length, _] [3] [(_, _), (_, _), (_, .rd (Zg d.vars)), (_, .bool (decide ((k : Int) < (d.vars.length : Int))))] rfl rfl rfl rfl ⟨Ys ZB rfl rfl rfl rfl, trivial⟩ (nx (Zf (fun a w h => Zj h 2 rfl) fun hl3 => tc 3 rfl rfl (fun hb4 => ?_) (fun hb4 => ?_)))))
 try simp at hb4
 refine Zd (nx (Za (Ze (Za (Za (rg tb hJ [0, 1, 1006] [_, _, _, .ptr [.lit (.string (ge d.vars k))], _, .bool (Zbh (ge d.vars k)), _] [3, 5] [(_, _), (_, _), (_, .bool (!(Zbh (ge d.vars k))))] rfl rfl rfl rfl ⟨hIx Zk (by first | omega | (simp; omega) | grind [Zb]) rfl rfl rfl rfl rfl rfl, hFn hS hJ (Zdx hJ (s := (ge d.vars k)) ) Zhm rfl rfl rfl rfl, trivial⟩ (nx (tc 2 rfl rfl (fun hb5 => ?_) (fun hb5 => ?_)))))))))
 try simp at hb5
 have q5 : ZcT d k = 2 := by simp [ZcT, hb5]
 refine Za (rg tb hJ [1000] [_] [] [(_, .int (2 : Int))] rfl rfl rfl rfl trivial (nx (Zi (fun a w h => Zh (m := 0) rfl h rfl (congrArg AV.int (show (2 : Int) = (Xf d) from by first | (clear h; have := Z9 (by omega : k < d.consts.length) f1_2 (by rw [q2]; decide); rw [Xf, this, q2]; rfl) | (clear h; have := Z9 (by omega : k < d.vars.length) f2_2 (by rw [q5]; decide); rw [Xf, e1, this, q5]; rfl) | (rw [Xf, e1, e4]; rfl)))))))
 try simp at hb5
 refine Zd (nx (Za (rg tb hJ [0, 1, 1019] [_, _, _, _, _, .ptr [.lit (.string (ge d.vars k))], _, .bool (decide ((ge d.vars k) ∈ d.consts)), _, _, _, _, .rd (Zg (d.vars.take k)), _, _, _, .ptr [.lit (.string (ge d.vars k))], _, .bool (decide ((ge d.vars k) ∈ (d.vars.take k))), _] [5, 7, 12, 16, 18] [(_, _), (_, _), (_, .bool ((decide ((ge d.vars k) ∈ d.consts)) || (decide ((ge d.vars k) ∈ (d.vars.take k)))))] rfl rfl rfl rfl ⟨hIx Zk (by first | omega | (simp; omega) | grind [Zb]) rfl rfl rfl rfl rfl rfl, hFn hS hJ (Zax hJ (xs := d.consts) (s := (ge d.vars k)) ) YN rfl rfl rfl rfl, fun _ _ _ hx hl hc => Xb (ys := d.vars.take k) (lo := 0) (hi := k) List.drop_zero Zk (fun _ => rfl) rfl (hl.dep 10 53 _ rfl rfl rfl hc) rfl (hl.dep 11 54 _ rfl rfl rfl hc) (by have hc' : ((decide ((ge d.vars k) ∈ d.consts)) == false) = true := hc; (try simp at hc'); (first | omega | (simp; omega) | grind [Zb])) (by have hc' : ((decide ((ge d.vars k) ∈ d.consts)) == false) = true := hc; (try simp at hc'); (first | omega | (simp; omega) | grind [Zb])) hx, fun _ _ _ hx hl hc => ZI (i := (k : Int)) Zk rfl (hl.dep 14 57 _ rfl rfl rfl hc) (hl.dep 15 58 _ rfl rfl rfl hc) (Int.natCast_nonneg _) (ZL (xs := d.vars) (k := k) (by have hc' : ((decide ((ge d.vars k) ∈ d.consts)) == false) = true := hc; (try simp at hc'); (first | omega | (simp; omega) | grind [Zb]))) rfl hx, fun _ _ hk hx hl hc => Qk (Zax hJ (xs := (d.vars.take k)) (s := (ge d.vars k)) ) YN rfl (nm hS hk) (hx) (Zc (hl.dep 12 55 _ rfl rfl rfl hc) (Zc (hl.dep 17 60 _ rfl rfl rfl hc) Zm)) (js hJ hx), trivial⟩ (nx (tc 2 rfl rfl (fun hb6 => ?_) (fun hb6 => ?_))))))
 try simp at hb6
 have q5 : ZcT d k = 6 := by simp_all [ZcT]
 refine Za (rg tb hJ [1000] [_] [] [(_, .int (6 : Int))] rfl rfl rfl rfl trivial (nx (Zi (fun a w h => Zh (m := 0) rfl h rfl (congrArg AV.int (show (6 : Int) = (Xf d) from by first | (clear h; have := Z9 (by omega : k < d.consts.length) f1_2 (by rw [q2]; decide); rw [Xf, this, q2]; rfl) | (clear h; have := Z9 (by omega : k < d.vars.length) f2_2 (by rw [q5]; decide); rw [Xf, e1, this, q5]; rfl) | (rw [Xf, e1, e4]; rfl)))))))
 try simp at hb6
 refine Zd (nx (rg tb hJ [0, 1002] [_, .int ((k + 1 : Nat) : Int), _] [1] [(_, _), (_, .int ((k + 1 : Nat) : Int))] rfl rfl rfl rfl ⟨Yc (by first | omega | (simp; omega) | grind [Zb]) rfl rfl rfl rfl rfl, trivial⟩ ?_))
 intro a w h; change ∃ j, _ ∧ _
 exact ⟨k + 1, ⟨⟨(show (k + 1) ≤ d.vars.length from by omega), (show ∀ j, j < (k + 1) → ZcT d j = 0 from ZW f2_2 (by simp_all [ZcT]))⟩, lz [0, 1] rfl h⟩, (show d.vars.length - (k + 1) < d.vars.length - k from by first | omega | (simp; omega))⟩
 try simp at hb4
 have e4 : YV d.vars.length (ZcT d) = 0 := Xl fun j hj => f2_2 j (by omega)
 refine Zv (nx (Za (rg tb hJ [1000] [_] [] [(_, .int (0 : Int))] rfl rfl rfl rfl trivial (nx (Zi (fun a w h => Zh (m := 0) rfl h rfl (congrArg AV.int (show (0 : Int) = (Xf d) from by first | (clear h; have := Z9 (by omega : k < d.consts.length) f1_2 (by rw [q2]; decide); rw [Xf, this, q2]; rfl) | (clear h; have := Z9 (by omega : k < d.vars.length) f2_2 (by rw [q5]; decide); rw [Xf, e1, this, q5]; rfl) | (rw [Xf, e1, e4]; rfl)))))))))
end Go.Proofs.YtnpgmdffjemnbaaGreatDoor
