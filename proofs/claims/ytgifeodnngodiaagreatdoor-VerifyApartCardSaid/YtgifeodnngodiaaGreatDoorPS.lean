/-
  FACTS of the program's types and functions.
  CONTRACTS of the program: look-ups, functions that take functions.
  CONTRACTS of the library: slices' functions.
  CONTRACTS of the library: slices.DeleteFunc.
-/
import Derived.Test.YtgifeodnngodiaaGreatDoorPR
import Derived.Laws.StructEq
set_option maxHeartbeats 8000000
set_option maxRecDepth 100000
namespace Go.Proofs.YtgifeodnngodiaaGreatDoor
open Go.RowKit
theorem Ye : Tryz.prog.follows .mixedOrders = true := by kernel_rfl
theorem Zlc : (Tryz.prog.fieldsOf 62).toList = [{ name := "A", type := 9, offset := 0, embedded := false, tag := "", pkgPath := "", byteOffset := 0 }, { name := "B", type := 9, offset := 1, embedded := false, tag := "", pkgPath := "", byteOffset := 16 }] := by kernel_rfl
theorem Zla : Tryz.prog.underlying 62 = some (.struct (Tryz.prog.fieldsOf 62)) := by kernel_rfl
theorem Zpw : Tryz.prog.underlying 9 = some .string := by kernel_rfl
theorem ZfV (c : Array Value) (i : Nat) (v : Value) (h : c[i]? = some v) (w : World) : (part 9 c i).run Tryz.prog w = .ok v w := by
 simp [part, Tryz.isAgg9, h]
theorem Zmf : ZmT Tryz.prog 62 := by
 intro a b c d w x y
 refine ⟨by simp [eqGuard], by simp [eqGuard], ?_⟩
 unfold Op.equal Op.maxDepth
 rw [run_equalIn_struct w 9999 62 _ _ Zla (by kernel_rfl), Zlc]
 have e1 := fun (c : Array Value) (v : Value) (i : Nat) (h : c[i]? = some v) => ZfV c i v h
 have q1 := run_equalIn_string (P := Tryz.prog) w 9998 9 a c Zpw
 have q2 := run_equalIn_string (P := Tryz.prog) w 9998 9 b d Zpw
 rw [Q4] at q1 q2
 simp only [Op.eqFields]
 rw [if_pos (by decide), if_pos (by decide)]
 simp only [Sem.run_bind]
 rw [e1 _ (.string a) 0 rfl w, Result.andThen_ok, e1 _ (.string c) 0 rfl w, Result.andThen_ok, q1, Result.andThen_ok]
 by_cases h1 : a = c
 · simp only [h1, decide_true, Bool.not_true, Bool.false_eq_true, if_false, Sem.run_bind]
   rw [e1 _ (.string b) 1 rfl w, Result.andThen_ok, e1 _ (.string d) 1 rfl w, Result.andThen_ok, q2, Result.andThen_ok]
   by_cases h2 : b = d
   · simp [h2, Sem.run_pure]
   · simp [h2, Sem.run_pure]
 · simp [h1, Sem.run_pure]
theorem Zlz : Qg Tryz.prog 108 := fun w => by kernel_rfl
theorem ZL : Zj4 Tryz.prog 108 9 4 keyS.kind := ⟨by kernel_rfl, by kernel_rfl⟩
theorem ZX : Zg2 Tryz.prog 4 (.bool false) := ⟨(.bool false), fun w => by kernel_rfl, fun S w => Rel.of_lit _⟩
theorem ZhF : ZT Tryz.prog 112 1 1 := fun b off w => by kernel_rfl
theorem Zdh : Qg Tryz.prog 106 := fun w => by kernel_rfl
theorem Zfn : Zp Tryz.prog 94 := Zu Tryz.func94 rfl rfl
theorem Zw : Tryz.prog.underlying 22 = some (.slice 9) := by kernel_rfl
theorem Zh : Yi Tryz.prog 22 9 1 := ⟨by kernel_rfl, fun w => by kernel_rfl⟩
theorem Qf : Qg Tryz.prog 9 := fun w => by kernel_rfl
theorem Zsl : Zp Tryz.prog 36 := Zu Tryz.func36 rfl rfl
theorem ZF : Tryz.prog.underlying 34 = some (.slice 45) := by kernel_rfl
theorem ZH : Yi Tryz.prog 34 45 3 := ⟨by kernel_rfl, fun w => by kernel_rfl⟩
theorem Qa : XJ Tryz.prog 45 3 := ⟨fun w => by kernel_rfl, fun w => by kernel_rfl⟩
theorem ZhL : Zp Tryz.prog 44 := Zu Tryz.func44 rfl rfl
theorem Z8 : Tryz.prog.underlying 35 = some (.slice 62) := by kernel_rfl
theorem ZC : Yi Tryz.prog 35 62 2 := ⟨by kernel_rfl, fun w => by kernel_rfl⟩
theorem Xy : XJ Tryz.prog 62 2 := ⟨fun w => by kernel_rfl, fun w => by kernel_rfl⟩
theorem XE : Tryz.prog.underlying 23 = some (.slice 37) := by kernel_rfl
theorem Yh : Yi Tryz.prog 23 37 8 := ⟨by kernel_rfl, fun w => by kernel_rfl⟩
theorem ZfA : XJ Tryz.prog 37 8 := ⟨fun w => by kernel_rfl, fun w => by kernel_rfl⟩
theorem Zsh : Zp Tryz.prog 45 := Zu Tryz.func45 rfl rfl
theorem XX : ZfI Tryz.prog 22 9 1 16 := ZsB (.string ⟨#[]⟩) (by kernel_rfl) (by kernel_rfl) rfl (by decide) (fun w => by kernel_rfl)
theorem ZbZ : ZfI Tryz.prog 34 45 3 48 := ZsB (.agg #[.string ⟨#[]⟩, .bool false, .slice none 0 0]) (by kernel_rfl) (by kernel_rfl) rfl (by decide) (fun w => by kernel_rfl)
theorem ZdU : ZfI Tryz.prog 35 62 2 32 := ZsB (.agg #[.string ⟨#[]⟩, .string ⟨#[]⟩]) (by kernel_rfl) (by kernel_rfl) rfl (by decide) (fun w => by kernel_rfl)
theorem Zad : Zpt Tryz.prog 45 3 := ⟨(#[.string ⟨#[]⟩, .bool false, .slice none 0 0]), rfl, by kernel_rfl⟩
theorem YS : XD Tryz.prog 45 3 := fun w => by kernel_rfl
theorem Zi8 : Zed Tryz.prog 45 3 := ⟨(.agg #[.string ⟨#[]⟩, .bool false, .slice none 0 0]), fun w => by kernel_rfl, rfl, by simp [Value.cells, Value.oneCell']⟩
theorem ZoD : Zp Tryz.prog 159 := Zu Tryz.func159 rfl rfl
theorem ZeN : Zpt Tryz.prog 62 2 := ⟨(#[.string ⟨#[]⟩, .string ⟨#[]⟩]), rfl, by kernel_rfl⟩
theorem Xt : XD Tryz.prog 62 2 := fun w => by kernel_rfl
theorem Zeh : Zed Tryz.prog 62 2 := ⟨(.agg #[.string ⟨#[]⟩, .string ⟨#[]⟩]), fun w => by kernel_rfl, rfl, by simp [Value.cells, Value.oneCell']⟩
theorem Q1 : ZT Tryz.prog 62 0 0 := fun b off w => by kernel_rfl
theorem Zi2 : Zp Tryz.prog 140 := Zu Tryz.func140 rfl rfl
theorem Q0 : ZT Tryz.prog 62 1 1 := fun b off w => by kernel_rfl
theorem Za7 : ZT Tryz.prog 45 0 0 := fun b off w => by kernel_rfl
theorem Zgj : Qg Tryz.prog 4 := fun w => by kernel_rfl
theorem undb_4 : Tryz.prog.underlying 4 = some .bool := by kernel_rfl
theorem Q2 : ZT Tryz.prog 45 2 2 := fun b off w => by kernel_rfl
theorem X1 : Qg Tryz.prog 22 := fun w => by kernel_rfl
theorem ZmB : Zp Tryz.prog 80 := Zu Tryz.func80 rfl rfl
theorem Z7 : Yi Tryz.prog 52 22 1 := ⟨by kernel_rfl, fun w => by kernel_rfl⟩
theorem ZcT : ZdW Tryz.prog 22 := ⟨.slice none 0 0, fun w => by kernel_rfl⟩
theorem ZbY : ZfI Tryz.prog 52 22 1 24 := ZsB (.slice none 0 0) (by kernel_rfl) (by kernel_rfl) rfl (by decide) (fun w => by kernel_rfl)
theorem ZaW : Tryz.prog.underlying 52 = some (.slice 22) := by kernel_rfl
theorem ZoN : Zp Tryz.prog 142 := Zu Tryz.func142 rfl rfl
theorem Zse : Zp Tryz.prog 54 := Zu Tryz.func54 rfl rfl
theorem ZoO : Zp Tryz.prog 141 := Zu Tryz.func141 rfl rfl
theorem Zpd : Zp Tryz.prog 107 := Zu Tryz.func107 rfl rfl
theorem Qp : ZT Tryz.prog 37 2 2 := fun b off w => by kernel_rfl
theorem Zcq : Qg Tryz.prog 34 := fun w => by kernel_rfl
theorem ZmI : Zp Tryz.prog 23 := Zu Tryz.func23 rfl rfl
theorem Zpe : Zp Tryz.prog 106 := Zu Tryz.func106 rfl rfl
theorem Yz : ZfH Tryz.prog 45 [.lit (.string ⟨#[]⟩), .lit (.bool false), .sl []] := ⟨(.agg #[.string ⟨#[]⟩, .bool false, .slice none 0 0]), fun w => by kernel_rfl, fun S w => (show RdL S w [.lit (.string ⟨#[]⟩), .lit (.bool false), .sl []] [.string ⟨#[]⟩, .bool false, .slice none 0 0] from ⟨.lit _ (Nat.zero_le _), .lit _ True.intro, .nil _ _ (Nat.zero_le _), trivial⟩)⟩
theorem ZmJ : Zp Tryz.prog 14 := Zu Tryz.func14 rfl rfl
theorem ZfU : XD Tryz.prog 22 1 := fun w => by kernel_rfl
theorem Zo2 : Zp Tryz.prog 121 := Zu Tryz.func121 rfl rfl
theorem Zbv : Zp Tryz.prog 11 := Zu Tryz.func11 rfl rfl
theorem ZbB : ZfH Tryz.prog 195 ((List.replicate 256 (0 : UInt8)).map u8D) := Zna (.agg (Array.replicate 256 (.int .u8 0))) (fun w => by kernel_rfl) (by simp [Value.cells])
theorem X2 : Tryz.prog.underlying 3 = some (.int .i64) := by kernel_rfl
theorem ZbC : Tryz.prog.underlying 5 = some (.int .u8) := by kernel_rfl
theorem Xw : ArrT Tryz.prog 195 5 256 := ⟨by kernel_rfl, fun w => by kernel_rfl, by decide⟩
theorem ZcI : XD Tryz.prog 5 1 := fun w => by kernel_rfl
theorem ZdV : XJ Tryz.prog 195 256 := ⟨fun w => by kernel_rfl, fun w => by kernel_rfl⟩
theorem Zcm : XD Tryz.prog 195 256 := fun w => by kernel_rfl
theorem Zjf : Tryz.prog.underlying 178 = some (.slice 5) := by kernel_rfl
theorem ZaR : Yi Tryz.prog 178 5 1 := ⟨by kernel_rfl, fun w => by kernel_rfl⟩
theorem one_5 : Qg Tryz.prog 5 := fun w => by kernel_rfl
theorem ZoE : Zp Tryz.prog 157 := Zu Tryz.func157 rfl rfl
theorem YX : Tryz.prog.underlying 9 = some .string := by kernel_rfl
theorem ZoQ : Zp Tryz.prog 138 := Zu Tryz.func138 rfl rfl
theorem ZoP : Zp Tryz.prog 139 := Zu Tryz.func139 rfl rfl
theorem zero_5 : ZdW Tryz.prog 5 := ⟨.int .u8 0, fun w => by kernel_rfl⟩
theorem Zi4 : Zp Tryz.prog 118 := Zu Tryz.func118 rfl rfl
theorem Zka : Zed Tryz.prog 5 1 := ⟨(.int .u8 0), fun w => by kernel_rfl, rfl, by simp [Value.cells, Value.oneCell']⟩
theorem ZiX : Zp Tryz.prog 162 := Zu Tryz.func162 rfl rfl
theorem ZhI : Zp Tryz.prog 93 := Zu Tryz.func93 rfl rfl
theorem ZoB : Zp Tryz.prog 163 := Zu Tryz.func163 rfl rfl
theorem ZiY : Zp Tryz.prog 161 := Zu Tryz.func161 rfl rfl
theorem Zbq : Qg Tryz.prog 3 := fun w => by kernel_rfl
theorem Zay : Tryz.prog.underlying 216 = some (.array 10 215) := by kernel_rfl
theorem Za0 : XD Tryz.prog 215 4 := fun w => by kernel_rfl
theorem Zg0 : XJ Tryz.prog 215 4 := ⟨fun w => by kernel_rfl, fun w => by kernel_rfl⟩
theorem ZbA : ZfH Tryz.prog 215 [.lit (.string ⟨#[]⟩), .lit (.bool false), .lit (.int .i64 0), .lit (.int .i64 0)] := ⟨(.agg #[.string ⟨#[]⟩, .bool false, .int .i64 0, .int .i64 0]), fun w => by kernel_rfl, fun S w => (show RdL S w [.lit (.string ⟨#[]⟩), .lit (.bool false), .lit (.int .i64 0), .lit (.int .i64 0)] [.string ⟨#[]⟩, .bool false, .int .i64 0, .int .i64 0] from ⟨.lit _ (Nat.zero_le _), .lit _ True.intro, .lit _ True.intro, .lit _ True.intro, trivial⟩)⟩
theorem Zfm : Zp Tryz.prog 95 := Zu Tryz.func95 rfl rfl
theorem ZhB : ZT Tryz.prog 174 2 2 := fun b off w => by kernel_rfl
theorem ZhA : ZT Tryz.prog 174 3 3 := fun b off w => by kernel_rfl
theorem ZoK : Zp Tryz.prog 145 := Zu Tryz.func145 rfl rfl
theorem Zax : Tryz.prog.underlying 175 = some (.slice 174) := by kernel_rfl
theorem QS : Yi Tryz.prog 175 174 4 := ⟨by kernel_rfl, fun w => by kernel_rfl⟩
theorem ZoC : Zp Tryz.prog 160 := Zu Tryz.func160 rfl rfl
theorem Zby : ZdW Tryz.prog 9 := ⟨.string ⟨#[]⟩, fun w => by kernel_rfl⟩
theorem Zhz : ZT Tryz.prog 215 0 0 := fun b off w => by kernel_rfl
theorem ZoL : Zp Tryz.prog 144 := Zu Tryz.func144 rfl rfl
theorem ZoM : Zp Tryz.prog 143 := Zu Tryz.func143 rfl rfl
theorem Zkk : Zpt Tryz.prog 174 4 := ⟨(#[.int .i64 0, .string ⟨#[]⟩, .slice none 0 0, .slice none 0 0]), rfl, by kernel_rfl⟩
theorem ZoJ : Zp Tryz.prog 146 := Zu Tryz.func146 rfl rfl
theorem ZhM : Zbl Tryz.prog 174 4 := ⟨#[.int .i64 0, .string ⟨#[]⟩, .slice none 0 0, .slice none 0 0], rfl, fun i => (#[(0, 1), (1, 1), (2, 1), (3, 1)] : Array (Nat × Nat))[i]?, fun j hj => by rcases j with _ | _ | _ | _ | j <;> first | rfl | omega, fun parts => by kernel_rfl⟩
theorem Zm3 : ZdW Tryz.prog 174 := ⟨.agg #[.int .i64 0, .string ⟨#[]⟩, .slice none 0 0, .slice none 0 0], fun w => by kernel_rfl⟩
theorem ZoW : Zp Tryz.prog 127 := Zu Tryz.func127 rfl rfl
theorem ZjW : ZT Tryz.prog 25 1 1 := fun b off w => by kernel_rfl
theorem ZhE : ZT Tryz.prog 112 2 2 := fun b off w => by kernel_rfl
theorem ZdA : ZT Tryz.prog 137 1 1 := fun b off w => by kernel_rfl
theorem Zho : Qg Tryz.prog 110 := fun w => by kernel_rfl
theorem QI : Zj4 Tryz.prog 110 9 9 keyS.kind := ⟨by kernel_rfl, by kernel_rfl⟩
theorem ZcU : Zg2 Tryz.prog 9 (.str default) := ⟨(.string ⟨#[]⟩), fun w => by kernel_rfl, fun S w => (show Rel S w (.str ⟨#[]⟩) _ from Rel.of_lit _ (Nat.zero_le _))⟩
theorem ZhD : ZT Tryz.prog 112 4 4 := fun b off w => by kernel_rfl
theorem Qt : ZT Tryz.prog 112 3 3 := fun b off w => by kernel_rfl
theorem Zdg : Qg Tryz.prog 109 := fun w => by kernel_rfl
theorem XU : Zj4 Tryz.prog 109 9 45 keyS.kind := ⟨by kernel_rfl, by kernel_rfl⟩
theorem Zac : Zg2 Tryz.prog 45 (.agg (hyC default)) := ⟨(.agg #[.string ⟨#[]⟩, .bool false, .slice none 0 0]), fun w => by kernel_rfl, fun S w => (show Rel S w (.agg [.lit (.string ⟨#[]⟩), .lit (.bool false), .sl []]) _ from (by simp only [Rel]; exact ⟨[.string ⟨#[]⟩, .bool false, .slice none 0 0], rfl, .lit _ (Nat.zero_le _), .lit _ True.intro, .nil _ _ (Nat.zero_le _), trivial⟩))⟩
theorem Zi3 : Zp Tryz.prog 120 := Zu Tryz.func120 rfl rfl
theorem Zmx : Zp Tryz.prog 98 := Zu Tryz.func98 rfl rfl
theorem ZeD : ZT Tryz.prog 37 4 4 := fun b off w => by kernel_rfl
theorem Zo0 : Zp Tryz.prog 123 := Zu Tryz.func123 rfl rfl
theorem Zo1 : Zp Tryz.prog 122 := Zu Tryz.func122 rfl rfl
theorem ZfO : Tryz.prog.underlying 108 = some (.map 9 4) := by kernel_rfl
theorem Za8 : ZT Tryz.prog 37 6 6 := fun b off w => by kernel_rfl
theorem Zit : Qg Tryz.prog 35 := fun w => by kernel_rfl
theorem QT : ZfH Tryz.prog 62 [.lit (.string ⟨#[]⟩), .lit (.string ⟨#[]⟩)] := ⟨(.agg #[.string ⟨#[]⟩, .string ⟨#[]⟩]), fun w => by kernel_rfl, fun S w => (show RdL S w [.lit (.string ⟨#[]⟩), .lit (.string ⟨#[]⟩)] [.string ⟨#[]⟩, .string ⟨#[]⟩] from ⟨.lit _ (Nat.zero_le _), .lit _ (Nat.zero_le _), trivial⟩)⟩
theorem ZoZ : Zp Tryz.prog 124 := Zu Tryz.func124 rfl rfl
theorem Za9 : ZT Tryz.prog 37 3 3 := fun b off w => by kernel_rfl
theorem ZoX : Zp Tryz.prog 126 := Zu Tryz.func126 rfl rfl
theorem ZoY : Zp Tryz.prog 125 := Zu Tryz.func125 rfl rfl
theorem Zpi : Zp Tryz.prog 101 := Zu Tryz.func101 rfl rfl
theorem ZcZ : Tryz.prog.underlying 164 = some (.slice 34) := by kernel_rfl
theorem Ql : Yi Tryz.prog 164 34 1 := ⟨by kernel_rfl, fun w => by kernel_rfl⟩
theorem Zo3 : Zp Tryz.prog 119 := Zu Tryz.func119 rfl rfl
theorem ZfN : Tryz.prog.underlying 110 = some (.map 9 9) := by kernel_rfl
theorem Zpj : Zp Tryz.prog 100 := Zu Tryz.func100 rfl rfl
theorem Zpg : Zp Tryz.prog 103 := Zu Tryz.func103 rfl rfl
theorem Zcg : ZT Tryz.prog 37 0 0 := fun b off w => by kernel_rfl
theorem ZjV : ZT Tryz.prog 37 5 5 := fun b off w => by kernel_rfl
theorem ZhO : Zbl Tryz.prog 137 2 := ⟨#[.map none, .map none], rfl, fun i => (#[(0, 1), (1, 1)] : Array (Nat × Nat))[i]?, fun j hj => by rcases j with _ | _ | j <;> first | rfl | omega, fun parts => by kernel_rfl⟩
theorem Zg7 : ZfH Tryz.prog 137 [.lit (.map none), .lit (.map none)] := ⟨(.agg #[.map none, .map none]), fun w => by kernel_rfl, fun S w => (show RdL S w [.lit (.map none), .lit (.map none)] [.map none, .map none] from ⟨.lit _ True.intro, .lit _ True.intro, trivial⟩)⟩
theorem Zjp : XD Tryz.prog 137 2 := fun w => by kernel_rfl
theorem Zei : Zed Tryz.prog 34 1 := ⟨(.slice none 0 0), fun w => by kernel_rfl, rfl, by simp [Value.cells, Value.oneCell']⟩
theorem Zmy : Zp Tryz.prog 96 := Zu Tryz.func96 rfl rfl
theorem Zr4 : Zp Tryz.prog 97 := Zu Tryz.func97 rfl rfl
theorem Zr3 : Zp Tryz.prog 99 := Zu Tryz.func99 rfl rfl
theorem ZjU : ZT Tryz.prog 37 7 7 := fun b off w => by kernel_rfl
theorem ZmE : Zp Tryz.prog 70 := Zu Tryz.func70 rfl rfl
theorem Zph : Zp Tryz.prog 102 := Zu Tryz.func102 rfl rfl
theorem ZdT : Zp Tryz.prog 27 := Zu Tryz.func27 rfl rfl
theorem Zi5 : Zp Tryz.prog 104 := Zu Tryz.func104 rfl rfl
theorem Zpf : Zp Tryz.prog 105 := Zu Tryz.func105 rfl rfl
theorem Qq : ZT Tryz.prog 25 2 2 := fun b off w => by kernel_rfl
theorem Zgk : Qg Tryz.prog 23 := fun w => by kernel_rfl
theorem ZhP : Zbl Tryz.prog 112 5 := ⟨#[.map none, .map none, .map none, .map none, .map none], rfl, fun i => (#[(0, 1), (1, 1), (2, 1), (3, 1), (4, 1)] : Array (Nat × Nat))[i]?, fun j hj => by rcases j with _ | _ | _ | _ | _ | j <;> first | rfl | omega, fun parts => by kernel_rfl⟩
theorem ZcS : XJ Tryz.prog 25 3 := ⟨fun w => by kernel_rfl, fun w => by kernel_rfl⟩
theorem Zsc : Zp Tryz.prog 68 := Zu Tryz.func68 rfl rfl
theorem Zm9 : Zpt Tryz.prog 37 8 := ⟨(#[.string ⟨#[]⟩, .bool false, .slice none 0 0, .slice none 0 0, .slice none 0 0, .slice none 0 0, .slice none 0 0, .slice none 0 0]), rfl, by kernel_rfl⟩
theorem Zsb : Zp Tryz.prog 69 := Zu Tryz.func69 rfl rfl
theorem ZfM : Tryz.prog.underlying 151 = some (.slice 153) := by kernel_rfl
theorem Zbk : Yi Tryz.prog 151 153 2 := ⟨by kernel_rfl, fun w => by kernel_rfl⟩
theorem Zkl : Zpt Tryz.prog 153 2 := ⟨(#[.string ⟨#[]⟩, .slice none 0 0]), rfl, by kernel_rfl⟩
theorem Zah : Zj4 Tryz.prog 188 9 22 keyS.kind := ⟨by kernel_rfl, by kernel_rfl⟩
theorem Zbz : Zg2 Tryz.prog 22 (.rd (Zb default)) := ⟨(.slice none 0 0), fun w => by kernel_rfl, fun S w => (show Rel S w (.rd (.sl [])) _ from (by simp only [Rel]; exact .nil _ _ (Nat.zero_le _)))⟩
theorem ZbW : Zp Tryz.prog 132 := Zu Tryz.func132 rfl rfl
theorem XH : Zj4 Tryz.prog 107 9 4 keyS.kind := ⟨by kernel_rfl, by kernel_rfl⟩
theorem Zfo : Zp Tryz.prog 131 := Zu Tryz.func131 rfl rfl
theorem ZoV : Zp Tryz.prog 133 := Zu Tryz.func133 rfl rfl
theorem ZeS : XD Tryz.prog 9 1 := fun w => by kernel_rfl
theorem Yt : ZT Tryz.prog 77 4 13 := fun b off w => by kernel_rfl
theorem ZaI : Qg Tryz.prog 52 := fun w => by kernel_rfl
theorem ZbJ : XD Tryz.prog 52 1 := fun w => by kernel_rfl
theorem Zcj : Zbl Tryz.prog 30 2 := ⟨#[.int .i64 0, .int .i64 0], rfl, fun i => (#[(0, 1), (1, 1)] : Array (Nat × Nat))[i]?, fun j hj => by rcases j with _ | _ | j <;> first | rfl | omega, fun parts => by kernel_rfl⟩
theorem Zdy : ZT Tryz.prog 77 7 16 := fun b off w => by kernel_rfl
theorem QD : XD Tryz.prog 4 1 := fun w => by kernel_rfl
theorem Zdx : ZT Tryz.prog 77 8 17 := fun b off w => by kernel_rfl
theorem QU : XD Tryz.prog 30 2 := fun w => by kernel_rfl
theorem Zmz : Zp Tryz.prog 92 := Zu Tryz.func92 rfl rfl
theorem Zje : Tryz.prog.underlying 222 = some (.slice 3) := by kernel_rfl
theorem ZaQ : Yi Tryz.prog 222 3 1 := ⟨by kernel_rfl, fun w => by kernel_rfl⟩
theorem ZcQ : Zp Tryz.prog 156 := Zu Tryz.func156 rfl rfl
theorem ZfJ : Zed Tryz.prog 3 1 := ⟨(.int .i64 0), fun w => by kernel_rfl, rfl, by simp [Value.cells, Value.oneCell']⟩
theorem ZiZ : Zp Tryz.prog 155 := Zu Tryz.func155 rfl rfl
theorem Zc0 : Tryz.prog.underlying 81 = some (.int .u64) := by kernel_rfl
theorem ZoF : Zp Tryz.prog 153 := Zu Tryz.func153 rfl rfl
theorem Zi0 : Zp Tryz.prog 154 := Zu Tryz.func154 rfl rfl
theorem Zci : Zbl Tryz.prog 62 2 := ⟨#[.string ⟨#[]⟩, .string ⟨#[]⟩], rfl, fun i => (#[(0, 1), (1, 1)] : Array (Nat × Nat))[i]?, fun j hj => by rcases j with _ | _ | j <;> first | rfl | omega, fun parts => by kernel_rfl⟩
theorem Zi1 : Zp Tryz.prog 149 := Zu Tryz.func149 rfl rfl
theorem ZoI : Zp Tryz.prog 150 := Zu Tryz.func150 rfl rfl
theorem ZoH : Zp Tryz.prog 151 := Zu Tryz.func151 rfl rfl
theorem ZoR : Zp Tryz.prog 137 := Zu Tryz.func137 rfl rfl
theorem Znb : ZfH Tryz.prog 4 [.lit (.bool false)] := ⟨(.bool false), fun w => by kernel_rfl, fun S w => (show RdL S w [.lit (.bool false)] [.bool false] from ⟨.lit _ True.intro, trivial⟩)⟩
theorem ZoU : Zp Tryz.prog 134 := Zu Tryz.func134 rfl rfl
theorem Zko : ZfH Tryz.prog 35 [.sl []] := ⟨(.slice none 0 0), fun w => by kernel_rfl, fun S w => (show RdL S w [.sl []] [.slice none 0 0] from ⟨.nil _ _ (Nat.zero_le _), trivial⟩)⟩
theorem ZaB : XD Tryz.prog 35 1 := fun w => by kernel_rfl
theorem ZoT : Zp Tryz.prog 135 := Zu Tryz.func135 rfl rfl
theorem ZoG : Zp Tryz.prog 152 := Zu Tryz.func152 rfl rfl
theorem ZoS : Zp Tryz.prog 136 := Zu Tryz.func136 rfl rfl
theorem ZeC : ZT Tryz.prog 77 0 0 := fun b off w => by kernel_rfl
theorem ZjQ : ZT Tryz.prog 89 2 2 := fun b off w => by kernel_rfl
theorem Xh : Zp Tryz.prog 73 := Zu Tryz.func73 rfl rfl
theorem ZhN : Zbl Tryz.prog 153 2 := ⟨#[.string ⟨#[]⟩, .slice none 0 0], rfl, fun i => (#[(0, 1), (1, 1)] : Array (Nat × Nat))[i]?, fun j hj => by rcases j with _ | _ | j <;> first | rfl | omega, fun parts => by kernel_rfl⟩
theorem Zm4 : ZdW Tryz.prog 153 := ⟨.agg #[.string ⟨#[]⟩, .slice none 0 0], fun w => by kernel_rfl⟩
theorem ZhR : ZfI Tryz.prog 151 153 2 40 := ZsB (.agg #[.string ⟨#[]⟩, .slice none 0 0]) (by kernel_rfl) (by kernel_rfl) rfl (by decide) (fun w => by kernel_rfl)
theorem Zo7 : Zp Tryz.prog 113 := Zu Tryz.func113 rfl rfl
theorem Zo6 : Zp Tryz.prog 114 := Zu Tryz.func114 rfl rfl
theorem Qo : ZT Tryz.prog 77 1 3 := fun b off w => by kernel_rfl
theorem Zo5 : Zp Tryz.prog 115 := Zu Tryz.func115 rfl rfl
theorem Zo4 : Zp Tryz.prog 116 := Zu Tryz.func116 rfl rfl
theorem ZhJ : Zp Tryz.prog 83 := Zu Tryz.func83 rfl rfl
theorem Zsd : Zp Tryz.prog 56 := Zu Tryz.func56 rfl rfl
theorem ZjR : ZT Tryz.prog 89 0 0 := fun b off w => by kernel_rfl
theorem ZfP : Tryz.prog.underlying 91 = some (.array 5 90) := by kernel_rfl
theorem one_90 : Qg Tryz.prog 90 := fun w => by kernel_rfl
theorem ZkP : XD Tryz.prog 90 1 := fun w => by kernel_rfl
theorem Yb : Qg Tryz.prog 47 := fun w => by kernel_rfl
theorem Xc : XJ Tryz.prog 89 4 := ⟨fun w => by kernel_rfl, fun w => by kernel_rfl⟩
theorem Zbt : ZT Tryz.prog 77 5 14 := fun b off w => by kernel_rfl
theorem YZ : ZT Tryz.prog 77 6 15 := fun b off w => by kernel_rfl
theorem ZO : ZT Tryz.prog 77 3 12 := fun b off w => by kernel_rfl
theorem Zal : Qg Tryz.prog 75 := fun w => by kernel_rfl
theorem Zej : Tryz.prog.underlying 75 = some (.slice 89) := by kernel_rfl
theorem ZdS : Zp Tryz.prog 50 := Zu Tryz.func50 rfl rfl
theorem Yw : Yi Tryz.prog 75 89 4 := ⟨by kernel_rfl, fun w => by kernel_rfl⟩
theorem Zaw : ZfH Tryz.prog 89 [.lit (.int .i64 0), .sl [], .lit (.int .i64 0), .lit (.bool false)] := ⟨(.agg #[.int .i64 0, .slice none 0 0, .int .i64 0, .bool false]), fun w => by kernel_rfl, fun S w => (show RdL S w [.lit (.int .i64 0), .sl [], .lit (.int .i64 0), .lit (.bool false)] [.int .i64 0, .slice none 0 0, .int .i64 0, .bool false] from ⟨.lit _ True.intro, .nil _ _ (Nat.zero_le _), .lit _ True.intro, .lit _ True.intro, trivial⟩)⟩
theorem XL : XD Tryz.prog 89 4 := fun w => by kernel_rfl
theorem ZmF : Zp Tryz.prog 47 := Zu Tryz.func47 rfl rfl
theorem Xl : ZT Tryz.prog 89 3 3 := fun b off w => by kernel_rfl
theorem QE : XD Tryz.prog 3 1 := fun w => by kernel_rfl
theorem ZhK : Zp Tryz.prog 51 := Zu Tryz.func51 rfl rfl
theorem ZeP : Tryz.prog.underlying 176 = some (.array 2 34) := by kernel_rfl
theorem ZkS : XD Tryz.prog 34 1 := fun w => by kernel_rfl
theorem Zpc : Zp Tryz.prog 108 := Zu Tryz.func108 rfl rfl
theorem Zdz : ZT Tryz.prog 77 2 11 := fun b off w => by kernel_rfl
theorem ZpQ : Qg Tryz.prog 74 := fun w => by kernel_rfl
theorem Zdn : Zj4 Tryz.prog 74 9 3 keyS.kind := ⟨by kernel_rfl, by kernel_rfl⟩
theorem Zg5 : Zg2 Tryz.prog 3 (.int default) := ⟨(.int .i64 0), fun w => by kernel_rfl, fun S w => (show Rel S w (.int 0) _ from Rel.of_lit _)⟩
theorem Zpa : Zp Tryz.prog 110 := Zu Tryz.func110 rfl rfl
theorem Zpb : Zp Tryz.prog 109 := Zu Tryz.func109 rfl rfl
theorem Zo9 : Zp Tryz.prog 111 := Zu Tryz.func111 rfl rfl
theorem Zg8 : ZfH Tryz.prog 126 [.lit (.int .i64 0), .lit (.bool false)] := ⟨(.agg #[.int .i64 0, .bool false]), fun w => by kernel_rfl, fun S w => (show RdL S w [.lit (.int .i64 0), .lit (.bool false)] [.int .i64 0, .bool false] from ⟨.lit _ True.intro, .lit _ True.intro, trivial⟩)⟩
theorem Zjq : XD Tryz.prog 126 2 := fun w => by kernel_rfl
theorem ZhC : ZT Tryz.prog 126 1 1 := fun b off w => by kernel_rfl
theorem Zg1 : XJ Tryz.prog 126 2 := ⟨fun w => by kernel_rfl, fun w => by kernel_rfl⟩
theorem Zr7 : Zp Tryz.prog 77 := Zu Tryz.func77 rfl rfl
theorem Zsg : Zp Tryz.prog 46 := Zu Tryz.func46 rfl rfl
theorem Zr8 : Zp Tryz.prog 76 := Zu Tryz.func76 rfl rfl
theorem Zsa : Zp Tryz.prog 72 := Zu Tryz.func72 rfl rfl
theorem ZmD : Zp Tryz.prog 74 := Zu Tryz.func74 rfl rfl
theorem Zab : ZdW Tryz.prog 89 := ⟨.agg #[.int .i64 0, .slice none 0 0, .int .i64 0, .bool false], fun w => by kernel_rfl⟩
theorem XW : ZfI Tryz.prog 75 89 4 48 := ZsB (.agg #[.int .i64 0, .slice none 0 0, .int .i64 0, .bool false]) (by kernel_rfl) (by kernel_rfl) rfl (by decide) (fun w => by kernel_rfl)
theorem Xs : XD Tryz.prog 75 1 := fun w => by kernel_rfl
theorem Zr9 : Zp Tryz.prog 75 := Zu Tryz.func75 rfl rfl
theorem Zkp : ZfH Tryz.prog 22 [.sl []] := ⟨(.slice none 0 0), fun w => by kernel_rfl, fun S w => (show RdL S w [.sl []] [.slice none 0 0] from ⟨.nil _ _ (Nat.zero_le _), trivial⟩)⟩
theorem Zr6 : Zp Tryz.prog 78 := Zu Tryz.func78 rfl rfl
theorem ZhZ : ZfH Tryz.prog 3 [.lit (.int .i64 0)] := ⟨(.int .i64 0), fun w => by kernel_rfl, fun S w => (show RdL S w [.lit (.int .i64 0)] [.int .i64 0] from ⟨.lit _ True.intro, trivial⟩)⟩
theorem Zr5 : Zp Tryz.prog 79 := Zu Tryz.func79 rfl rfl
theorem Zkm : Zpt Tryz.prog 126 2 := ⟨(#[.int .i64 0, .bool false]), rfl, by kernel_rfl⟩
theorem Zo8 : Zp Tryz.prog 112 := Zu Tryz.func112 rfl rfl
theorem Zsf : Zp Tryz.prog 49 := Zu Tryz.func49 rfl rfl
theorem Zkn : ZfH Tryz.prog 47 [.lit (.pointer none)] := ⟨(.pointer none), fun w => by kernel_rfl, fun S w => (show RdL S w [.lit (.pointer none)] [.pointer none] from ⟨.lit _ True.intro, trivial⟩)⟩
theorem ZkQ : XD Tryz.prog 47 1 := fun w => by kernel_rfl
theorem Zb5 : ZfH Tryz.prog 30 [.lit (.int .i64 0), .lit (.int .i64 0)] := ⟨(.agg #[.int .i64 0, .int .i64 0]), fun w => by kernel_rfl, fun S w => (show RdL S w [.lit (.int .i64 0), .lit (.int .i64 0)] [.int .i64 0, .int .i64 0] from ⟨.lit _ True.intro, .lit _ True.intro, trivial⟩)⟩
theorem Zsj : Zp Tryz.prog 38 := Zu Tryz.func38 rfl rfl
theorem Zsi : Zp Tryz.prog 40 := Zu Tryz.func40 rfl rfl
theorem Zbb : XJ Tryz.prog 30 2 := ⟨fun w => by kernel_rfl, fun w => by kernel_rfl⟩
theorem Zsk : Zp Tryz.prog 37 := Zu Tryz.func37 rfl rfl
theorem Zsn : Zp Tryz.prog 34 := Zu Tryz.func34 rfl rfl
theorem Zsm : Zp Tryz.prog 35 := Zu Tryz.func35 rfl rfl
theorem ZgY : ZfI Tryz.prog 23 37 8 168 := ZsB (.agg #[.string ⟨#[]⟩, .bool false, .slice none 0 0, .slice none 0 0, .slice none 0 0, .slice none 0 0, .slice none 0 0, .slice none 0 0]) (by kernel_rfl) (by kernel_rfl) rfl (by decide) (fun w => by kernel_rfl)
theorem ZmG : Zp Tryz.prog 31 := Zu Tryz.func31 rfl rfl
theorem Zsp : Zp Tryz.prog 32 := Zu Tryz.func32 rfl rfl
theorem Zsq : Zp Tryz.prog 30 := Zu Tryz.func30 rfl rfl
theorem Zsr : Zp Tryz.prog 29 := Zu Tryz.func29 rfl rfl
theorem ZcY : ZfH Tryz.prog 25 [.sl [], .sl [], .sl []] := ⟨(.agg #[.slice none 0 0, .slice none 0 0, .slice none 0 0]), fun w => by kernel_rfl, fun S w => (show RdL S w [.sl [], .sl [], .sl []] [.slice none 0 0, .slice none 0 0, .slice none 0 0] from ⟨.nil _ _ (Nat.zero_le _), .nil _ _ (Nat.zero_le _), .nil _ _ (Nat.zero_le _), trivial⟩)⟩
theorem Xe : Zed Tryz.prog 9 1 := ⟨(.string ⟨#[]⟩), fun w => by kernel_rfl, rfl, by simp [Value.cells, Value.oneCell']⟩
theorem ZeI : Zbl Tryz.prog 45 3 := ⟨#[.string ⟨#[]⟩, .bool false, .slice none 0 0], rfl, fun i => (#[(0, 1), (1, 1), (2, 1)] : Array (Nat × Nat))[i]?, fun j hj => by rcases j with _ | _ | _ | j <;> first | rfl | omega, fun parts => by kernel_rfl⟩
theorem Zj3 : Zbl Tryz.prog 25 3 := ⟨#[.slice none 0 0, .slice none 0 0, .slice none 0 0], rfl, fun i => (#[(0, 1), (1, 1), (2, 1)] : Array (Nat × Nat))[i]?, fun j hj => by rcases j with _ | _ | _ | j <;> first | rfl | omega, fun parts => by kernel_rfl⟩
theorem ZfT : XD Tryz.prog 25 3 := fun w => by kernel_rfl
theorem Zcw : Yi Tryz.prog 66 65 3 := ⟨by kernel_rfl, fun w => by kernel_rfl⟩
theorem Zjd : Tryz.prog.underlying 66 = some (.slice 65) := by kernel_rfl
theorem Zps : XJ Tryz.prog 65 3 := ⟨fun w => by kernel_rfl, fun w => by kernel_rfl⟩
theorem Zm8 : Zpt Tryz.prog 65 3 := ⟨(#[.slice none 0 0, .int .i64 0, .int .i64 0]), rfl, by kernel_rfl⟩
theorem ZjT : ZT Tryz.prog 65 0 0 := fun b off w => by kernel_rfl
theorem Zso : Zp Tryz.prog 33 := Zu Tryz.func33 rfl rfl
theorem ZmA : Zp Tryz.prog 9 := Zu Tryz.func9 rfl rfl
theorem ZeO : Zpt Tryz.prog 30 2 := ⟨(#[.int .i64 0, .int .i64 0]), rfl, by kernel_rfl⟩
theorem ZjS : ZT Tryz.prog 65 1 1 := fun b off w => by kernel_rfl
theorem call_7 : Zp Tryz.prog 7 := Zu Tryz.func7 rfl rfl
theorem ZmC : Zp Tryz.prog 8 := Zu Tryz.func8 rfl rfl
theorem Zsv : Zp Tryz.prog 10 := Zu Tryz.func10 rfl rfl
theorem ZkT : XD Tryz.prog 23 1 := fun w => by kernel_rfl
set_option maxRecDepth 100000 in
theorem tb_one : ∀ t ∈ [3, 4, 5, 9, 22, 23, 28, 34, 35, 41, 47, 52, 74, 75, 106, 108, 109, 110, 150, 151, 181, 188, 222], Qg Tryz.prog t := by
 intro t h
 simp only [List.mem_cons, List.not_mem_nil, or_false] at h
 rcases h with rfl | rfl | rfl | rfl | rfl | rfl | rfl | rfl | rfl | rfl | rfl | rfl | rfl | rfl | rfl | rfl | rfl | rfl | rfl | rfl | rfl | rfl | rfl <;> exact fun w => by kernel_rfl
set_option maxRecDepth 100000 in
theorem tb_agg : ∀ q ∈ [(25, 3), (30, 2), (37, 8), (45, 3), (62, 2), (89, 4), (126, 2), (137, 2), (153, 2), (174, 4), (215, 4)], XJ Tryz.prog q.1 q.2 := by
 intro q h
 simp only [List.mem_cons, List.not_mem_nil, or_false] at h
 rcases h with rfl | rfl | rfl | rfl | rfl | rfl | rfl | rfl | rfl | rfl | rfl <;> exact ⟨fun w => by kernel_rfl, fun w => by kernel_rfl⟩
set_option maxRecDepth 100000 in
theorem tb_fld : ∀ q ∈ [(25, 0, 0), (25, 1, 1), (25, 2, 2), (30, 0, 0), (30, 1, 1), (37, 0, 0), (37, 1, 1), (37, 2, 2), (37, 3, 3), (37, 4, 4), (37, 5, 5), (37, 6, 6), (37, 7, 7), (45, 0, 0), (45, 1, 1), (45, 2, 2), (62, 0, 0), (62, 1, 1), (77, 0, 0), (77, 1, 3), (77, 2, 11), (77, 3, 12), (77, 4, 13), (77, 5, 14), (77, 6, 15), (77, 7, 16), (77, 8, 17), (89, 0, 0), (89, 1, 1), (89, 2, 2), (89, 3, 3), (112, 0, 0), (112, 1, 1), (112, 2, 2), (112, 3, 3), (112, 4, 4), (126, 0, 0), (126, 1, 1), (137, 0, 0), (137, 1, 1), (153, 0, 0), (153, 1, 1), (174, 0, 0), (174, 1, 1), (174, 2, 2), (174, 3, 3), (215, 0, 0), (215, 1, 1), (215, 2, 2), (215, 3, 3)], ZT Tryz.prog q.1 q.2.1 q.2.2 := by
 intro q h
 simp only [List.mem_cons, List.not_mem_nil, or_false] at h
 rcases h with rfl | rfl | rfl | rfl | rfl | rfl | rfl | rfl | rfl | rfl | rfl | rfl | rfl | rfl | rfl | rfl | rfl | rfl | rfl | rfl | rfl | rfl | rfl | rfl | rfl | rfl | rfl | rfl | rfl | rfl | rfl | rfl | rfl | rfl | rfl | rfl | rfl | rfl | rfl | rfl | rfl | rfl | rfl | rfl | rfl | rfl | rfl | rfl | rfl | rfl <;> exact fun b off w => by kernel_rfl
def tb : Tbl Tryz.prog where
 one := Zrz [3, 4, 5, 9, 22, 23, 28, 34, 35, 41, 47, 52, 74, 75, 106, 108, 109, 110, 150, 151, 181, 188, 222]
 agg := lk1 [(25, 3), (30, 2), (37, 8), (45, 3), (62, 2), (89, 4), (126, 2), (137, 2), (153, 2), (174, 4), (215, 4)]
 fld := lk2 [(25, 0, 0), (25, 1, 1), (25, 2, 2), (30, 0, 0), (30, 1, 1), (37, 0, 0), (37, 1, 1), (37, 2, 2), (37, 3, 3), (37, 4, 4), (37, 5, 5), (37, 6, 6), (37, 7, 7), (45, 0, 0), (45, 1, 1), (45, 2, 2), (62, 0, 0), (62, 1, 1), (77, 0, 0), (77, 1, 3), (77, 2, 11), (77, 3, 12), (77, 4, 13), (77, 5, 14), (77, 6, 15), (77, 7, 16), (77, 8, 17), (89, 0, 0), (89, 1, 1), (89, 2, 2), (89, 3, 3), (112, 0, 0), (112, 1, 1), (112, 2, 2), (112, 3, 3), (112, 4, 4), (126, 0, 0), (126, 1, 1), (137, 0, 0), (137, 1, 1), (153, 0, 0), (153, 1, 1), (174, 0, 0), (174, 1, 1), (174, 2, 2), (174, 3, 3), (215, 0, 0), (215, 1, 1), (215, 2, 2), (215, 3, 3)]
 h1 := fun t h => tb_one t (ZiK h)
 h2 := fun t k h => tb_agg (t, k + 1) (ZlJ h)
 h3 := fun s f d h => tb_fld (s, f, d) (ZlI h)
 mix := Ye
theorem Za4 {J : World → Prop} (hJ : Stab J) (M1 : Nat) (M2 : Nat) (M3 : Nat) (M4 : Nat) (M5 : Nat) (cs : List ByteArray) (vs : List ByteArray) (s : ByteArray)  : FnR Tryz.prog J 94 [OB.set keyS M1 cs, OB.set keyS M2 vs] [.ptr (mpC [M1, M2, M3, M4, M5]), .str s] (.bool (decide (s ∈ cs) || decide (s ∈ vs))) := by
 refine ZV (N := 19) Tryz.func94 rfl rfl (lb rfl) fun S w0 hS hJ0 hH => ?_
 clear hJ0
 refine qs tb hJ [0,1] [_] [_,_] ?_
 refine hqs tb hJ [1014] [_,_,_,_,_,.bool (decide (s ∈ cs)),_,_,_,_,_,_,.bool (decide (s ∈ vs)),_,_] [5,12] [_] rfl ⟨fun _ _ hk hx hl _ => Yj (Kd := keyS) (xs := cs) ZL ZX s rfl (YF hH hk (mo 0 rfl)) (hl.D 3 8 rfl rfl) (hl.D 4 9 rfl rfl) hx, fun _ _ hk hx hl hc => Yj (Kd := keyS) (xs := vs) ZL ZX s rfl (YF hH hk (mo 1 rfl)) (hl.D 10 15 rfl hc) (hl.D 11 16 rfl hc) hx, trivial⟩ ?_
 exact Zi (rtn (m := 0) rfl rfl (eB (by first | rfl | grind [Zc])))
theorem ZqP {J : World → Prop} (hJ : Stab J) (M1 : Nat) (M2 : Nat) (M3 : Nat) (M4 : Nat) (M5 : Nat) (cs : List ByteArray) (vs : List ByteArray) (s : ByteArray)  : FnR Tryz.prog J 121 [OB.set keyS M1 cs, OB.set keyS M2 vs] [.str s, .ptr [.ptr (mpC [M1, M2, M3, M4, M5])]] (.bool (!(decide (s ∈ cs) || decide (s ∈ vs)))) := by
 refine ZV (N := 8) Tryz.func121 rfl rfl (lb rfl) fun S w0 hS hJ0 hH => ?_
 clear hJ0
 refine qs tb hJ [0,1] [_] [_,_] ?_
 refine hqs tb hJ [1004] [_,_,.bool (decide (s ∈ cs) || decide (s ∈ vs)),_,_] [2] [_] rfl ⟨fun _ _ hk hx hl _ => YV (Za4 hJ (M1 := M1) (M2 := M2) (M3 := M3) (M4 := M4) (M5 := M5) (cs := cs) (vs := vs) (s := s) ) Zfn rfl (nm hS hk) (hx) (ZG (YF hH hk (mo 0 rfl)) (ZG (YF hH hk (mo 1 rfl)) Zt)) (Za (hl.D 0 4 rfl rfl) (Za (hl.D 1 5 rfl rfl) Ze)) (js hJ hx), trivial⟩ ?_
 exact Zi (rtn (m := 0) rfl rfl rfl)
theorem Zge {J : World → Prop} (hJ : Stab J) (xs : List ByteArray) (f : FuncId) (caps : List AV) (Os : List OB) (p : ByteArray → Bool) (hf : ∀ q', FnR Tryz.prog J f Os ([.str (q')] ++ caps) (.bool (p q'))) (hk0 : Zp Tryz.prog f) : FnR Tryz.prog J 36 Os [.rd (Zb xs), .fn f caps] (.int (YM p xs)) := by
 refine ZV (N := 19) Tryz.func36 rfl rfl (lb rfl) fun S w0 hS hJ0 hH => ?_
 clear hJ0
 refine ln 0 fun hl1 => ?_
 refine qs tb hJ [0,1] [_] [_,_] ?_
 refine Zo (hqs tb hJ [0,1,1001,1002] [_,.int (xs.length : Nat),_] [1] [_,_,_,_] rfl ⟨YE Zw, trivial⟩ ?_)
 refine Zg (lp (ι := Nat) (fun k => (k ≤ xs.length) ∧ (∀ j, j < k → p (ge xs j) = false)) (fun k => [(8, .int (k : Nat))]) (fun k => xs.length - k) [0,1,2,3] [_,_,_] 0 ⟨Nat.zero_le _, fun j hj => by omega⟩ ?_)
 rintro k ⟨f1_1, f1_2⟩
 refine qs tb hJ [0,1,2,3,1000] [_] [_,_,_,_,_] ?_
 refine cjS 4 (fun hb1 => ?_) fun hb1 => ?_
 try simp at hb1
 refine Zf (nx (Zo (Zg (qs tb hJ [0,1,2,3,1001] [_,_] [_,_,_,_,_] ?_))))
 refine hqs tb hJ [0,1,2,3,4,1005] [_,_,_,.ptr [.lit (.string (ge xs k))],_,.bool (p (ge xs k))] [3,5] [_,_,_,_,_,_] rfl ⟨iIx Zh, fun _ _ hk hx hl _ => Zbo (hf (ge xs k)) hk0 rfl (hl.D 0 11 rfl rfl) (nm hS hk) (hx) (fun _ ho => YF hH hk ho) (Za (hl.D 4 15 rfl rfl) Ze) (js hJ hx), trivial⟩ ?_
 refine cj 5 (fun hb2 => ?_) fun hb2 => ?_
 try simp at hb2
 refine qs tb hJ [1001] [_,_] [_] ?_
 exact Zi (rtn (m := 0) rfl rfl (eI (by first | exact (YP hb1 hb2 f1_2).symm | exact (Yu fun j hj => f1_2 j (by omega)).symm)))
 try simp at hb2
 refine Zf (nx (hqp tb hJ [0,1,2,1001] [.int (k + 1 : Nat),_] [0] [_,_,_,_] rfl ⟨Yv, trivial⟩ ?_))
 exact lpE (k + 1) [0,1,2,3] ⟨by omega, Z2 f1_2 hb2⟩
 try simp at hb1
 refine ZA (nx (qs tb hJ [1000] [_] [_] ?_))
 exact Zi (rtn (m := 0) rfl rfl (eI (by first | exact (YP hb1 hb2 f1_2).symm | exact (Yu fun j hj => f1_2 j (by omega)).symm)))
theorem YC {J : World → Prop} (hJ : Stab J) (xs : List ByteArray) (f : FuncId) (caps : List AV) (Os : List OB) (p : ByteArray → Bool) (hf : ∀ q', FnR Tryz.prog J f Os ([.str (q')] ++ caps) (.bool (p q'))) (hk0 : Zp Tryz.prog f) : FnR Tryz.prog J 11 Os [.rd (Zb xs), .fn f caps] (.bool (xs.any p)) := by
 refine ZV (N := 9) Tryz.func11 rfl rfl (lb rfl) fun S w0 hS hJ0 hH => ?_
 clear hJ0
 refine ln 0 fun hl1 => ?_
 refine qs tb hJ [0,1] [_] [_,_] ?_
 refine hqs tb hJ [1004] [_,_,.int (YM p xs),_,_] [2] [_] rfl ⟨fun _ _ hk hx hl _ => YV (Zge hJ (xs := xs) (f := f) (caps := caps) (Os := Os) (p := p) (hf) (hk0)) Zsl rfl (nm hS hk) (hx) (fun _ ho => YF hH hk ho) (Za (hl.D 0 5 rfl rfl) (Za (hl.D 1 6 rfl rfl) Ze)) (js hJ hx), trivial⟩ ?_
 exact Zi (rtn (m := 0) rfl rfl (eB (by rw [← Za6])))
theorem Zcp {J : World → Prop} (hJ : Stab J) (xs : List Hy) (f : FuncId) (caps : List AV) (Os : List OB) (p : Hy → Bool) (hf : ∀ q', FnR Tryz.prog J f Os ([.agg (hyC (q'))] ++ caps) (.bool (p q'))) (hk0 : Zp Tryz.prog f) : FnR Tryz.prog J 44 Os [.rd (Z4 xs), .fn f caps] (.int (YM p xs)) := by
 refine ZV (N := 19) Tryz.func44 rfl rfl (lb rfl) fun S w0 hS hJ0 hH => ?_
 clear hJ0
 refine ln 0 fun hl1 => ?_
 refine qs tb hJ [0,1] [_] [_,_] ?_
 refine Zo (hqs tb hJ [0,1,1001,1002] [_,.int (xs.length : Nat),_] [1] [_,_,_,_] rfl ⟨YE ZF, trivial⟩ ?_)
 refine Zg (lp (ι := Nat) (fun k => (k ≤ xs.length) ∧ (∀ j, j < k → p (ge xs j) = false)) (fun k => [(8, .int (k : Nat))]) (fun k => xs.length - k) [0,1,2,3] [_,_,_] 0 ⟨Nat.zero_le _, fun j hj => by omega⟩ ?_)
 rintro k ⟨f1_1, f1_2⟩
 refine qs tb hJ [0,1,2,3,1000] [_] [_,_,_,_,_] ?_
 refine cjS 4 (fun hb1 => ?_) fun hb1 => ?_
 try simp at hb1
 refine Zf (nx (Zo (Zg (qs tb hJ [0,1,2,3,1001] [_,_] [_,_,_,_,_] ?_))))
 refine hqs tb hJ [0,1,2,3,4,1005] [_,_,_,.ptr (hyC (ge xs k)),_,.bool (p (ge xs k))] [3,5] [_,_,_,_,_,_] rfl ⟨iIx ZH, fun _ _ hk hx hl _ => Zbo (hf (ge xs k)) hk0 rfl (hl.D 0 11 rfl rfl) (nm hS hk) (hx) (fun _ ho => YF hH hk ho) (Za (hl.D 4 15 rfl rfl) Ze) (js hJ hx), trivial⟩ ?_
 refine cj 5 (fun hb2 => ?_) fun hb2 => ?_
 try simp at hb2
 refine qs tb hJ [1001] [_,_] [_] ?_
 exact Zi (rtn (m := 0) rfl rfl (eI (by first | exact (YP hb1 hb2 f1_2).symm | exact (Yu fun j hj => f1_2 j (by omega)).symm)))
 try simp at hb2
 refine Zf (nx (hqp tb hJ [0,1,2,1001] [.int (k + 1 : Nat),_] [0] [_,_,_,_] rfl ⟨Yv, trivial⟩ ?_))
 exact lpE (k + 1) [0,1,2,3] ⟨by omega, Z2 f1_2 hb2⟩
 try simp at hb1
 refine ZA (nx (qs tb hJ [1000] [_] [_] ?_))
 exact Zi (rtn (m := 0) rfl rfl (eI (by first | exact (YP hb1 hb2 f1_2).symm | exact (Yu fun j hj => f1_2 j (by omega)).symm)))
theorem XS {J : World → Prop} (hJ : Stab J) (xs : List Hy) (f : FuncId) (caps : List AV) (Os : List OB) (p : Hy → Bool) (hf : ∀ q', FnR Tryz.prog J f Os ([.agg (hyC (q'))] ++ caps) (.bool (p q'))) (hk0 : Zp Tryz.prog f) : FnR Tryz.prog J 27 Os [.rd (Z4 xs), .fn f caps] (.bool (xs.any p)) := by
 refine ZV (N := 9) Tryz.func27 rfl rfl (lb rfl) fun S w0 hS hJ0 hH => ?_
 clear hJ0
 refine ln 0 fun hl1 => ?_
 refine qs tb hJ [0,1] [_] [_,_] ?_
 refine hqs tb hJ [1004] [_,_,.int (YM p xs),_,_] [2] [_] rfl ⟨fun _ _ hk hx hl _ => YV (Zcp hJ (xs := xs) (f := f) (caps := caps) (Os := Os) (p := p) (hf) (hk0)) ZhL rfl (nm hS hk) (hx) (fun _ ho => YF hH hk ho) (Za (hl.D 0 5 rfl rfl) (Za (hl.D 1 6 rfl rfl) Ze)) (js hJ hx), trivial⟩ ?_
 exact Zi (rtn (m := 0) rfl rfl (eB (by rw [← Za6])))
theorem Zgf {J : World → Prop} (hJ : Stab J) (xs : List Pr) (f : FuncId) (caps : List AV) (Os : List OB) (p : Pr → Bool) (hf : ∀ q', FnR Tryz.prog J f Os ([.agg (prC (q'))] ++ caps) (.bool (p q'))) (hk0 : Zp Tryz.prog f) : FnR Tryz.prog J 159 Os [.rd (YK xs), .fn f caps] (.int (YM p xs)) := by
 refine ZV (N := 19) Tryz.func159 rfl rfl (lb rfl) fun S w0 hS hJ0 hH => ?_
 clear hJ0
 refine ln 0 fun hl1 => ?_
 refine qs tb hJ [0,1] [_] [_,_] ?_
 refine Zo (hqs tb hJ [0,1,1001,1002] [_,.int (xs.length : Nat),_] [1] [_,_,_,_] rfl ⟨YE Z8, trivial⟩ ?_)
 refine Zg (lp (ι := Nat) (fun k => (k ≤ xs.length) ∧ (∀ j, j < k → p (ge xs j) = false)) (fun k => [(8, .int (k : Nat))]) (fun k => xs.length - k) [0,1,2,3] [_,_,_] 0 ⟨Nat.zero_le _, fun j hj => by omega⟩ ?_)
 rintro k ⟨f1_1, f1_2⟩
 refine qs tb hJ [0,1,2,3,1000] [_] [_,_,_,_,_] ?_
 refine cjS 4 (fun hb1 => ?_) fun hb1 => ?_
 try simp at hb1
 refine Zf (nx (Zo (Zg (qs tb hJ [0,1,2,3,1001] [_,_] [_,_,_,_,_] ?_))))
 refine hqs tb hJ [0,1,2,3,4,1005] [_,_,_,.ptr (prC (ge xs k)),_,.bool (p (ge xs k))] [3,5] [_,_,_,_,_,_] rfl ⟨iIx ZC, fun _ _ hk hx hl _ => Zbo (hf (ge xs k)) hk0 rfl (hl.D 0 11 rfl rfl) (nm hS hk) (hx) (fun _ ho => YF hH hk ho) (Za (hl.D 4 15 rfl rfl) Ze) (js hJ hx), trivial⟩ ?_
 refine cj 5 (fun hb2 => ?_) fun hb2 => ?_
 try simp at hb2
 refine qs tb hJ [1001] [_,_] [_] ?_
 exact Zi (rtn (m := 0) rfl rfl (eI (by first | exact (YP hb1 hb2 f1_2).symm | exact (Yu fun j hj => f1_2 j (by omega)).symm)))
 try simp at hb2
 refine Zf (nx (hqp tb hJ [0,1,2,1001] [.int (k + 1 : Nat),_] [0] [_,_,_,_] rfl ⟨Yv, trivial⟩ ?_))
 exact lpE (k + 1) [0,1,2,3] ⟨by omega, Z2 f1_2 hb2⟩
 try simp at hb1
 refine ZA (nx (qs tb hJ [1000] [_] [_] ?_))
 exact Zi (rtn (m := 0) rfl rfl (eI (by first | exact (YP hb1 hb2 f1_2).symm | exact (Yu fun j hj => f1_2 j (by omega)).symm)))
theorem Zgg {J : World → Prop} (hJ : Stab J) (xs : List Fr) (f : FuncId) (caps : List AV) (Os : List OB) (p : Fr → Bool) (hf : ∀ q', FnR Tryz.prog J f Os ([.agg (frC (q'))] ++ caps) (.bool (p q'))) (hk0 : Zp Tryz.prog f) : FnR Tryz.prog J 45 Os [.rd (Zan xs), .fn f caps] (.int (YM p xs)) := by
 refine ZV (N := 19) Tryz.func45 rfl rfl (lb rfl) fun S w0 hS hJ0 hH => ?_
 clear hJ0
 refine ln 0 fun hl1 => ?_
 refine qs tb hJ [0,1] [_] [_,_] ?_
 refine Zo (hqs tb hJ [0,1,1001,1002] [_,.int (xs.length : Nat),_] [1] [_,_,_,_] rfl ⟨YE XE, trivial⟩ ?_)
 refine Zg (lp (ι := Nat) (fun k => (k ≤ xs.length) ∧ (∀ j, j < k → p (ge xs j) = false)) (fun k => [(8, .int (k : Nat))]) (fun k => xs.length - k) [0,1,2,3] [_,_,_] 0 ⟨Nat.zero_le _, fun j hj => by omega⟩ ?_)
 rintro k ⟨f1_1, f1_2⟩
 refine qs tb hJ [0,1,2,3,1000] [_] [_,_,_,_,_] ?_
 refine cjS 4 (fun hb1 => ?_) fun hb1 => ?_
 try simp at hb1
 refine Zf (nx (Zo (Zg (qs tb hJ [0,1,2,3,1001] [_,_] [_,_,_,_,_] ?_))))
 refine hqs tb hJ [0,1,2,3,4,1005] [_,_,_,.ptr (frC (ge xs k)),_,.bool (p (ge xs k))] [3,5] [_,_,_,_,_,_] rfl ⟨iIx Yh, fun _ _ hk hx hl _ => Zbo (hf (ge xs k)) hk0 rfl (hl.D 0 11 rfl rfl) (nm hS hk) (hx) (fun _ ho => YF hH hk ho) (Za (hl.D 4 15 rfl rfl) Ze) (js hJ hx), trivial⟩ ?_
 refine cj 5 (fun hb2 => ?_) fun hb2 => ?_
 try simp at hb2
 refine qs tb hJ [1001] [_,_] [_] ?_
 exact Zi (rtn (m := 0) rfl rfl (eI (by first | exact (YP hb1 hb2 f1_2).symm | exact (Yu fun j hj => f1_2 j (by omega)).symm)))
 try simp at hb2
 refine Zf (nx (hqp tb hJ [0,1,2,1001] [.int (k + 1 : Nat),_] [0] [_,_,_,_] rfl ⟨Yv, trivial⟩ ?_))
 exact lpE (k + 1) [0,1,2,3] ⟨by omega, Z2 f1_2 hb2⟩
 try simp at hb1
 refine ZA (nx (qs tb hJ [1000] [_] [_] ?_))
 exact Zi (rtn (m := 0) rfl rfl (eI (by first | exact (YP hb1 hb2 f1_2).symm | exact (Yu fun j hj => f1_2 j (by omega)).symm)))
theorem Zdf {J : World → Prop} (hJ : Stab J) (xs : List Fr) (f : FuncId) (caps : List AV) (Os : List OB) (p : Fr → Bool) (hf : ∀ q', FnR Tryz.prog J f Os ([.agg (frC (q'))] ++ caps) (.bool (p q'))) (hk0 : Zp Tryz.prog f) : FnR Tryz.prog J 29 Os [.rd (Zan xs), .fn f caps] (.bool (xs.any p)) := by
 refine ZV (N := 9) Tryz.func29 rfl rfl (lb rfl) fun S w0 hS hJ0 hH => ?_
 clear hJ0
 refine ln 0 fun hl1 => ?_
 refine qs tb hJ [0,1] [_] [_,_] ?_
 refine hqs tb hJ [1004] [_,_,.int (YM p xs),_,_] [2] [_] rfl ⟨fun _ _ hk hx hl _ => YV (Zgg hJ (xs := xs) (f := f) (caps := caps) (Os := Os) (p := p) (hf) (hk0)) Zsh rfl (nm hS hk) (hx) (fun _ ho => YF hH hk ho) (Za (hl.D 0 5 rfl rfl) (Za (hl.D 1 6 rfl rfl) Ze)) (js hJ hx), trivial⟩ ?_
 exact Zi (rtn (m := 0) rfl rfl (eB (by rw [← Za6])))
theorem Zip {J : World → Prop} (hJ : Stab J) (xs : List ByteArray) (ys : List ByteArray)  : Fn Tryz.prog J 80 [.rd (Zb xs), .rd (Zb ys)] (.bool (decide (xs = ys))) := by
 refine Zx (N := 26) Tryz.func80 rfl rfl (lb rfl) fun S w0 hS hJ0 => ?_
 clear hJ0
 refine ln 0 fun hl1 => ?_
 refine ln 1 fun hl2 => ?_
 refine qs tb hJ [0,1] [_] [_,_] ?_
 refine Zo (hqs tb hJ [0,1,1004] [_,.int (xs.length : Nat),_,.int (ys.length : Nat),_] [1,3] [_,_,_] rfl ⟨YE Zw, YE Zw, trivial⟩ ?_)
 refine cj 2 (fun hb1 => ?_) fun hb1 => ?_
 try simp at hb1
 refine qs tb hJ [1000] [_] [_] ?_
 exact Zi (rtn (m := 0) rfl rfl (eB (by first | (have := ZdE (xs := xs) (ys := ys) (by omega) (fun j hj => f1_2 j (by omega)); simp [this]; done) | (symm; rw [decide_eq_false_iff_not]; intro e; subst e; simp_all; done))))
 try simp at hb1
 refine Zf (nx (Zo (hqs tb hJ [0,1,1001,1002] [_,.int (xs.length : Nat),_] [1] [_,_,_,_] rfl ⟨YE Zw, trivial⟩ ?_)))
 refine Zg (lp (ι := Nat) (fun k => (k ≤ xs.length) ∧ (∀ j, j < k → ge xs j = ge ys j)) (fun k => [(13, .int (k : Nat))]) (fun k => xs.length - k) [0,1,2,3] [_,_,_] 0 ⟨Nat.zero_le _, fun j hj => by omega⟩ ?_)
 rintro k ⟨f1_1, f1_2⟩
 refine qs tb hJ [0,1,2,3,1000] [_] [_,_,_,_,_] ?_
 refine cjS 4 (fun hb2 => ?_) fun hb2 => ?_
 try simp at hb2
 refine Zf (nx (Zo (Zg (qs tb hJ [0,1,2,3,1001] [_,_] [_,_,_,_,_] ?_))))
 refine hqs tb hJ [0,1,2,3,1008] [_,_,.ptr [.lit (.string (ge xs k))],_,_,_,.ptr [.lit (.string (ge ys k))],_,_] [2,6] [_,_,_,_,_] rfl ⟨iIx Zh, iIx Zh, trivial⟩ ?_
 refine cj 4 (fun hb3 => ?_) fun hb3 => ?_
 try simp at hb3
 refine qs tb hJ [1000] [_] [_] ?_
 exact Zi (rtn (m := 0) rfl rfl (eB (by first | (have := ZdE (xs := xs) (ys := ys) (by omega) (fun j hj => f1_2 j (by omega)); simp [this]; done) | (symm; rw [decide_eq_false_iff_not]; intro e; subst e; simp_all; done))))
 try simp at hb3
 refine Zf (nx (hqp tb hJ [0,1,2,1001] [.int (k + 1 : Nat),_] [0] [_,_,_,_] rfl ⟨Yv, trivial⟩ ?_))
 exact lpE (k + 1) [0,1,2,3] ⟨by omega, Z2 f1_2 hb3⟩
 try simp at hb2
 refine ZA (nx (qs tb hJ [1000] [_] [_] ?_))
 exact Zi (rtn (m := 0) rfl rfl (eB (by first | (have := ZdE (xs := xs) (ys := ys) (by omega) (fun j hj => f1_2 j (by omega)); simp [this]; done) | (symm; rw [decide_eq_false_iff_not]; intro e; subst e; simp_all; done))))
theorem Ziq {J : World → Prop} (hJ : Stab J) (xs : List ByteArray) (b : xs.length * 16 ≤ 140737488351232) : FnM (ι := Value) Tryz.prog J 14 [] [.rd (Zb xs)] [] (fun i' => .lit (i')) (fun i' => [OB.row i' 9 1 (xs.map Xx)]) := by
 refine Z6 (N := 8) Tryz.func14 rfl rfl (lb rfl) fun S w0 R hS hJ0 hH => ?_
 refine Ya (B := St All (SO S (R)) w0 8 [(0, .rd (Zb xs))] (XO J S w0.heap.size (R))) ?_ fun a w h => h
 refine ln 0 fun hl1 => ?_
 refine qso tb hJ [0] [_] [_] ?_
 refine Zo (tsq ?_)
 refine snK 1 tb rfl ?_
 refine ZcG (f := Xx) (xs := xs) Zw rfl rfl rfl (lb rfl) (fun a w h => (h.get 0 rfl)) fun g1 hg1 => ?_
 refine seK [0,2] [_,_] rfl ?_
 refine nx (cj 0 (fun hb1 => ?_) fun hb1 => ?_)
 try simp at hb1
 refine qso tb hJ [1000] [_] [_] ?_
 refine tw (Yf 9 1 hJ) ?_
 refine tw (ob0 (congrArg (fun z' => OB.row (.slice none 0 0) 9 1 ((z').map Xx)) (show ([] : List ByteArray) = xs from by first | exact (hg1 (by assumption)).symm | simp))) ?_
 exact Zi (fun a w h => ZP  (m := 0) (.slice none 0 0) rfl h rfl rfl)
 try simp at hb1
 refine Zf (nx (Zo (fun a w h => ZcJ (id := 3) (t := 22) (e := 9) (size := 1) (bytes := 16) (i0 := 0) (fol := 3) (d := 2) (ch := [(2, (xs.map Xx))]) (fun ix' => ([.any, .rd (Zb xs), .any, .any] : List AV).getD ix' .any) (fun ix' => ([true, true, true, true] : List Bool).getD ix' true) [] (xs.map Xx) (by simp) ?r3_1 hJ hJ0 h Ye rfl rfl rfl rfl ⟨?o3_1_0, ⟨?o3_1_1, ⟨?o3_1_2, ⟨?o3_1_3, trivial⟩⟩⟩⟩ trivial (fun v2 => ?n3_1))))
 case r3_1 =>
  refine Row.mk' XX ⟨_, rfl, rfl, rfl, rfl, rfl⟩ ⟨?x3_1_0, trivial⟩ ⟨_, _, _, _, rfl, rfl, rfl, rfl, rfl, rfl, rfl, rfl, rfl⟩ rfl rfl rfl
  case x3_1_0 => exact ⟨_, _, _, _, rfl, rfl, rfl, rfl, rfl, rfl, rfl, rfl, QO (f := Xx) (fun _ => rfl), (by have hm : maxLen = 9223372036854775807 := rfl; simp [upto]; first | omega | (simp; omega)), (by have hm : maxLen = 9223372036854775807 := rfl; simp [upto]; first | omega | (simp; omega)), fun _ _ _ _ _ hl => (hl.D 1 6 rfl rfl)⟩
 exact fun h => Zl rfl h
 exact fun _ _ => ⟨rfl, fun _ _ _ hx hl _ => Ys rfl (hl.env 1 0 _ rfl rfl) hx⟩
 exact fun h => Zl rfl h
 exact fun h => Zl rfl h
 clear a w h
 exact nx (Zi (fun a w h => ZP  (m := 0) v2 rfl h rfl rfl))
theorem Zir {J : World → Prop} (hJ : Stab J) (xs : List Hy) (b : xs.length * 48 ≤ 140737488351232) : FnM (ι := Value) Tryz.prog J 23 [] [.rd (Z4 xs)] [] (fun i' => .lit (i')) (fun i' => [OB.row i' 45 3 (xs.map hyC)]) := by
 refine Z6 (N := 8) Tryz.func23 rfl rfl (lb rfl) fun S w0 R hS hJ0 hH => ?_
 refine Ya (B := St All (SO S (R)) w0 8 [(0, .rd (Z4 xs))] (XO J S w0.heap.size (R))) ?_ fun a w h => h
 refine ln 0 fun hl1 => ?_
 refine qso tb hJ [0] [_] [_] ?_
 refine Zo (tsq ?_)
 refine snK 1 tb rfl ?_
 refine ZcG (f := hyC) (xs := xs) ZF rfl rfl rfl (lb rfl) (fun a w h => (h.get 0 rfl)) fun g1 hg1 => ?_
 refine seK [0,2] [_,_] rfl ?_
 refine nx (cj 0 (fun hb1 => ?_) fun hb1 => ?_)
 try simp at hb1
 refine qso tb hJ [1000] [_] [_] ?_
 refine tw (Yf 45 3 hJ) ?_
 refine tw (ob0 (congrArg (fun z' => OB.row (.slice none 0 0) 45 3 ((z').map hyC)) (show ([] : List Hy) = xs from by first | exact (hg1 (by assumption)).symm | simp))) ?_
 exact Zi (fun a w h => ZP  (m := 0) (.slice none 0 0) rfl h rfl rfl)
 try simp at hb1
 refine Zf (nx (Zo (fun a w h => ZcJ (id := 3) (t := 34) (e := 45) (size := 3) (bytes := 48) (i0 := 0) (fol := 3) (d := 2) (ch := [(2, (xs.map hyC))]) (fun ix' => ([.any, .rd (Z4 xs), .any, .any] : List AV).getD ix' .any) (fun ix' => ([true, true, true, true] : List Bool).getD ix' true) [] (xs.map hyC) (by simp) ?r3_1 hJ hJ0 h Ye rfl rfl rfl rfl ⟨?o3_1_0, ⟨?o3_1_1, ⟨?o3_1_2, ⟨?o3_1_3, trivial⟩⟩⟩⟩ trivial (fun v2 => ?n3_1))))
 case r3_1 =>
  refine Row.mk' ZbZ ⟨_, rfl, rfl, rfl, rfl, rfl⟩ ⟨?x3_1_0, trivial⟩ ⟨_, _, _, _, rfl, rfl, rfl, rfl, rfl, rfl, rfl, rfl, rfl⟩ rfl rfl rfl
  case x3_1_0 => exact ⟨_, _, _, _, rfl, rfl, rfl, rfl, rfl, rfl, rfl, rfl, QO (f := hyC) (fun _ => rfl), (by have hm : maxLen = 9223372036854775807 := rfl; simp [upto]; first | omega | (simp; omega)), (by have hm : maxLen = 9223372036854775807 := rfl; simp [upto]; first | omega | (simp; omega)), fun _ _ _ _ _ hl => (hl.D 1 6 rfl rfl)⟩
 exact fun h => Zl rfl h
 exact fun _ _ => ⟨rfl, fun _ _ _ hx hl _ => Ys rfl (hl.env 1 0 _ rfl rfl) hx⟩
 exact fun h => Zl rfl h
 exact fun h => Zl rfl h
 clear a w h
 exact nx (Zi (fun a w h => ZP  (m := 0) v2 rfl h rfl rfl))
theorem ZnX {J : World → Prop} (hJ : Stab J) (xs : List Pr) (b : xs.length * 32 ≤ 140737488351232) : FnM (ι := Value) Tryz.prog J 54 [] [.rd (YK xs)] [] (fun i' => .lit (i')) (fun i' => [OB.row i' 62 2 (xs.map prC)]) := by
 refine Z6 (N := 8) Tryz.func54 rfl rfl (lb rfl) fun S w0 R hS hJ0 hH => ?_
 refine Ya (B := St All (SO S (R)) w0 8 [(0, .rd (YK xs))] (XO J S w0.heap.size (R))) ?_ fun a w h => h
 refine ln 0 fun hl1 => ?_
 refine qso tb hJ [0] [_] [_] ?_
 refine Zo (tsq ?_)
 refine snK 1 tb rfl ?_
 refine ZcG (f := prC) (xs := xs) Z8 rfl rfl rfl (lb rfl) (fun a w h => (h.get 0 rfl)) fun g1 hg1 => ?_
 refine seK [0,2] [_,_] rfl ?_
 refine nx (cj 0 (fun hb1 => ?_) fun hb1 => ?_)
 try simp at hb1
 refine qso tb hJ [1000] [_] [_] ?_
 refine tw (Yf 62 2 hJ) ?_
 refine tw (ob0 (congrArg (fun z' => OB.row (.slice none 0 0) 62 2 ((z').map prC)) (show ([] : List Pr) = xs from by first | exact (hg1 (by assumption)).symm | simp))) ?_
 exact Zi (fun a w h => ZP  (m := 0) (.slice none 0 0) rfl h rfl rfl)
 try simp at hb1
 refine Zf (nx (Zo (fun a w h => ZcJ (id := 3) (t := 35) (e := 62) (size := 2) (bytes := 32) (i0 := 0) (fol := 3) (d := 2) (ch := [(2, (xs.map prC))]) (fun ix' => ([.any, .rd (YK xs), .any, .any] : List AV).getD ix' .any) (fun ix' => ([true, true, true, true] : List Bool).getD ix' true) [] (xs.map prC) (by simp) ?r3_1 hJ hJ0 h Ye rfl rfl rfl rfl ⟨?o3_1_0, ⟨?o3_1_1, ⟨?o3_1_2, ⟨?o3_1_3, trivial⟩⟩⟩⟩ trivial (fun v2 => ?n3_1))))
 case r3_1 =>
  refine Row.mk' ZdU ⟨_, rfl, rfl, rfl, rfl, rfl⟩ ⟨?x3_1_0, trivial⟩ ⟨_, _, _, _, rfl, rfl, rfl, rfl, rfl, rfl, rfl, rfl, rfl⟩ rfl rfl rfl
  case x3_1_0 => exact ⟨_, _, _, _, rfl, rfl, rfl, rfl, rfl, rfl, rfl, rfl, QO (f := prC) (fun _ => rfl), (by have hm : maxLen = 9223372036854775807 := rfl; simp [upto]; first | omega | (simp; omega)), (by have hm : maxLen = 9223372036854775807 := rfl; simp [upto]; first | omega | (simp; omega)), fun _ _ _ _ _ hl => (hl.D 1 6 rfl rfl)⟩
 exact fun h => Zl rfl h
 exact fun _ _ => ⟨rfl, fun _ _ _ hx hl _ => Ys rfl (hl.env 1 0 _ rfl rfl) hx⟩
 exact fun h => Zl rfl h
 exact fun h => Zl rfl h
 clear a w h
 exact nx (Zi (fun a w h => ZP  (m := 0) v2 rfl h rfl rfl))
theorem Ze5 {J : World → Prop} (hJ : Stab J) (v : Value) (xs : List Hy) (f : FuncId) (caps : List AV) (Os : List OB) (Hs : List OB) (p : Hy → Bool) (hf : ∀ q', FnR Tryz.prog J f (Os ++ Hs) ([.agg (hyC (q'))] ++ caps) (.bool (p q'))) (hk0 : Zp Tryz.prog f) (hn : xs.length ≤ 9223372036854775807) : FnM (ι := Unit) Tryz.prog J 106 Hs [.lit v, .fn f caps] (OB.row v 45 3 (xs.map hyC) :: Os) (fun _ => .rd (Z4 (xs.filter fun x' => !p x'))) (fun _ => (Os)) := by
 refine Z6 (N := 42) Tryz.func106 rfl rfl (lb rfl) fun S w0 R hS hJ0 hH => ?_
 refine Ya (B := St All (SO S (OB.row v 45 3 (xs.map hyC) :: (Os ++ R))) w0 42 [(0, .lit v), (1, .fn f caps)] (XO J S w0.heap.size (OB.row v 45 3 (xs.map hyC) :: (Os ++ R)))) ?_ fun a w h => h
 refine qso tb hJ [0,1] [_] [_,_] ?_
 refine ZpY tb hJ [0,1,1003] [_,_,.int (YM p xs),_] [2] [_,_,_] rfl ⟨fun _ _ hk hx hl _ => YV (Zcp hJ (xs := xs) (f := f) (caps := caps) (Os := (Os ++ Hs)) (p := p) (hf) (hk0)) ZhL rfl (nm hS hk) (hx.1) (Zfc (fun _ ho => ZcK hx (List.mem_cons_of_mem _ (List.mem_append_left _ ho))) (fun _ ho => ZiJ hH hk hx ho)) (Za (QG hS hx (mo 0 rfl) (hl.D 0 8 rfl rfl)) (Za (hl.D 1 9 rfl rfl) Ze)) (jo hJ hx), trivial⟩ ?_
 refine Zo (qso tb hJ [0,1,2,1001] [_,_] [_,_,_,_] ?_)
 refine cj 3 (fun hb1 => ?_) fun hb1 => ?_
 have e1 := of_decide_eq_true hb1
 refine qso tb hJ [1001] [_,_] [_] ?_
 refine tw (fun h => YB hS h (m := 0) (s := 4) rfl) ?_
 exact Zi (fun a w h => ZP  (m := 0) () rfl h rfl (congrArg (fun z => AV.rd (Z4 z)) (show xs = (xs.filter fun x' => !p x') from by first | exact DelF.none e1 | exact f1_1.fin (by have := f1_1.len; omega))))
 have e1 := of_decide_eq_false hb1
 refine Zf (nx (Zo (tw (sa 2 rfl (congrArg AV.int (show YM p xs = (((YM p xs).toNat : Nat) : Int) from by have := QY e1; omega))) ?_)))
 refine ZN tb hJ [0,1,2,1002] [_,.int ((YM p xs).toNat + 1 : Nat),_] [1] [_,_,_,_] rfl ⟨Yv (h0 := by have := (QY e1).2.1; omega), trivial⟩ ?_
 refine Zg (lpo (ι := Nat × Nat × (List Hy) × Value) (fun (i, j, ys, _) => (DelF p xs ys i j)) (fun (_, _, ys, vo) => (OB.row vo 45 3 (ys.map hyC) :: (Os ++ R))) (fun (i, j, _, vo) => [(5, .int (i : Nat)), (6, .int (j : Nat)), (0, .lit vo)]) (fun (_, j, _, _) => xs.length - j) [1,2,3,0] [_] ((YM p xs).toNat, (YM p xs).toNat + 1, xs, v) (show (DelF p xs xs ((YM p xs).toNat) ((YM p xs).toNat + 1)) from DelF.init e1) ?_)
 rintro ⟨i, j, ys, vo⟩ hF
 have f1_1 : DelF p xs ys i j := hF
 refine Zo (ZpY tb hJ [0,1,2,3,1003] [_,_,.int (ys.length : Nat),_] [2] [_,_,_,_,_] rfl ⟨fun _ _ _ hx hl _ => Zbg ZF rfl (QG hS hx (mo 0 rfl) (hl.D 1 17 rfl rfl)) hx, trivial⟩ ?_)
 refine cj 4 (fun hb2 => ?_) fun hb2 => ?_
 try simp at hb2
 refine Zf (nx (Zo (Zg (tsq ?_))))
 refine snK 2 tb rfl ?_
 refine sq (.lit (Xo vo (j * 3))) rfl rfl (lb rfl) (fun _ _ h => YH (i := (j : Int)) ZH rfl (Zd h.x (mo 0 rfl)) (h.get 1 rfl) (h.get 0 rfl) (Int.natCast_nonneg _) (by rw [List.length_map]; exact Int.ofNat_lt.2 (by omega)) h.x) ?_
 refine sq (.agg (hyC (ge ys j))) rfl rfl (lb rfl) (fun _ _ h => X4 (i := j) Qa rfl (Zd h.x (mo 0 rfl)) (h.get 0 rfl) (X0 (xs := ys) (k := j) (by omega)) rfl h.x) ?_
 refine XZ (cs := hyC (ge ys j)) Zad rfl rfl rfl (lb rfl) rfl rfl rfl (by decide) (m := 0) rfl rfl (fun a w h => Zr hS _ h.keep h.x _ (Nat.le_refl _)) (fun a w h w' hk' => Yl hJ _ _ hk' h.x) ?_
 refine seK [0,5,6,7,8] [_,_,_,_,_] rfl ?_
 refine nx (ZN tb hJ [0,1,2,3,4,1003] [_,_,.bool (p (ge ys j)),_] [2] [_,_,_,_,_,_] rfl ⟨fun _ _ hk hx hl _ => Zbo (hf (ge ys j)) hk0 rfl (hl.D 0 26 rfl rfl) (Zr hS _ hk hx) (hx.1) (Zfc (fun _ ho => Zd hx (List.mem_cons_of_mem _ (List.mem_append_left _ ho))) (fun _ ho => Z9 hH hk hx ho)) (Za (hl.D 1 27 rfl rfl) Ze) (jo hJ hx), trivial⟩ ?_)
 refine cj 5 (fun hb3 => ?_) fun hb3 => ?_
 try simp at hb3
 refine tsq ?_
 refine snK 3 tb rfl ?_
 refine sq (.lit (Xo vo (i * 3))) rfl rfl (lb rfl) (fun _ _ h => YH (i := (i : Int)) ZH rfl (Zd h.x (mo 0 rfl)) (h.get 2 rfl) (h.get 1 rfl) (Int.natCast_nonneg _) (by rw [List.length_map]; exact Int.ofNat_lt.2 (by have := f1_1.le; omega)) h.x) ?_
 refine QC (i := i) hJ hJ0 YS rfl rfl rfl (by rw [List.length_map]; exact (by have := f1_1.le; omega)) rfl (fun a w h => ⟨(h.get 0 rfl), (h.get 1 rfl)⟩) ?_
 rw [show (ys.map hyC).set i (hyC (ge ys j)) = (ys.set i (ge ys j)).map hyC from List.map_set.symm]
 refine seK [5,6,7,8] [_,_,_,_] rfl ?_
 refine nx (YW tb hJ [0,2,3,1002] [_,.int (i + 1 : Nat),_] [1] [_,_,_,_] rfl ⟨Yv (h0 := by have := f1_1.le; have := f1_1.len; omega), trivial⟩ ?_)
 refine nx (YW tb hJ [0,2,3,1002] [_,.int (j + 1 : Nat),_] [1] [_,_,_,_] rfl ⟨Yv (h0 := by have := f1_1.lt; have := f1_1.len; omega), trivial⟩ ?_)
 exact Xp (i + 1, j + 1, ys.set i (ge ys j), vo) [0,2,3,1] (show (DelF p xs (ys.set i (ge ys j)) (i + 1) (j + 1)) from f1_1.keep (by have := f1_1.len; omega) (by simpa using hb3)) (hm := (show xs.length - (j + 1) < xs.length - j from by have := f1_1.lt; have := f1_1.len; omega))
 try simp at hb3
 refine Zf (nx (YW tb hJ [1,2,4,1002] [_,.int (j + 1 : Nat),_] [1] [_,_,_,_] rfl ⟨Yv (h0 := by have := f1_1.lt; have := f1_1.len; omega), trivial⟩ ?_))
 exact Xp (i, j + 1, ys, vo) [0,1,3,2] (show (DelF p xs ys i (j + 1)) from f1_1.skip (by have := f1_1.len; omega) (by simpa using hb3)) (hm := (show xs.length - (j + 1) < xs.length - j from by have := f1_1.lt; have := f1_1.len; omega))
 try simp at hb2
 refine ZA (nx (tsq ?_))
 refine snK 2 tb rfl ?_
 refine sq (.lit (Zd0 vo i 3)) rfl rfl (lb rfl) (fun _ _ h => Zc9 (lo := i) ZH rfl (Zd h.x (mo 0 rfl)) (h.get 1 rfl) (h.get 0 rfl) (by rw [List.length_map]; exact (by have := f1_1.le; have := f1_1.lt; have := f1_1.len; omega)) h.x) ?_
 refine ZcH (lo := i) Zi8 ZF (by decide) hJ hJ0 rfl rfl rfl (by rw [List.length_map]; exact (by have := f1_1.le; have := f1_1.lt; have := f1_1.len; omega)) (fun a w h => (h.get 0 rfl)) ?_
 rw [← List.map_take]
 refine seK [4,6] [_,_] rfl ?_
 refine nx (ZN tb hJ [1003] [_,_,.lit (Zao vo i),_] [2] [_] rfl ⟨fun _ _ _ hx hl _ => Zer (m := i) ZH rfl (Zd hx (mo 0 rfl)) (by first | rfl | (rw [List.length_map]; exact (by have := f1_1.le; have := f1_1.lt; have := f1_1.len; simp; omega))) (hl.D 0 39 rfl rfl) (hl.D 1 40 rfl rfl) hx, trivial⟩ ?_)
 refine tw (fun h => YB hS h (m := 0) (s := 4) rfl) ?_
 exact Zi (fun a w h => ZP  (m := 0) () rfl h rfl (congrArg (fun z => AV.rd (Z4 z)) (show (ys.take i) = (xs.filter fun x' => !p x') from by first | exact DelF.none e1 | exact f1_1.fin (by have := f1_1.len; omega))))
theorem Ze4 {J : World → Prop} (hJ : Stab J) (v : Value) (xs : List Pr) (f : FuncId) (caps : List AV) (Os : List OB) (Hs : List OB) (p : Pr → Bool) (hf : ∀ q', FnR Tryz.prog J f (Os ++ Hs) ([.agg (prC (q'))] ++ caps) (.bool (p q'))) (hk0 : Zp Tryz.prog f) (hn : xs.length ≤ 9223372036854775807) : FnM (ι := Unit) Tryz.prog J 141 Hs [.lit v, .fn f caps] (OB.row v 62 2 (xs.map prC) :: Os) (fun _ => .rd (YK (xs.filter fun x' => !p x'))) (fun _ => (Os)) := by
 refine Z6 (N := 42) Tryz.func141 rfl rfl (lb rfl) fun S w0 R hS hJ0 hH => ?_
 refine Ya (B := St All (SO S (OB.row v 62 2 (xs.map prC) :: (Os ++ R))) w0 42 [(0, .lit v), (1, .fn f caps)] (XO J S w0.heap.size (OB.row v 62 2 (xs.map prC) :: (Os ++ R)))) ?_ fun a w h => h
 refine qso tb hJ [0,1] [_] [_,_] ?_
 refine ZpY tb hJ [0,1,1003] [_,_,.int (YM p xs),_] [2] [_,_,_] rfl ⟨fun _ _ hk hx hl _ => YV (Zgf hJ (xs := xs) (f := f) (caps := caps) (Os := (Os ++ Hs)) (p := p) (hf) (hk0)) ZoD rfl (nm hS hk) (hx.1) (Zfc (fun _ ho => ZcK hx (List.mem_cons_of_mem _ (List.mem_append_left _ ho))) (fun _ ho => ZiJ hH hk hx ho)) (Za (QG hS hx (mo 0 rfl) (hl.D 0 8 rfl rfl)) (Za (hl.D 1 9 rfl rfl) Ze)) (jo hJ hx), trivial⟩ ?_
 refine Zo (qso tb hJ [0,1,2,1001] [_,_] [_,_,_,_] ?_)
 refine cj 3 (fun hb1 => ?_) fun hb1 => ?_
 have e1 := of_decide_eq_true hb1
 refine qso tb hJ [1001] [_,_] [_] ?_
 refine tw (fun h => YB hS h (m := 0) (s := 4) rfl) ?_
 exact Zi (fun a w h => ZP  (m := 0) () rfl h rfl (congrArg (fun z => AV.rd (YK z)) (show xs = (xs.filter fun x' => !p x') from by first | exact DelF.none e1 | exact f1_1.fin (by have := f1_1.len; omega))))
 have e1 := of_decide_eq_false hb1
 refine Zf (nx (Zo (tw (sa 2 rfl (congrArg AV.int (show YM p xs = (((YM p xs).toNat : Nat) : Int) from by have := QY e1; omega))) ?_)))
 refine ZN tb hJ [0,1,2,1002] [_,.int ((YM p xs).toNat + 1 : Nat),_] [1] [_,_,_,_] rfl ⟨Yv (h0 := by have := (QY e1).2.1; omega), trivial⟩ ?_
 refine Zg (lpo (ι := Nat × Nat × (List Pr) × Value) (fun (i, j, ys, _) => (DelF p xs ys i j)) (fun (_, _, ys, vo) => (OB.row vo 62 2 (ys.map prC) :: (Os ++ R))) (fun (i, j, _, vo) => [(5, .int (i : Nat)), (6, .int (j : Nat)), (0, .lit vo)]) (fun (_, j, _, _) => xs.length - j) [1,2,3,0] [_] ((YM p xs).toNat, (YM p xs).toNat + 1, xs, v) (show (DelF p xs xs ((YM p xs).toNat) ((YM p xs).toNat + 1)) from DelF.init e1) ?_)
 rintro ⟨i, j, ys, vo⟩ hF
 have f1_1 : DelF p xs ys i j := hF
 refine Zo (ZpY tb hJ [0,1,2,3,1003] [_,_,.int (ys.length : Nat),_] [2] [_,_,_,_,_] rfl ⟨fun _ _ _ hx hl _ => Zbg Z8 rfl (QG hS hx (mo 0 rfl) (hl.D 1 17 rfl rfl)) hx, trivial⟩ ?_)
 refine cj 4 (fun hb2 => ?_) fun hb2 => ?_
 try simp at hb2
 refine Zf (nx (Zo (Zg (tsq ?_))))
 refine snK 2 tb rfl ?_
 refine sq (.lit (Xo vo (j * 2))) rfl rfl (lb rfl) (fun _ _ h => YH (i := (j : Int)) ZC rfl (Zd h.x (mo 0 rfl)) (h.get 1 rfl) (h.get 0 rfl) (Int.natCast_nonneg _) (by rw [List.length_map]; exact Int.ofNat_lt.2 (by omega)) h.x) ?_
 refine sq (.agg (prC (ge ys j))) rfl rfl (lb rfl) (fun _ _ h => X4 (i := j) Xy rfl (Zd h.x (mo 0 rfl)) (h.get 0 rfl) (X0 (xs := ys) (k := j) (by omega)) rfl h.x) ?_
 refine XZ (cs := prC (ge ys j)) ZeN rfl rfl rfl (lb rfl) rfl rfl rfl (by decide) (m := 0) rfl rfl (fun a w h => Zr hS _ h.keep h.x _ (Nat.le_refl _)) (fun a w h w' hk' => Yl hJ _ _ hk' h.x) ?_
 refine seK [0,5,6,7,8] [_,_,_,_,_] rfl ?_
 refine nx (ZN tb hJ [0,1,2,3,4,1003] [_,_,.bool (p (ge ys j)),_] [2] [_,_,_,_,_,_] rfl ⟨fun _ _ hk hx hl _ => Zbo (hf (ge ys j)) hk0 rfl (hl.D 0 26 rfl rfl) (Zr hS _ hk hx) (hx.1) (Zfc (fun _ ho => Zd hx (List.mem_cons_of_mem _ (List.mem_append_left _ ho))) (fun _ ho => Z9 hH hk hx ho)) (Za (hl.D 1 27 rfl rfl) Ze) (jo hJ hx), trivial⟩ ?_)
 refine cj 5 (fun hb3 => ?_) fun hb3 => ?_
 try simp at hb3
 refine tsq ?_
 refine snK 3 tb rfl ?_
 refine sq (.lit (Xo vo (i * 2))) rfl rfl (lb rfl) (fun _ _ h => YH (i := (i : Int)) ZC rfl (Zd h.x (mo 0 rfl)) (h.get 2 rfl) (h.get 1 rfl) (Int.natCast_nonneg _) (by rw [List.length_map]; exact Int.ofNat_lt.2 (by have := f1_1.le; omega)) h.x) ?_
 refine QC (i := i) hJ hJ0 Xt rfl rfl rfl (by rw [List.length_map]; exact (by have := f1_1.le; omega)) rfl (fun a w h => ⟨(h.get 0 rfl), (h.get 1 rfl)⟩) ?_
 rw [show (ys.map prC).set i (prC (ge ys j)) = (ys.set i (ge ys j)).map prC from List.map_set.symm]
 refine seK [5,6,7,8] [_,_,_,_] rfl ?_
 refine nx (YW tb hJ [0,2,3,1002] [_,.int (i + 1 : Nat),_] [1] [_,_,_,_] rfl ⟨Yv (h0 := by have := f1_1.le; have := f1_1.len; omega), trivial⟩ ?_)
 refine nx (YW tb hJ [0,2,3,1002] [_,.int (j + 1 : Nat),_] [1] [_,_,_,_] rfl ⟨Yv (h0 := by have := f1_1.lt; have := f1_1.len; omega), trivial⟩ ?_)
 exact Xp (i + 1, j + 1, ys.set i (ge ys j), vo) [0,2,3,1] (show (DelF p xs (ys.set i (ge ys j)) (i + 1) (j + 1)) from f1_1.keep (by have := f1_1.len; omega) (by simpa using hb3)) (hm := (show xs.length - (j + 1) < xs.length - j from by have := f1_1.lt; have := f1_1.len; omega))
 try simp at hb3
 refine Zf (nx (YW tb hJ [1,2,4,1002] [_,.int (j + 1 : Nat),_] [1] [_,_,_,_] rfl ⟨Yv (h0 := by have := f1_1.lt; have := f1_1.len; omega), trivial⟩ ?_))
 exact Xp (i, j + 1, ys, vo) [0,1,3,2] (show (DelF p xs ys i (j + 1)) from f1_1.skip (by have := f1_1.len; omega) (by simpa using hb3)) (hm := (show xs.length - (j + 1) < xs.length - j from by have := f1_1.lt; have := f1_1.len; omega))
 try simp at hb2
 refine ZA (nx (tsq ?_))
 refine snK 2 tb rfl ?_
 refine sq (.lit (Zd0 vo i 2)) rfl rfl (lb rfl) (fun _ _ h => Zc9 (lo := i) ZC rfl (Zd h.x (mo 0 rfl)) (h.get 1 rfl) (h.get 0 rfl) (by rw [List.length_map]; exact (by have := f1_1.le; have := f1_1.lt; have := f1_1.len; omega)) h.x) ?_
 refine ZcH (lo := i) Zeh Z8 (by decide) hJ hJ0 rfl rfl rfl (by rw [List.length_map]; exact (by have := f1_1.le; have := f1_1.lt; have := f1_1.len; omega)) (fun a w h => (h.get 0 rfl)) ?_
 rw [← List.map_take]
 refine seK [4,6] [_,_] rfl ?_
 refine nx (ZN tb hJ [1003] [_,_,.lit (Zao vo i),_] [2] [_] rfl ⟨fun _ _ _ hx hl _ => Zer (m := i) ZC rfl (Zd hx (mo 0 rfl)) (by first | rfl | (rw [List.length_map]; exact (by have := f1_1.le; have := f1_1.lt; have := f1_1.len; simp; omega))) (hl.D 0 39 rfl rfl) (hl.D 1 40 rfl rfl) hx, trivial⟩ ?_)
 refine tw (fun h => YB hS h (m := 0) (s := 4) rfl) ?_
 exact Zi (fun a w h => ZP  (m := 0) () rfl h rfl (congrArg (fun z => AV.rd (YK z)) (show (ys.take i) = (xs.filter fun x' => !p x') from by first | exact DelF.none e1 | exact f1_1.fin (by have := f1_1.len; omega))))
end Go.Proofs.YtgifeodnngodiaaGreatDoor
