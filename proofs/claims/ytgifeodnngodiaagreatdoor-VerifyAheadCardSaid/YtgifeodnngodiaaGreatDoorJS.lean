/-
  FACTS of the program's types and functions.
  CONTRACTS of the program: look-ups, functions that take functions.
  CONTRACTS of the library: slices' functions.
  CONTRACTS of the library: slices.DeleteFunc.
-/
import Derived.Test.YtgifeodnngodiaaGreatDoorJR
import Derived.Laws.StructEq
import Derived.Test.YtgifeodnngodiaaGreatDoorJH
import Derived.Test.YtgifeodnngodiaaGreatDoorJP
import Derived.Test.YtgifeodnngodiaaGreatDoorJF
import Derived.Test.YtgifeodnngodiaaGreatDoorJO
set_option maxHeartbeats 8000000
set_option maxRecDepth 100000
namespace Go.Proofs.YtgifeodnngodiaaGreatDoor
open Go.RowKit

theorem Yg : Tryz.prog.follows .mixedOrders = true := by kernel_rfl
theorem Zks : (Tryz.prog.fieldsOf 62).toList = [{ name := "A", type := 9, offset := 0, embedded := false, tag := "", pkgPath := "", byteOffset := 0 }, { name := "B", type := 9, offset := 1, embedded := false, tag := "", pkgPath := "", byteOffset := 16 }] := by kernel_rfl
theorem Zkq : Tryz.prog.underlying 62 = some (.struct (Tryz.prog.fieldsOf 62)) := by kernel_rfl
theorem ZoJ : Tryz.prog.underlying 9 = some .string := by kernel_rfl
theorem Zfk (c : Array Value) (i : Nat) (v : Value) (h : c[i]? = some v) (w : World) : (part 9 c i).run Tryz.prog w = .ok v w := by
  simp [part, Tryz.isAgg9, h]
theorem Zls : Zl8 Tryz.prog 62 := by
  intro a b c d w x y
  refine ⟨by simp [eqGuard], by simp [eqGuard], ?_⟩
  unfold Op.equal Op.maxDepth
  rw [run_equalIn_struct w 9999 62 _ _ Zkq (by kernel_rfl), Zks]
  have e1 := fun (c : Array Value) (v : Value) (i : Nat) (h : c[i]? = some v) => Zfk c i v h
  have q1 := run_equalIn_string (P := Tryz.prog) w 9998 9 a c ZoJ
  have q2 := run_equalIn_string (P := Tryz.prog) w 9998 9 b d ZoJ
  rw [QY] at q1 q2
  simp only [Op.eqFields]
  rw [if_pos (by decide), if_pos (by decide)]
  simp only [Sem.run_bind]
  rw [e1 _ (.string a) 0 rfl w, Result.andThen_ok, e1 _ (.string c) 0 rfl w, Result.andThen_ok, q1, Result.andThen_ok]
  by_cases h1 : a = c
  · simp only [h1, decide_true, Bool.not_true, Bool.false_eq_true, if_false, Sem.run_bind]
    rw [e1 _ (.string b) 1 rfl w, Result.andThen_ok, e1 _ (.string d) 1 rfl w, Result.andThen_ok, q2, Result.andThen_ok]
    by_cases h2 : b = d
    · simp [h2, Sem.run_pure]
    · simp [h2, Sem.run_pure]
  · simp [h1, Sem.run_pure]

theorem ZkO : X8 Tryz.prog 108 := fun w => by kernel_rfl
theorem ZH : Zjq Tryz.prog 108 9 4 keyS.kind := ⟨by kernel_rfl, by kernel_rfl⟩
theorem ZV : Zgp Tryz.prog 4 (.bool false) := ⟨(.bool false), fun w => by kernel_rfl, fun S w => Rel.of_lit _⟩
theorem Zg7 : ZS Tryz.prog 112 1 1 := fun b off w => by kernel_rfl
theorem Zc1 : X8 Tryz.prog 106 := fun w => by kernel_rfl
theorem ZeS : Zp Tryz.prog 94 := Zu Tryz.func94 rfl rfl
theorem Zw : Tryz.prog.underlying 22 = some (.slice 9) := by kernel_rfl
theorem Zm : Yc Tryz.prog 22 9 1 := ⟨by kernel_rfl, fun w => by kernel_rfl⟩
theorem QP : X8 Tryz.prog 9 := fun w => by kernel_rfl
theorem Zrp : Zp Tryz.prog 36 := Zu Tryz.func36 rfl rfl
theorem ZG : Tryz.prog.underlying 34 = some (.slice 45) := by kernel_rfl
theorem ZI : Yc Tryz.prog 34 45 3 := ⟨by kernel_rfl, fun w => by kernel_rfl⟩
theorem XZ : XC Tryz.prog 45 3 := ⟨fun w => by kernel_rfl, fun w => by kernel_rfl⟩
theorem ZlU : Zp Tryz.prog 44 := Zu Tryz.func44 rfl rfl
theorem Z6 : Tryz.prog.underlying 35 = some (.slice 62) := by kernel_rfl
theorem ZD : Yc Tryz.prog 35 62 2 := ⟨by kernel_rfl, fun w => by kernel_rfl⟩
theorem Xr : XC Tryz.prog 62 2 := ⟨fun w => by kernel_rfl, fun w => by kernel_rfl⟩
theorem Xw : Tryz.prog.underlying 23 = some (.slice 37) := by kernel_rfl
theorem YD : Yc Tryz.prog 23 37 8 := ⟨by kernel_rfl, fun w => by kernel_rfl⟩
theorem Ziq : XC Tryz.prog 37 8 := ⟨fun w => by kernel_rfl, fun w => by kernel_rfl⟩
theorem Zrl : Zp Tryz.prog 45 := Zu Tryz.func45 rfl rfl
theorem XY : Zgs Tryz.prog 22 9 1 16 := ZrD (.string ⟨#[]⟩) (by kernel_rfl) (by kernel_rfl) rfl (by decide) (fun w => by kernel_rfl)
theorem Zdy : Zgs Tryz.prog 34 45 3 48 := ZrD (.agg #[.string ⟨#[]⟩, .bool false, .slice none 0 0]) (by kernel_rfl) (by kernel_rfl) rfl (by decide) (fun w => by kernel_rfl)
theorem Zl3 : Zgs Tryz.prog 35 62 2 32 := ZrD (.agg #[.string ⟨#[]⟩, .string ⟨#[]⟩]) (by kernel_rfl) (by kernel_rfl) rfl (by decide) (fun w => by kernel_rfl)
theorem ZaL : ZoH Tryz.prog 45 3 := ⟨(#[.string ⟨#[]⟩, .bool false, .slice none 0 0]), rfl, by kernel_rfl⟩
theorem YI : XQ Tryz.prog 45 3 := fun w => by kernel_rfl
theorem Zir : ZdQ Tryz.prog 45 3 := ⟨(.agg #[.string ⟨#[]⟩, .bool false, .slice none 0 0]), fun w => by kernel_rfl, rfl, by simp [Value.cells, Value.oneCell']⟩
theorem ZnS : Zp Tryz.prog 159 := Zu Tryz.func159 rfl rfl
theorem Zem : ZoH Tryz.prog 62 2 := ⟨(#[.string ⟨#[]⟩, .string ⟨#[]⟩]), rfl, by kernel_rfl⟩
theorem Xj : XQ Tryz.prog 62 2 := fun w => by kernel_rfl
theorem ZdU : ZdQ Tryz.prog 62 2 := ⟨(.agg #[.string ⟨#[]⟩, .string ⟨#[]⟩]), fun w => by kernel_rfl, rfl, by simp [Value.cells, Value.oneCell']⟩
theorem QV : ZS Tryz.prog 62 0 0 := fun b off w => by kernel_rfl
theorem Zij : Zp Tryz.prog 140 := Zu Tryz.func140 rfl rfl
theorem QU : ZS Tryz.prog 62 1 1 := fun b off w => by kernel_rfl
theorem ZaT : ZS Tryz.prog 45 0 0 := fun b off w => by kernel_rfl
theorem ZfI : X8 Tryz.prog 4 := fun w => by kernel_rfl
theorem undb_4 : Tryz.prog.underlying 4 = some .bool := by kernel_rfl
theorem QW : ZS Tryz.prog 45 2 2 := fun b off w => by kernel_rfl
theorem XR : X8 Tryz.prog 22 := fun w => by kernel_rfl
theorem ZlP : Zp Tryz.prog 80 := Zu Tryz.func80 rfl rfl
theorem Z5 : Yc Tryz.prog 52 22 1 := ⟨by kernel_rfl, fun w => by kernel_rfl⟩
theorem ZcF : ZdP Tryz.prog 22 := ⟨.slice none 0 0, fun w => by kernel_rfl⟩
theorem ZbH : Zgs Tryz.prog 52 22 1 24 := ZrD (.slice none 0 0) (by kernel_rfl) (by kernel_rfl) rfl (by decide) (fun w => by kernel_rfl)
theorem ZaM : Tryz.prog.underlying 52 = some (.slice 22) := by kernel_rfl
theorem Zn2 : Zp Tryz.prog 142 := Zu Tryz.func142 rfl rfl
theorem Zri : Zp Tryz.prog 54 := Zu Tryz.func54 rfl rfl
theorem Zn3 : Zp Tryz.prog 141 := Zu Tryz.func141 rfl rfl
theorem Zos : Zp Tryz.prog 107 := Zu Tryz.func107 rfl rfl
theorem ZaU : ZS Tryz.prog 37 2 2 := fun b off w => by kernel_rfl
theorem ZfJ : X8 Tryz.prog 34 := fun w => by kernel_rfl
theorem Zrw : Zp Tryz.prog 23 := Zu Tryz.func23 rfl rfl
theorem Zot : Zp Tryz.prog 106 := Zu Tryz.func106 rfl rfl
theorem Ys : Zgq Tryz.prog 45 [.lit (.string ⟨#[]⟩), .lit (.bool false), .sl []] := ⟨(.agg #[.string ⟨#[]⟩, .bool false, .slice none 0 0]), fun w => by kernel_rfl, fun S w => (show RdL S w [.lit (.string ⟨#[]⟩), .lit (.bool false), .sl []] [.string ⟨#[]⟩, .bool false, .slice none 0 0] from ⟨.lit _ (Nat.zero_le _), .lit _ True.intro, .nil _ _ (Nat.zero_le _), trivial⟩)⟩
theorem ZlW : Zp Tryz.prog 14 := Zu Tryz.func14 rfl rfl
theorem Zfj : XQ Tryz.prog 22 1 := fun w => by kernel_rfl
theorem Zoh : Zp Tryz.prog 121 := Zu Tryz.func121 rfl rfl
theorem Zbg : Zp Tryz.prog 11 := Zu Tryz.func11 rfl rfl
theorem Zbk : Zgq Tryz.prog 195 ((List.replicate 256 (0 : UInt8)).map u8D) := Zmo (.agg (Array.replicate 256 (.int .u8 0))) (fun w => by kernel_rfl) (by simp [Value.cells])
theorem XS : Tryz.prog.underlying 3 = some (.int .i64) := by kernel_rfl
theorem Zbl : Tryz.prog.underlying 5 = some (.int .u8) := by kernel_rfl
theorem Xn : ArrT Tryz.prog 195 5 256 := ⟨by kernel_rfl, fun w => by kernel_rfl, by decide⟩
theorem Zcq : XQ Tryz.prog 5 1 := fun w => by kernel_rfl
theorem Zdz : XC Tryz.prog 195 256 := ⟨fun w => by kernel_rfl, fun w => by kernel_rfl⟩
theorem Zb4 : XQ Tryz.prog 195 256 := fun w => by kernel_rfl
theorem Ziy : Tryz.prog.underlying 178 = some (.slice 5) := by kernel_rfl
theorem ZaF : Yc Tryz.prog 178 5 1 := ⟨by kernel_rfl, fun w => by kernel_rfl⟩
theorem one_5 : X8 Tryz.prog 5 := fun w => by kernel_rfl
theorem ZnT : Zp Tryz.prog 157 := Zu Tryz.func157 rfl rfl
theorem YM : Tryz.prog.underlying 9 = some .string := by kernel_rfl
theorem Zn5 : Zp Tryz.prog 138 := Zu Tryz.func138 rfl rfl
theorem Zn4 : Zp Tryz.prog 139 := Zu Tryz.func139 rfl rfl
theorem zero_5 : ZdP Tryz.prog 5 := ⟨.int .u8 0, fun w => by kernel_rfl⟩
theorem Zil : Zp Tryz.prog 118 := Zu Tryz.func118 rfl rfl
theorem Zjv : ZdQ Tryz.prog 5 1 := ⟨(.int .u8 0), fun w => by kernel_rfl, rfl, by simp [Value.cells, Value.oneCell']⟩
theorem Zie : Zp Tryz.prog 162 := Zu Tryz.func162 rfl rfl
theorem Zg9 : Zp Tryz.prog 93 := Zu Tryz.func93 rfl rfl
theorem ZnQ : Zp Tryz.prog 163 := Zu Tryz.func163 rfl rfl
theorem Zif : Zp Tryz.prog 161 := Zu Tryz.func161 rfl rfl
theorem Zbb : X8 Tryz.prog 3 := fun w => by kernel_rfl
theorem Zap : Tryz.prog.underlying 216 = some (.array 10 215) := by kernel_rfl
theorem ZaO : XQ Tryz.prog 215 4 := fun w => by kernel_rfl
theorem Zgn : XC Tryz.prog 215 4 := ⟨fun w => by kernel_rfl, fun w => by kernel_rfl⟩
theorem Zbj : Zgq Tryz.prog 215 [.lit (.string ⟨#[]⟩), .lit (.bool false), .lit (.int .i64 0), .lit (.int .i64 0)] := ⟨(.agg #[.string ⟨#[]⟩, .bool false, .int .i64 0, .int .i64 0]), fun w => by kernel_rfl, fun S w => (show RdL S w [.lit (.string ⟨#[]⟩), .lit (.bool false), .lit (.int .i64 0), .lit (.int .i64 0)] [.string ⟨#[]⟩, .bool false, .int .i64 0, .int .i64 0] from ⟨.lit _ (Nat.zero_le _), .lit _ True.intro, .lit _ True.intro, .lit _ True.intro, trivial⟩)⟩
theorem ZeR : Zp Tryz.prog 95 := Zu Tryz.func95 rfl rfl
theorem Zg3 : ZS Tryz.prog 174 2 2 := fun b off w => by kernel_rfl
theorem Zg2 : ZS Tryz.prog 174 3 3 := fun b off w => by kernel_rfl
theorem ZnZ : Zp Tryz.prog 145 := Zu Tryz.func145 rfl rfl
theorem Zao : Tryz.prog.underlying 175 = some (.slice 174) := by kernel_rfl
theorem QJ : Yc Tryz.prog 175 174 4 := ⟨by kernel_rfl, fun w => by kernel_rfl⟩
theorem ZnR : Zp Tryz.prog 160 := Zu Tryz.func160 rfl rfl
theorem Zb2 : ZdP Tryz.prog 9 := ⟨.string ⟨#[]⟩, fun w => by kernel_rfl⟩
theorem Zg1 : ZS Tryz.prog 215 0 0 := fun b off w => by kernel_rfl
theorem Zn0 : Zp Tryz.prog 144 := Zu Tryz.func144 rfl rfl
theorem Zn1 : Zp Tryz.prog 143 := Zu Tryz.func143 rfl rfl
theorem ZjE : ZoH Tryz.prog 174 4 := ⟨(#[.int .i64 0, .string ⟨#[]⟩, .slice none 0 0, .slice none 0 0]), rfl, by kernel_rfl⟩
theorem ZnY : Zp Tryz.prog 146 := Zu Tryz.func146 rfl rfl
theorem Zhc : Za6 Tryz.prog 174 4 := ⟨#[.int .i64 0, .string ⟨#[]⟩, .slice none 0 0, .slice none 0 0], rfl, fun i => (#[(0, 1), (1, 1), (2, 1), (3, 1)] : Array (Nat × Nat))[i]?, fun j hj => by rcases j with _ | _ | _ | _ | j <;> first | rfl | omega, fun parts => by kernel_rfl⟩
theorem Zmh : ZdP Tryz.prog 174 := ⟨.agg #[.int .i64 0, .string ⟨#[]⟩, .slice none 0 0, .slice none 0 0], fun w => by kernel_rfl⟩
theorem Zob : Zp Tryz.prog 127 := Zu Tryz.func127 rfl rfl
theorem Zjh : ZS Tryz.prog 25 1 1 := fun b off w => by kernel_rfl
theorem Zg6 : ZS Tryz.prog 112 2 2 := fun b off w => by kernel_rfl
theorem Zdh : ZS Tryz.prog 137 1 1 := fun b off w => by kernel_rfl
theorem ZgP : X8 Tryz.prog 110 := fun w => by kernel_rfl
theorem QA : Zjq Tryz.prog 110 9 9 keyS.kind := ⟨by kernel_rfl, by kernel_rfl⟩
theorem ZcG : Zgp Tryz.prog 9 (.str default) := ⟨(.string ⟨#[]⟩), fun w => by kernel_rfl, fun S w => (show Rel S w (.str ⟨#[]⟩) _ from Rel.of_lit _ (Nat.zero_le _))⟩
theorem Zg5 : ZS Tryz.prog 112 4 4 := fun b off w => by kernel_rfl
theorem Ql : ZS Tryz.prog 112 3 3 := fun b off w => by kernel_rfl
theorem Zc0 : X8 Tryz.prog 109 := fun w => by kernel_rfl
theorem XL : Zjq Tryz.prog 109 9 45 keyS.kind := ⟨by kernel_rfl, by kernel_rfl⟩
theorem Q4 : Zgp Tryz.prog 45 (.agg (hyC default)) := ⟨(.agg #[.string ⟨#[]⟩, .bool false, .slice none 0 0]), fun w => by kernel_rfl, fun S w => (show Rel S w (.agg [.lit (.string ⟨#[]⟩), .lit (.bool false), .sl []]) _ from (by simp only [Rel]; exact ⟨[.string ⟨#[]⟩, .bool false, .slice none 0 0], rfl, .lit _ (Nat.zero_le _), .lit _ True.intro, .nil _ _ (Nat.zero_le _), trivial⟩))⟩
theorem Zik : Zp Tryz.prog 120 := Zu Tryz.func120 rfl rfl
theorem ZlL : Zp Tryz.prog 98 := Zu Tryz.func98 rfl rfl
theorem Zed : ZS Tryz.prog 37 4 4 := fun b off w => by kernel_rfl
theorem Zof : Zp Tryz.prog 123 := Zu Tryz.func123 rfl rfl
theorem Zog : Zp Tryz.prog 122 := Zu Tryz.func122 rfl rfl
theorem Zfc : Tryz.prog.underlying 108 = some (.map 9 4) := by kernel_rfl
theorem Zjf : ZS Tryz.prog 37 6 6 := fun b off w => by kernel_rfl
theorem Zo6 : X8 Tryz.prog 35 := fun w => by kernel_rfl
theorem QL : Zgq Tryz.prog 62 [.lit (.string ⟨#[]⟩), .lit (.string ⟨#[]⟩)] := ⟨(.agg #[.string ⟨#[]⟩, .string ⟨#[]⟩]), fun w => by kernel_rfl, fun S w => (show RdL S w [.lit (.string ⟨#[]⟩), .lit (.string ⟨#[]⟩)] [.string ⟨#[]⟩, .string ⟨#[]⟩] from ⟨.lit _ (Nat.zero_le _), .lit _ (Nat.zero_le _), trivial⟩)⟩
theorem Zoe : Zp Tryz.prog 124 := Zu Tryz.func124 rfl rfl
theorem Zjg : ZS Tryz.prog 37 3 3 := fun b off w => by kernel_rfl
theorem Zoc : Zp Tryz.prog 126 := Zu Tryz.func126 rfl rfl
theorem Zod : Zp Tryz.prog 125 := Zu Tryz.func125 rfl rfl
theorem Zox : Zp Tryz.prog 101 := Zu Tryz.func101 rfl rfl
theorem ZcK : Tryz.prog.underlying 164 = some (.slice 34) := by kernel_rfl
theorem Qb : Yc Tryz.prog 164 34 1 := ⟨by kernel_rfl, fun w => by kernel_rfl⟩
theorem Zoi : Zp Tryz.prog 119 := Zu Tryz.func119 rfl rfl
theorem Zfb : Tryz.prog.underlying 110 = some (.map 9 9) := by kernel_rfl
theorem Zoy : Zp Tryz.prog 100 := Zu Tryz.func100 rfl rfl
theorem Zov : Zp Tryz.prog 103 := Zu Tryz.func103 rfl rfl
theorem ZbY : ZS Tryz.prog 37 0 0 := fun b off w => by kernel_rfl
theorem Zhe : Za6 Tryz.prog 137 2 := ⟨#[.map none, .map none], rfl, fun i => (#[(0, 1), (1, 1)] : Array (Nat × Nat))[i]?, fun j hj => by rcases j with _ | _ | j <;> first | rfl | omega, fun parts => by kernel_rfl⟩
theorem Zgy : Zgq Tryz.prog 137 [.lit (.map none), .lit (.map none)] := ⟨(.agg #[.map none, .map none]), fun w => by kernel_rfl, fun S w => (show RdL S w [.lit (.map none), .lit (.map none)] [.map none, .map none] from ⟨.lit _ True.intro, .lit _ True.intro, trivial⟩)⟩
theorem ZiI : XQ Tryz.prog 137 2 := fun w => by kernel_rfl
theorem ZdV : ZdQ Tryz.prog 34 1 := ⟨(.slice none 0 0), fun w => by kernel_rfl, rfl, by simp [Value.cells, Value.oneCell']⟩
theorem ZlM : Zp Tryz.prog 96 := Zu Tryz.func96 rfl rfl
theorem Zq8 : Zp Tryz.prog 97 := Zu Tryz.func97 rfl rfl
theorem Zq7 : Zp Tryz.prog 99 := Zu Tryz.func99 rfl rfl
theorem Zje : ZS Tryz.prog 37 7 7 := fun b off w => by kernel_rfl
theorem ZlS : Zp Tryz.prog 70 := Zu Tryz.func70 rfl rfl
theorem Zow : Zp Tryz.prog 102 := Zu Tryz.func102 rfl rfl
theorem ZeT : Zp Tryz.prog 27 := Zu Tryz.func27 rfl rfl
theorem Zim : Zp Tryz.prog 104 := Zu Tryz.func104 rfl rfl
theorem Zou : Zp Tryz.prog 105 := Zu Tryz.func105 rfl rfl
theorem QX : ZS Tryz.prog 25 2 2 := fun b off w => by kernel_rfl
theorem ZhQ : X8 Tryz.prog 23 := fun w => by kernel_rfl
theorem Zhf : Za6 Tryz.prog 112 5 := ⟨#[.map none, .map none, .map none, .map none, .map none], rfl, fun i => (#[(0, 1), (1, 1), (2, 1), (3, 1), (4, 1)] : Array (Nat × Nat))[i]?, fun j hj => by rcases j with _ | _ | _ | _ | _ | j <;> first | rfl | omega, fun parts => by kernel_rfl⟩
theorem ZcE : XC Tryz.prog 25 3 := ⟨fun w => by kernel_rfl, fun w => by kernel_rfl⟩
theorem Zrg : Zp Tryz.prog 68 := Zu Tryz.func68 rfl rfl
theorem Zmn : ZoH Tryz.prog 37 8 := ⟨(#[.string ⟨#[]⟩, .bool false, .slice none 0 0, .slice none 0 0, .slice none 0 0, .slice none 0 0, .slice none 0 0, .slice none 0 0]), rfl, by kernel_rfl⟩
theorem Zrf : Zp Tryz.prog 69 := Zu Tryz.func69 rfl rfl
theorem Zfa : Tryz.prog.underlying 151 = some (.slice 153) := by kernel_rfl
theorem Za5 : Yc Tryz.prog 151 153 2 := ⟨by kernel_rfl, fun w => by kernel_rfl⟩
theorem ZjF : ZoH Tryz.prog 153 2 := ⟨(#[.string ⟨#[]⟩, .slice none 0 0]), rfl, by kernel_rfl⟩
theorem Q8 : Zjq Tryz.prog 188 9 22 keyS.kind := ⟨by kernel_rfl, by kernel_rfl⟩
theorem Zbi : Zgp Tryz.prog 22 (.rd (Zb default)) := ⟨(.slice none 0 0), fun w => by kernel_rfl, fun S w => (show Rel S w (.rd (.sl [])) _ from (by simp only [Rel]; exact .nil _ _ (Nat.zero_le _)))⟩
theorem ZbE : Zp Tryz.prog 132 := Zu Tryz.func132 rfl rfl
theorem XA : Zjq Tryz.prog 107 9 4 keyS.kind := ⟨by kernel_rfl, by kernel_rfl⟩
theorem ZeU : Zp Tryz.prog 131 := Zu Tryz.func131 rfl rfl
theorem Zoa : Zp Tryz.prog 133 := Zu Tryz.func133 rfl rfl
theorem Zhy : XQ Tryz.prog 9 1 := fun w => by kernel_rfl
theorem Yl : ZS Tryz.prog 77 4 13 := fun b off w => by kernel_rfl
theorem Zax : X8 Tryz.prog 52 := fun w => by kernel_rfl
theorem Zbp : XQ Tryz.prog 52 1 := fun w => by kernel_rfl
theorem ZbZ : Za6 Tryz.prog 30 2 := ⟨#[.int .i64 0, .int .i64 0], rfl, fun i => (#[(0, 1), (1, 1)] : Array (Nat × Nat))[i]?, fun j hj => by rcases j with _ | _ | j <;> first | rfl | omega, fun parts => by kernel_rfl⟩
theorem Zdf : ZS Tryz.prog 77 7 16 := fun b off w => by kernel_rfl
theorem Qv : XQ Tryz.prog 4 1 := fun w => by kernel_rfl
theorem Zde : ZS Tryz.prog 77 8 17 := fun b off w => by kernel_rfl
theorem QM : XQ Tryz.prog 30 2 := fun w => by kernel_rfl
theorem ZlN : Zp Tryz.prog 92 := Zu Tryz.func92 rfl rfl
theorem Zix : Tryz.prog.underlying 222 = some (.slice 3) := by kernel_rfl
theorem ZaE : Yc Tryz.prog 222 3 1 := ⟨by kernel_rfl, fun w => by kernel_rfl⟩
theorem ZcC : Zp Tryz.prog 156 := Zu Tryz.func156 rfl rfl
theorem Ze8 : ZdQ Tryz.prog 3 1 := ⟨(.int .i64 0), fun w => by kernel_rfl, rfl, by simp [Value.cells, Value.oneCell']⟩
theorem Zig : Zp Tryz.prog 155 := Zu Tryz.func155 rfl rfl
theorem ZcL : Tryz.prog.underlying 81 = some (.int .u64) := by kernel_rfl
theorem ZnU : Zp Tryz.prog 153 := Zu Tryz.func153 rfl rfl
theorem Zih : Zp Tryz.prog 154 := Zu Tryz.func154 rfl rfl
theorem Zjo : Za6 Tryz.prog 62 2 := ⟨#[.string ⟨#[]⟩, .string ⟨#[]⟩], rfl, fun i => (#[(0, 1), (1, 1)] : Array (Nat × Nat))[i]?, fun j hj => by rcases j with _ | _ | j <;> first | rfl | omega, fun parts => by kernel_rfl⟩
theorem Zii : Zp Tryz.prog 149 := Zu Tryz.func149 rfl rfl
theorem ZnX : Zp Tryz.prog 150 := Zu Tryz.func150 rfl rfl
theorem ZnW : Zp Tryz.prog 151 := Zu Tryz.func151 rfl rfl
theorem Zn6 : Zp Tryz.prog 137 := Zu Tryz.func137 rfl rfl
theorem Zmp : Zgq Tryz.prog 4 [.lit (.bool false)] := ⟨(.bool false), fun w => by kernel_rfl, fun S w => (show RdL S w [.lit (.bool false)] [.bool false] from ⟨.lit _ True.intro, trivial⟩)⟩
theorem Zn9 : Zp Tryz.prog 134 := Zu Tryz.func134 rfl rfl
theorem ZjI : Zgq Tryz.prog 35 [.sl []] := ⟨(.slice none 0 0), fun w => by kernel_rfl, fun S w => (show RdL S w [.sl []] [.slice none 0 0] from ⟨.nil _ _ (Nat.zero_le _), trivial⟩)⟩
theorem Zj5 : XQ Tryz.prog 35 1 := fun w => by kernel_rfl
theorem Zn8 : Zp Tryz.prog 135 := Zu Tryz.func135 rfl rfl
theorem ZnV : Zp Tryz.prog 152 := Zu Tryz.func152 rfl rfl
theorem Zn7 : Zp Tryz.prog 136 := Zu Tryz.func136 rfl rfl
theorem Zec : ZS Tryz.prog 77 0 0 := fun b off w => by kernel_rfl
theorem Zja : ZS Tryz.prog 89 2 2 := fun b off w => by kernel_rfl
theorem Y7 : Zp Tryz.prog 73 := Zu Tryz.func73 rfl rfl
theorem Zhd : Za6 Tryz.prog 153 2 := ⟨#[.string ⟨#[]⟩, .slice none 0 0], rfl, fun i => (#[(0, 1), (1, 1)] : Array (Nat × Nat))[i]?, fun j hj => by rcases j with _ | _ | j <;> first | rfl | omega, fun parts => by kernel_rfl⟩
theorem Zmi : ZdP Tryz.prog 153 := ⟨.agg #[.string ⟨#[]⟩, .slice none 0 0], fun w => by kernel_rfl⟩
theorem Zhh : Zgs Tryz.prog 151 153 2 40 := ZrD (.agg #[.string ⟨#[]⟩, .slice none 0 0]) (by kernel_rfl) (by kernel_rfl) rfl (by decide) (fun w => by kernel_rfl)
theorem Zom : Zp Tryz.prog 113 := Zu Tryz.func113 rfl rfl
theorem Zol : Zp Tryz.prog 114 := Zu Tryz.func114 rfl rfl
theorem Qe : ZS Tryz.prog 77 1 3 := fun b off w => by kernel_rfl
theorem Zok : Zp Tryz.prog 115 := Zu Tryz.func115 rfl rfl
theorem Zoj : Zp Tryz.prog 116 := Zu Tryz.func116 rfl rfl
theorem Zha : Zp Tryz.prog 83 := Zu Tryz.func83 rfl rfl
theorem Zrh : Zp Tryz.prog 56 := Zu Tryz.func56 rfl rfl
theorem Zjb : ZS Tryz.prog 89 0 0 := fun b off w => by kernel_rfl
theorem Zfd : Tryz.prog.underlying 91 = some (.array 5 90) := by kernel_rfl
theorem one_90 : X8 Tryz.prog 90 := fun w => by kernel_rfl
theorem Zj3 : XQ Tryz.prog 90 1 := fun w => by kernel_rfl
theorem Z8 : X8 Tryz.prog 47 := fun w => by kernel_rfl
theorem Y2 : XC Tryz.prog 89 4 := ⟨fun w => by kernel_rfl, fun w => by kernel_rfl⟩
theorem Zbe : ZS Tryz.prog 77 5 14 := fun b off w => by kernel_rfl
theorem YO : ZS Tryz.prog 77 6 15 := fun b off w => by kernel_rfl
theorem ZN : ZS Tryz.prog 77 3 12 := fun b off w => by kernel_rfl
theorem Zad : X8 Tryz.prog 75 := fun w => by kernel_rfl
theorem ZdW : Tryz.prog.underlying 75 = some (.slice 89) := by kernel_rfl
theorem Zdx : Zp Tryz.prog 50 := Zu Tryz.func50 rfl rfl
theorem Yp : Yc Tryz.prog 75 89 4 := ⟨by kernel_rfl, fun w => by kernel_rfl⟩
theorem Zan : Zgq Tryz.prog 89 [.lit (.int .i64 0), .sl [], .lit (.int .i64 0), .lit (.bool false)] := ⟨(.agg #[.int .i64 0, .slice none 0 0, .int .i64 0, .bool false]), fun w => by kernel_rfl, fun S w => (show RdL S w [.lit (.int .i64 0), .sl [], .lit (.int .i64 0), .lit (.bool false)] [.int .i64 0, .slice none 0 0, .int .i64 0, .bool false] from ⟨.lit _ True.intro, .nil _ _ (Nat.zero_le _), .lit _ True.intro, .lit _ True.intro, trivial⟩)⟩
theorem XF : XQ Tryz.prog 89 4 := fun w => by kernel_rfl
theorem ZlT : Zp Tryz.prog 47 := Zu Tryz.func47 rfl rfl
theorem Xe : ZS Tryz.prog 89 3 3 := fun b off w => by kernel_rfl
theorem Qw : XQ Tryz.prog 3 1 := fun w => by kernel_rfl
theorem Zhb : Zp Tryz.prog 51 := Zu Tryz.func51 rfl rfl
theorem Zeo : Tryz.prog.underlying 176 = some (.array 2 34) := by kernel_rfl
theorem Zj6 : XQ Tryz.prog 34 1 := fun w => by kernel_rfl
theorem Zor : Zp Tryz.prog 108 := Zu Tryz.func108 rfl rfl
theorem Zdg : ZS Tryz.prog 77 2 11 := fun b off w => by kernel_rfl
theorem Zo5 : X8 Tryz.prog 74 := fun w => by kernel_rfl
theorem Zc6 : Zjq Tryz.prog 74 9 3 keyS.kind := ⟨by kernel_rfl, by kernel_rfl⟩
theorem Zgw : Zgp Tryz.prog 3 (.int default) := ⟨(.int .i64 0), fun w => by kernel_rfl, fun S w => (show Rel S w (.int 0) _ from Rel.of_lit _)⟩
theorem Zop : Zp Tryz.prog 110 := Zu Tryz.func110 rfl rfl
theorem Zoq : Zp Tryz.prog 109 := Zu Tryz.func109 rfl rfl
theorem Zoo : Zp Tryz.prog 111 := Zu Tryz.func111 rfl rfl
theorem Zgz : Zgq Tryz.prog 126 [.lit (.int .i64 0), .lit (.bool false)] := ⟨(.agg #[.int .i64 0, .bool false]), fun w => by kernel_rfl, fun S w => (show RdL S w [.lit (.int .i64 0), .lit (.bool false)] [.int .i64 0, .bool false] from ⟨.lit _ True.intro, .lit _ True.intro, trivial⟩)⟩
theorem ZiJ : XQ Tryz.prog 126 2 := fun w => by kernel_rfl
theorem Zg4 : ZS Tryz.prog 126 1 1 := fun b off w => by kernel_rfl
theorem Zgo : XC Tryz.prog 126 2 := ⟨fun w => by kernel_rfl, fun w => by kernel_rfl⟩
theorem Zrb : Zp Tryz.prog 77 := Zu Tryz.func77 rfl rfl
theorem Zrk : Zp Tryz.prog 46 := Zu Tryz.func46 rfl rfl
theorem Zrc : Zp Tryz.prog 76 := Zu Tryz.func76 rfl rfl
theorem Zre : Zp Tryz.prog 72 := Zu Tryz.func72 rfl rfl
theorem ZlR : Zp Tryz.prog 74 := Zu Tryz.func74 rfl rfl
theorem Q3 : ZdP Tryz.prog 89 := ⟨.agg #[.int .i64 0, .slice none 0 0, .int .i64 0, .bool false], fun w => by kernel_rfl⟩
theorem XN : Zgs Tryz.prog 75 89 4 48 := ZrD (.agg #[.int .i64 0, .slice none 0 0, .int .i64 0, .bool false]) (by kernel_rfl) (by kernel_rfl) rfl (by decide) (fun w => by kernel_rfl)
theorem Xi : XQ Tryz.prog 75 1 := fun w => by kernel_rfl
theorem Zrd : Zp Tryz.prog 75 := Zu Tryz.func75 rfl rfl
theorem ZjJ : Zgq Tryz.prog 22 [.sl []] := ⟨(.slice none 0 0), fun w => by kernel_rfl, fun S w => (show RdL S w [.sl []] [.slice none 0 0] from ⟨.nil _ _ (Nat.zero_le _), trivial⟩)⟩
theorem Zra : Zp Tryz.prog 78 := Zu Tryz.func78 rfl rfl
theorem Zhp : Zgq Tryz.prog 3 [.lit (.int .i64 0)] := ⟨(.int .i64 0), fun w => by kernel_rfl, fun S w => (show RdL S w [.lit (.int .i64 0)] [.int .i64 0] from ⟨.lit _ True.intro, trivial⟩)⟩
theorem Zq9 : Zp Tryz.prog 79 := Zu Tryz.func79 rfl rfl
theorem ZjG : ZoH Tryz.prog 126 2 := ⟨(#[.int .i64 0, .bool false]), rfl, by kernel_rfl⟩
theorem Zon : Zp Tryz.prog 112 := Zu Tryz.func112 rfl rfl
theorem Zrj : Zp Tryz.prog 49 := Zu Tryz.func49 rfl rfl
theorem ZjH : Zgq Tryz.prog 47 [.lit (.pointer none)] := ⟨(.pointer none), fun w => by kernel_rfl, fun S w => (show RdL S w [.lit (.pointer none)] [.pointer none] from ⟨.lit _ True.intro, trivial⟩)⟩
theorem Zj4 : XQ Tryz.prog 47 1 := fun w => by kernel_rfl
theorem ZbN : Zgq Tryz.prog 30 [.lit (.int .i64 0), .lit (.int .i64 0)] := ⟨(.agg #[.int .i64 0, .int .i64 0]), fun w => by kernel_rfl, fun S w => (show RdL S w [.lit (.int .i64 0), .lit (.int .i64 0)] [.int .i64 0, .int .i64 0] from ⟨.lit _ True.intro, .lit _ True.intro, trivial⟩)⟩
theorem Zrn : Zp Tryz.prog 38 := Zu Tryz.func38 rfl rfl
theorem Zrm : Zp Tryz.prog 40 := Zu Tryz.func40 rfl rfl
theorem ZaW : XC Tryz.prog 30 2 := ⟨fun w => by kernel_rfl, fun w => by kernel_rfl⟩
theorem Zro : Zp Tryz.prog 37 := Zu Tryz.func37 rfl rfl
theorem Zrr : Zp Tryz.prog 34 := Zu Tryz.func34 rfl rfl
theorem Zrq : Zp Tryz.prog 35 := Zu Tryz.func35 rfl rfl
theorem Zl4 : Zgs Tryz.prog 23 37 8 168 := ZrD (.agg #[.string ⟨#[]⟩, .bool false, .slice none 0 0, .slice none 0 0, .slice none 0 0, .slice none 0 0, .slice none 0 0, .slice none 0 0]) (by kernel_rfl) (by kernel_rfl) rfl (by decide) (fun w => by kernel_rfl)
theorem ZlV : Zp Tryz.prog 31 := Zu Tryz.func31 rfl rfl
theorem Zrt : Zp Tryz.prog 32 := Zu Tryz.func32 rfl rfl
theorem Zru : Zp Tryz.prog 30 := Zu Tryz.func30 rfl rfl
theorem Zrv : Zp Tryz.prog 29 := Zu Tryz.func29 rfl rfl
theorem ZcJ : Zgq Tryz.prog 25 [.sl [], .sl [], .sl []] := ⟨(.agg #[.slice none 0 0, .slice none 0 0, .slice none 0 0]), fun w => by kernel_rfl, fun S w => (show RdL S w [.sl [], .sl [], .sl []] [.slice none 0 0, .slice none 0 0, .slice none 0 0] from ⟨.nil _ _ (Nat.zero_le _), .nil _ _ (Nat.zero_le _), .nil _ _ (Nat.zero_le _), trivial⟩)⟩
theorem Xg : ZdQ Tryz.prog 9 1 := ⟨(.string ⟨#[]⟩), fun w => by kernel_rfl, rfl, by simp [Value.cells, Value.oneCell']⟩
theorem Zei : Za6 Tryz.prog 45 3 := ⟨#[.string ⟨#[]⟩, .bool false, .slice none 0 0], rfl, fun i => (#[(0, 1), (1, 1), (2, 1)] : Array (Nat × Nat))[i]?, fun j hj => by rcases j with _ | _ | _ | j <;> first | rfl | omega, fun parts => by kernel_rfl⟩
theorem Zjp : Za6 Tryz.prog 25 3 := ⟨#[.slice none 0 0, .slice none 0 0, .slice none 0 0], rfl, fun i => (#[(0, 1), (1, 1), (2, 1)] : Array (Nat × Nat))[i]?, fun j hj => by rcases j with _ | _ | _ | j <;> first | rfl | omega, fun parts => by kernel_rfl⟩
theorem Zfi : XQ Tryz.prog 25 3 := fun w => by kernel_rfl
theorem Zcc : Yc Tryz.prog 66 65 3 := ⟨by kernel_rfl, fun w => by kernel_rfl⟩
theorem Ziw : Tryz.prog.underlying 66 = some (.slice 65) := by kernel_rfl
theorem ZoG : XC Tryz.prog 65 3 := ⟨fun w => by kernel_rfl, fun w => by kernel_rfl⟩
theorem Zmm : ZoH Tryz.prog 65 3 := ⟨(#[.slice none 0 0, .int .i64 0, .int .i64 0]), rfl, by kernel_rfl⟩
theorem Zjd : ZS Tryz.prog 65 0 0 := fun b off w => by kernel_rfl
theorem Zrs : Zp Tryz.prog 33 := Zu Tryz.func33 rfl rfl
theorem ZlO : Zp Tryz.prog 9 := Zu Tryz.func9 rfl rfl
theorem Zen : ZoH Tryz.prog 30 2 := ⟨(#[.int .i64 0, .int .i64 0]), rfl, by kernel_rfl⟩
theorem Zjc : ZS Tryz.prog 65 1 1 := fun b off w => by kernel_rfl
theorem call_7 : Zp Tryz.prog 7 := Zu Tryz.func7 rfl rfl
theorem ZlQ : Zp Tryz.prog 8 := Zu Tryz.func8 rfl rfl
theorem Zrx : Zp Tryz.prog 10 := Zu Tryz.func10 rfl rfl
theorem Zj7 : XQ Tryz.prog 23 1 := fun w => by kernel_rfl
set_option maxRecDepth 100000 in
theorem tb_one : ∀ t ∈ [3, 4, 5, 9, 22, 23, 28, 34, 35, 41, 47, 52, 74, 75, 106, 108, 109, 110, 150, 151, 181, 188, 222], X8 Tryz.prog t := by
  intro t h
  simp only [List.mem_cons, List.not_mem_nil, or_false] at h
  rcases h with rfl | rfl | rfl | rfl | rfl | rfl | rfl | rfl | rfl | rfl | rfl | rfl | rfl | rfl | rfl | rfl | rfl | rfl | rfl | rfl | rfl | rfl | rfl <;> exact fun w => by kernel_rfl
set_option maxRecDepth 100000 in
theorem tb_agg : ∀ q ∈ [(25, 3), (30, 2), (37, 8), (45, 3), (62, 2), (89, 4), (126, 2), (137, 2), (153, 2), (174, 4), (215, 4)], XC Tryz.prog q.1 q.2 := by
  intro q h
  simp only [List.mem_cons, List.not_mem_nil, or_false] at h
  rcases h with rfl | rfl | rfl | rfl | rfl | rfl | rfl | rfl | rfl | rfl | rfl <;> exact ⟨fun w => by kernel_rfl, fun w => by kernel_rfl⟩
set_option maxRecDepth 100000 in
theorem tb_fld : ∀ q ∈ [(25, 0, 0), (25, 1, 1), (25, 2, 2), (30, 0, 0), (30, 1, 1), (37, 0, 0), (37, 1, 1), (37, 2, 2), (37, 3, 3), (37, 4, 4), (37, 5, 5), (37, 6, 6), (37, 7, 7), (45, 0, 0), (45, 1, 1), (45, 2, 2), (62, 0, 0), (62, 1, 1), (77, 0, 0), (77, 1, 3), (77, 2, 11), (77, 3, 12), (77, 4, 13), (77, 5, 14), (77, 6, 15), (77, 7, 16), (77, 8, 17), (89, 0, 0), (89, 1, 1), (89, 2, 2), (89, 3, 3), (112, 0, 0), (112, 1, 1), (112, 2, 2), (112, 3, 3), (112, 4, 4), (126, 0, 0), (126, 1, 1), (137, 0, 0), (137, 1, 1), (153, 0, 0), (153, 1, 1), (174, 0, 0), (174, 1, 1), (174, 2, 2), (174, 3, 3), (215, 0, 0), (215, 1, 1), (215, 2, 2), (215, 3, 3)], ZS Tryz.prog q.1 q.2.1 q.2.2 := by
  intro q h
  simp only [List.mem_cons, List.not_mem_nil, or_false] at h
  rcases h with rfl | rfl | rfl | rfl | rfl | rfl | rfl | rfl | rfl | rfl | rfl | rfl | rfl | rfl | rfl | rfl | rfl | rfl | rfl | rfl | rfl | rfl | rfl | rfl | rfl | rfl | rfl | rfl | rfl | rfl | rfl | rfl | rfl | rfl | rfl | rfl | rfl | rfl | rfl | rfl | rfl | rfl | rfl | rfl | rfl | rfl | rfl | rfl | rfl | rfl <;> exact fun b off w => by kernel_rfl
def tb : Tbl Tryz.prog where
  one := ZqI [3, 4, 5, 9, 22, 23, 28, 34, 35, 41, 47, 52, 74, 75, 106, 108, 109, 110, 150, 151, 181, 188, 222]
  agg := lk1 [(25, 3), (30, 2), (37, 8), (45, 3), (62, 2), (89, 4), (126, 2), (137, 2), (153, 2), (174, 4), (215, 4)]
  fld := lk2 [(25, 0, 0), (25, 1, 1), (25, 2, 2), (30, 0, 0), (30, 1, 1), (37, 0, 0), (37, 1, 1), (37, 2, 2), (37, 3, 3), (37, 4, 4), (37, 5, 5), (37, 6, 6), (37, 7, 7), (45, 0, 0), (45, 1, 1), (45, 2, 2), (62, 0, 0), (62, 1, 1), (77, 0, 0), (77, 1, 3), (77, 2, 11), (77, 3, 12), (77, 4, 13), (77, 5, 14), (77, 6, 15), (77, 7, 16), (77, 8, 17), (89, 0, 0), (89, 1, 1), (89, 2, 2), (89, 3, 3), (112, 0, 0), (112, 1, 1), (112, 2, 2), (112, 3, 3), (112, 4, 4), (126, 0, 0), (126, 1, 1), (137, 0, 0), (137, 1, 1), (153, 0, 0), (153, 1, 1), (174, 0, 0), (174, 1, 1), (174, 2, 2), (174, 3, 3), (215, 0, 0), (215, 1, 1), (215, 2, 2), (215, 3, 3)]
  h1 := fun t h => tb_one t (Zh2 h)
  h2 := fun t k h => tb_agg (t, k + 1) (ZkZ h)
  h3 := fun s f d h => tb_fld (s, f, d) (ZkY h)
  mix := Yg

end Go.Proofs.YtgifeodnngodiaaGreatDoor
set_option maxHeartbeats 8000000
set_option maxRecDepth 100000
namespace Go.Proofs.YtgifeodnngodiaaGreatDoor
open Go.RowKit

theorem ZaQ {J : World → Prop} (hJ : Stab J) (M1 : Nat) (M2 : Nat) (M3 : Nat) (M4 : Nat) (M5 : Nat) (cs : List ByteArray) (vs : List ByteArray) (s : ByteArray)  : FnR Tryz.prog J 94 [OB.set keyS M1 cs, OB.set keyS M2 vs] [.ptr (mpC [M1, M2, M3, M4, M5]), .str s] (.bool (decide (s ∈ cs) || decide (s ∈ vs))) := by
 refine Z2 (N := 19) Tryz.func94 rfl rfl (lb rfl) fun S w0 hS hJ0 hH => ?_
 clear hJ0
 refine qs tb hJ [0,1] [_] [_,_] ?_
 refine hqs tb hJ [1014] [_,_,_,_,_,.bool (decide (s ∈ cs)),_,_,_,_,_,_,.bool (decide (s ∈ vs)),_,_] [5,12] [_] rfl ⟨fun _ _ hk hx hl _ => Ye (Kd := keyS) (xs := cs) ZH ZV s rfl (YL hH hk (mo 0 rfl)) (hl.dep 3 8 _ rfl rfl rfl rfl) (hl.dep 4 9 _ rfl rfl rfl rfl) hx, fun _ _ hk hx hl hc => Ye (Kd := keyS) (xs := vs) ZH ZV s rfl (YL hH hk (mo 1 rfl)) (hl.dep 10 15 _ rfl rfl rfl hc) (hl.dep 11 16 _ rfl rfl rfl hc) hx, trivial⟩ ?_
 exact Zi (rtn (m := 0) rfl rfl (eB (by first | rfl | grind [Zc])))
theorem Zp3 {J : World → Prop} (hJ : Stab J) (M1 : Nat) (M2 : Nat) (M3 : Nat) (M4 : Nat) (M5 : Nat) (cs : List ByteArray) (vs : List ByteArray) (s : ByteArray)  : FnR Tryz.prog J 121 [OB.set keyS M1 cs, OB.set keyS M2 vs] [.str s, .ptr [.ptr (mpC [M1, M2, M3, M4, M5])]] (.bool (!(decide (s ∈ cs) || decide (s ∈ vs)))) := by
 refine Z2 (N := 8) Tryz.func121 rfl rfl (lb rfl) fun S w0 hS hJ0 hH => ?_
 clear hJ0
 refine qs tb hJ [0,1] [_] [_,_] ?_
 refine hqs tb hJ [1004] [_,_,.bool (decide (s ∈ cs) || decide (s ∈ vs)),_,_] [2] [_] rfl ⟨fun _ _ hk hx hl _ => YQ (ZaQ hJ (M1 := M1) (M2 := M2) (M3 := M3) (M4 := M4) (M5 := M5) (cs := cs) (vs := vs) (s := s) ) ZeS rfl (nm hS hk) (hx) (ZF (YL hH hk (mo 0 rfl)) (ZF (YL hH hk (mo 1 rfl)) Zt)) (Za (hl.dep 0 4 _ rfl rfl rfl rfl) (Za (hl.dep 1 5 _ rfl rfl rfl rfl) Ze)) (js hJ hx), trivial⟩ ?_
 exact Zi (rtn (m := 0) rfl rfl rfl)
theorem ZfD {J : World → Prop} (hJ : Stab J) (xs : List ByteArray) (f : FuncId) (caps : List AV) (Os : List OB) (p : ByteArray → Bool) (hf : ∀ q', FnR Tryz.prog J f Os ([.str (q')] ++ caps) (.bool (p q'))) (hk0 : Zp Tryz.prog f) : FnR Tryz.prog J 36 Os [.rd (Zb xs), .fn f caps] (.int (YK p xs)) := by
 refine Z2 (N := 19) Tryz.func36 rfl rfl (lb rfl) fun S w0 hS hJ0 hH => ?_
 clear hJ0
 refine ln 0 fun hl1 => ?_
 refine qs tb hJ [0,1] [_] [_,_] ?_
 refine Zo (hqs tb hJ [0,1,1001,1002] [_,.int (xs.length : Nat),_] [1] [_,_,_,_] rfl ⟨Yz Zw, trivial⟩ ?_)
 refine Zh (lp (ι := Nat) (fun k => (k ≤ xs.length) ∧ (∀ j, j < k → p (ge xs j) = false)) (fun k => [(8, .int (k : Nat))]) (fun k => xs.length - k) [0,1,2,3] [_,_,_] 0 ⟨Nat.zero_le _, fun j hj => by omega⟩ ?_)
 rintro k ⟨f1_1, f1_2⟩
 refine qs tb hJ [0,1,2,3,1000] [_] [_,_,_,_,_] ?_
 refine cjS 4 (fun hb1 => ?_) fun hb1 => ?_
 try simp at hb1
 refine Zf (nx (Zo (Zh (qs tb hJ [0,1,2,3,1001] [_,_] [_,_,_,_,_] ?_))))
 refine hqs tb hJ [0,1,2,3,4,1005] [_,_,_,.ptr [.lit (.string (ge xs k))],_,.bool (p (ge xs k))] [3,5] [_,_,_,_,_,_] rfl ⟨iIx Zm, fun _ _ hk hx hl _ => Zcj (hf (ge xs k)) hk0 rfl (hl.dep 0 11 _ rfl rfl rfl rfl) (nm hS hk) (hx) (fun _ ho => YL hH hk ho) (Za (hl.dep 4 15 _ rfl rfl rfl rfl) Ze) (js hJ hx), trivial⟩ ?_
 refine cj 5 (fun hb2 => ?_) fun hb2 => ?_
 try simp at hb2
 refine qs tb hJ [1001] [_,_] [_] ?_
 exact Zi (rtn (m := 0) rfl rfl (eI (by first | exact (Y1 hb1 hb2 f1_2).symm | exact (YC fun j hj => f1_2 j (by omega)).symm)))
 try simp at hb2
 refine Zf (nx (hqp tb hJ [0,1,2,1001] [.int (k + 1 : Nat),_] [0] [_,_,_,_] rfl ⟨YE, trivial⟩ ?_))
 exact lpE (k + 1) [0,1,2,3] ⟨by omega, Z4 f1_2 hb2⟩
 try simp at hb1
 refine ZC (nx (qs tb hJ [1000] [_] [_] ?_))
 exact Zi (rtn (m := 0) rfl rfl (eI (by first | exact (Y1 hb1 hb2 f1_2).symm | exact (YC fun j hj => f1_2 j (by omega)).symm)))
end Go.Proofs.YtgifeodnngodiaaGreatDoor
set_option maxHeartbeats 8000000
set_option maxRecDepth 100000
namespace Go.Proofs.YtgifeodnngodiaaGreatDoor
open Go.RowKit

theorem Yw {J : World → Prop} (hJ : Stab J) (xs : List ByteArray) (f : FuncId) (caps : List AV) (Os : List OB) (p : ByteArray → Bool) (hf : ∀ q', FnR Tryz.prog J f Os ([.str (q')] ++ caps) (.bool (p q'))) (hk0 : Zp Tryz.prog f) : FnR Tryz.prog J 11 Os [.rd (Zb xs), .fn f caps] (.bool (xs.any p)) := by
 refine Z2 (N := 9) Tryz.func11 rfl rfl (lb rfl) fun S w0 hS hJ0 hH => ?_
 clear hJ0
 refine ln 0 fun hl1 => ?_
 refine qs tb hJ [0,1] [_] [_,_] ?_
 refine hqs tb hJ [1004] [_,_,.int (YK p xs),_,_] [2] [_] rfl ⟨fun _ _ hk hx hl _ => YQ (ZfD hJ (xs := xs) (f := f) (caps := caps) (Os := Os) (p := p) (hf) (hk0)) Zrp rfl (nm hS hk) (hx) (fun _ ho => YL hH hk ho) (Za (hl.dep 0 5 _ rfl rfl rfl rfl) (Za (hl.dep 1 6 _ rfl rfl rfl rfl) Ze)) (js hJ hx), trivial⟩ ?_
 exact Zi (rtn (m := 0) rfl rfl (eB (by rw [← Zby])))
theorem Zb7 {J : World → Prop} (hJ : Stab J) (xs : List Hy) (f : FuncId) (caps : List AV) (Os : List OB) (p : Hy → Bool) (hf : ∀ q', FnR Tryz.prog J f Os ([.agg (hyC (q'))] ++ caps) (.bool (p q'))) (hk0 : Zp Tryz.prog f) : FnR Tryz.prog J 44 Os [.rd (Xp xs), .fn f caps] (.int (YK p xs)) := by
 refine Z2 (N := 19) Tryz.func44 rfl rfl (lb rfl) fun S w0 hS hJ0 hH => ?_
 clear hJ0
 refine ln 0 fun hl1 => ?_
 refine qs tb hJ [0,1] [_] [_,_] ?_
 refine Zo (hqs tb hJ [0,1,1001,1002] [_,.int (xs.length : Nat),_] [1] [_,_,_,_] rfl ⟨Yz ZG, trivial⟩ ?_)
 refine Zh (lp (ι := Nat) (fun k => (k ≤ xs.length) ∧ (∀ j, j < k → p (ge xs j) = false)) (fun k => [(8, .int (k : Nat))]) (fun k => xs.length - k) [0,1,2,3] [_,_,_] 0 ⟨Nat.zero_le _, fun j hj => by omega⟩ ?_)
 rintro k ⟨f1_1, f1_2⟩
 refine qs tb hJ [0,1,2,3,1000] [_] [_,_,_,_,_] ?_
 refine cjS 4 (fun hb1 => ?_) fun hb1 => ?_
 try simp at hb1
 refine Zf (nx (Zo (Zh (qs tb hJ [0,1,2,3,1001] [_,_] [_,_,_,_,_] ?_))))
 refine hqs tb hJ [0,1,2,3,4,1005] [_,_,_,.ptr (hyC (ge xs k)),_,.bool (p (ge xs k))] [3,5] [_,_,_,_,_,_] rfl ⟨iIx ZI, fun _ _ hk hx hl _ => Zcj (hf (ge xs k)) hk0 rfl (hl.dep 0 11 _ rfl rfl rfl rfl) (nm hS hk) (hx) (fun _ ho => YL hH hk ho) (Za (hl.dep 4 15 _ rfl rfl rfl rfl) Ze) (js hJ hx), trivial⟩ ?_
 refine cj 5 (fun hb2 => ?_) fun hb2 => ?_
 try simp at hb2
 refine qs tb hJ [1001] [_,_] [_] ?_
 exact Zi (rtn (m := 0) rfl rfl (eI (by first | exact (Y1 hb1 hb2 f1_2).symm | exact (YC fun j hj => f1_2 j (by omega)).symm)))
 try simp at hb2
 refine Zf (nx (hqp tb hJ [0,1,2,1001] [.int (k + 1 : Nat),_] [0] [_,_,_,_] rfl ⟨YE, trivial⟩ ?_))
 exact lpE (k + 1) [0,1,2,3] ⟨by omega, Z4 f1_2 hb2⟩
 try simp at hb1
 refine ZC (nx (qs tb hJ [1000] [_] [_] ?_))
 exact Zi (rtn (m := 0) rfl rfl (eI (by first | exact (Y1 hb1 hb2 f1_2).symm | exact (YC fun j hj => f1_2 j (by omega)).symm)))
theorem XJ {J : World → Prop} (hJ : Stab J) (xs : List Hy) (f : FuncId) (caps : List AV) (Os : List OB) (p : Hy → Bool) (hf : ∀ q', FnR Tryz.prog J f Os ([.agg (hyC (q'))] ++ caps) (.bool (p q'))) (hk0 : Zp Tryz.prog f) : FnR Tryz.prog J 27 Os [.rd (Xp xs), .fn f caps] (.bool (xs.any p)) := by
 refine Z2 (N := 9) Tryz.func27 rfl rfl (lb rfl) fun S w0 hS hJ0 hH => ?_
 clear hJ0
 refine ln 0 fun hl1 => ?_
 refine qs tb hJ [0,1] [_] [_,_] ?_
 refine hqs tb hJ [1004] [_,_,.int (YK p xs),_,_] [2] [_] rfl ⟨fun _ _ hk hx hl _ => YQ (Zb7 hJ (xs := xs) (f := f) (caps := caps) (Os := Os) (p := p) (hf) (hk0)) ZlU rfl (nm hS hk) (hx) (fun _ ho => YL hH hk ho) (Za (hl.dep 0 5 _ rfl rfl rfl rfl) (Za (hl.dep 1 6 _ rfl rfl rfl rfl) Ze)) (js hJ hx), trivial⟩ ?_
 exact Zi (rtn (m := 0) rfl rfl (eB (by rw [← Zby])))
theorem ZfE {J : World → Prop} (hJ : Stab J) (xs : List Pr) (f : FuncId) (caps : List AV) (Os : List OB) (p : Pr → Bool) (hf : ∀ q', FnR Tryz.prog J f Os ([.agg (prC (q'))] ++ caps) (.bool (p q'))) (hk0 : Zp Tryz.prog f) : FnR Tryz.prog J 159 Os [.rd (Qs xs), .fn f caps] (.int (YK p xs)) := by
 refine Z2 (N := 19) Tryz.func159 rfl rfl (lb rfl) fun S w0 hS hJ0 hH => ?_
 clear hJ0
 refine ln 0 fun hl1 => ?_
 refine qs tb hJ [0,1] [_] [_,_] ?_
 refine Zo (hqs tb hJ [0,1,1001,1002] [_,.int (xs.length : Nat),_] [1] [_,_,_,_] rfl ⟨Yz Z6, trivial⟩ ?_)
 refine Zh (lp (ι := Nat) (fun k => (k ≤ xs.length) ∧ (∀ j, j < k → p (ge xs j) = false)) (fun k => [(8, .int (k : Nat))]) (fun k => xs.length - k) [0,1,2,3] [_,_,_] 0 ⟨Nat.zero_le _, fun j hj => by omega⟩ ?_)
 rintro k ⟨f1_1, f1_2⟩
 refine qs tb hJ [0,1,2,3,1000] [_] [_,_,_,_,_] ?_
 refine cjS 4 (fun hb1 => ?_) fun hb1 => ?_
 try simp at hb1
 refine Zf (nx (Zo (Zh (qs tb hJ [0,1,2,3,1001] [_,_] [_,_,_,_,_] ?_))))
 refine hqs tb hJ [0,1,2,3,4,1005] [_,_,_,.ptr (prC (ge xs k)),_,.bool (p (ge xs k))] [3,5] [_,_,_,_,_,_] rfl ⟨iIx ZD, fun _ _ hk hx hl _ => Zcj (hf (ge xs k)) hk0 rfl (hl.dep 0 11 _ rfl rfl rfl rfl) (nm hS hk) (hx) (fun _ ho => YL hH hk ho) (Za (hl.dep 4 15 _ rfl rfl rfl rfl) Ze) (js hJ hx), trivial⟩ ?_
 refine cj 5 (fun hb2 => ?_) fun hb2 => ?_
 try simp at hb2
 refine qs tb hJ [1001] [_,_] [_] ?_
 exact Zi (rtn (m := 0) rfl rfl (eI (by first | exact (Y1 hb1 hb2 f1_2).symm | exact (YC fun j hj => f1_2 j (by omega)).symm)))
 try simp at hb2
 refine Zf (nx (hqp tb hJ [0,1,2,1001] [.int (k + 1 : Nat),_] [0] [_,_,_,_] rfl ⟨YE, trivial⟩ ?_))
 exact lpE (k + 1) [0,1,2,3] ⟨by omega, Z4 f1_2 hb2⟩
 try simp at hb1
 refine ZC (nx (qs tb hJ [1000] [_] [_] ?_))
 exact Zi (rtn (m := 0) rfl rfl (eI (by first | exact (Y1 hb1 hb2 f1_2).symm | exact (YC fun j hj => f1_2 j (by omega)).symm)))
theorem ZfF {J : World → Prop} (hJ : Stab J) (xs : List Fr) (f : FuncId) (caps : List AV) (Os : List OB) (p : Fr → Bool) (hf : ∀ q', FnR Tryz.prog J f Os ([.agg (frC (q'))] ++ caps) (.bool (p q'))) (hk0 : Zp Tryz.prog f) : FnR Tryz.prog J 45 Os [.rd (Zbc xs), .fn f caps] (.int (YK p xs)) := by
 refine Z2 (N := 19) Tryz.func45 rfl rfl (lb rfl) fun S w0 hS hJ0 hH => ?_
 clear hJ0
 refine ln 0 fun hl1 => ?_
 refine qs tb hJ [0,1] [_] [_,_] ?_
 refine Zo (hqs tb hJ [0,1,1001,1002] [_,.int (xs.length : Nat),_] [1] [_,_,_,_] rfl ⟨Yz Xw, trivial⟩ ?_)
 refine Zh (lp (ι := Nat) (fun k => (k ≤ xs.length) ∧ (∀ j, j < k → p (ge xs j) = false)) (fun k => [(8, .int (k : Nat))]) (fun k => xs.length - k) [0,1,2,3] [_,_,_] 0 ⟨Nat.zero_le _, fun j hj => by omega⟩ ?_)
 rintro k ⟨f1_1, f1_2⟩
 refine qs tb hJ [0,1,2,3,1000] [_] [_,_,_,_,_] ?_
 refine cjS 4 (fun hb1 => ?_) fun hb1 => ?_
 try simp at hb1
 refine Zf (nx (Zo (Zh (qs tb hJ [0,1,2,3,1001] [_,_] [_,_,_,_,_] ?_))))
 refine hqs tb hJ [0,1,2,3,4,1005] [_,_,_,.ptr (frC (ge xs k)),_,.bool (p (ge xs k))] [3,5] [_,_,_,_,_,_] rfl ⟨iIx YD, fun _ _ hk hx hl _ => Zcj (hf (ge xs k)) hk0 rfl (hl.dep 0 11 _ rfl rfl rfl rfl) (nm hS hk) (hx) (fun _ ho => YL hH hk ho) (Za (hl.dep 4 15 _ rfl rfl rfl rfl) Ze) (js hJ hx), trivial⟩ ?_
 refine cj 5 (fun hb2 => ?_) fun hb2 => ?_
 try simp at hb2
 refine qs tb hJ [1001] [_,_] [_] ?_
 exact Zi (rtn (m := 0) rfl rfl (eI (by first | exact (Y1 hb1 hb2 f1_2).symm | exact (YC fun j hj => f1_2 j (by omega)).symm)))
 try simp at hb2
 refine Zf (nx (hqp tb hJ [0,1,2,1001] [.int (k + 1 : Nat),_] [0] [_,_,_,_] rfl ⟨YE, trivial⟩ ?_))
 exact lpE (k + 1) [0,1,2,3] ⟨by omega, Z4 f1_2 hb2⟩
 try simp at hb1
 refine ZC (nx (qs tb hJ [1000] [_] [_] ?_))
 exact Zi (rtn (m := 0) rfl rfl (eI (by first | exact (Y1 hb1 hb2 f1_2).symm | exact (YC fun j hj => f1_2 j (by omega)).symm)))
theorem ZcZ {J : World → Prop} (hJ : Stab J) (xs : List Fr) (f : FuncId) (caps : List AV) (Os : List OB) (p : Fr → Bool) (hf : ∀ q', FnR Tryz.prog J f Os ([.agg (frC (q'))] ++ caps) (.bool (p q'))) (hk0 : Zp Tryz.prog f) : FnR Tryz.prog J 29 Os [.rd (Zbc xs), .fn f caps] (.bool (xs.any p)) := by
 refine Z2 (N := 9) Tryz.func29 rfl rfl (lb rfl) fun S w0 hS hJ0 hH => ?_
 clear hJ0
 refine ln 0 fun hl1 => ?_
 refine qs tb hJ [0,1] [_] [_,_] ?_
 refine hqs tb hJ [1004] [_,_,.int (YK p xs),_,_] [2] [_] rfl ⟨fun _ _ hk hx hl _ => YQ (ZfF hJ (xs := xs) (f := f) (caps := caps) (Os := Os) (p := p) (hf) (hk0)) Zrl rfl (nm hS hk) (hx) (fun _ ho => YL hH hk ho) (Za (hl.dep 0 5 _ rfl rfl rfl rfl) (Za (hl.dep 1 6 _ rfl rfl rfl rfl) Ze)) (js hJ hx), trivial⟩ ?_
 exact Zi (rtn (m := 0) rfl rfl (eB (by rw [← Zby])))
theorem ZhN {J : World → Prop} (hJ : Stab J) (xs : List ByteArray) (ys : List ByteArray)  : Fn Tryz.prog J 80 [.rd (Zb xs), .rd (Zb ys)] (.bool (decide (xs = ys))) := by
 refine Zx (N := 26) Tryz.func80 rfl rfl (lb rfl) fun S w0 hS hJ0 => ?_
 clear hJ0
 refine ln 0 fun hl1 => ?_
 refine ln 1 fun hl2 => ?_
 refine qs tb hJ [0,1] [_] [_,_] ?_
 refine Zo (hqs tb hJ [0,1,1004] [_,.int (xs.length : Nat),_,.int (ys.length : Nat),_] [1,3] [_,_,_] rfl ⟨Yz Zw, Yz Zw, trivial⟩ ?_)
 refine cj 2 (fun hb1 => ?_) fun hb1 => ?_
 try simp at hb1
 refine qs tb hJ [1000] [_] [_] ?_
 exact Zi (rtn (m := 0) rfl rfl (eB (by first | (have := Zdl (xs := xs) (ys := ys) (by omega) (fun j hj => f1_2 j (by omega)); simp [this]; done) | (symm; rw [decide_eq_false_iff_not]; intro e; subst e; simp_all; done))))
 try simp at hb1
 refine Zf (nx (Zo (hqs tb hJ [0,1,1001,1002] [_,.int (xs.length : Nat),_] [1] [_,_,_,_] rfl ⟨Yz Zw, trivial⟩ ?_)))
 refine Zh (lp (ι := Nat) (fun k => (k ≤ xs.length) ∧ (∀ j, j < k → ge xs j = ge ys j)) (fun k => [(13, .int (k : Nat))]) (fun k => xs.length - k) [0,1,2,3] [_,_,_] 0 ⟨Nat.zero_le _, fun j hj => by omega⟩ ?_)
 rintro k ⟨f1_1, f1_2⟩
 refine qs tb hJ [0,1,2,3,1000] [_] [_,_,_,_,_] ?_
 refine cjS 4 (fun hb2 => ?_) fun hb2 => ?_
 try simp at hb2
 refine Zf (nx (Zo (Zh (qs tb hJ [0,1,2,3,1001] [_,_] [_,_,_,_,_] ?_))))
 refine hqs tb hJ [0,1,2,3,1008] [_,_,.ptr [.lit (.string (ge xs k))],_,_,_,.ptr [.lit (.string (ge ys k))],_,_] [2,6] [_,_,_,_,_] rfl ⟨iIx Zm, iIx Zm, trivial⟩ ?_
 refine cj 4 (fun hb3 => ?_) fun hb3 => ?_
 try simp at hb3
 refine qs tb hJ [1000] [_] [_] ?_
 exact Zi (rtn (m := 0) rfl rfl (eB (by first | (have := Zdl (xs := xs) (ys := ys) (by omega) (fun j hj => f1_2 j (by omega)); simp [this]; done) | (symm; rw [decide_eq_false_iff_not]; intro e; subst e; simp_all; done))))
 try simp at hb3
 refine Zf (nx (hqp tb hJ [0,1,2,1001] [.int (k + 1 : Nat),_] [0] [_,_,_,_] rfl ⟨YE, trivial⟩ ?_))
 exact lpE (k + 1) [0,1,2,3] ⟨by omega, Z4 f1_2 hb3⟩
 try simp at hb2
 refine ZC (nx (qs tb hJ [1000] [_] [_] ?_))
 exact Zi (rtn (m := 0) rfl rfl (eB (by first | (have := Zdl (xs := xs) (ys := ys) (by omega) (fun j hj => f1_2 j (by omega)); simp [this]; done) | (symm; rw [decide_eq_false_iff_not]; intro e; subst e; simp_all; done))))
theorem ZhO {J : World → Prop} (hJ : Stab J) (xs : List ByteArray) (b : xs.length * 16 ≤ 140737488351232) : FnM (ι := Value) Tryz.prog J 14 [] [.rd (Zb xs)] [] (fun i' => .lit (i')) (fun i' => [OB.row i' 9 1 (xs.map Q2)]) := by
 refine Z7 (N := 8) Tryz.func14 rfl rfl (lb rfl) fun S w0 R hS hJ0 hH => ?_
 refine Ya (B := St All (SO S (R)) w0 8 [(0, .rd (Zb xs))] (XO J S w0.heap.size (R))) ?_ fun a w h => h
 refine ln 0 fun hl1 => ?_
 refine qso tb hJ [0] [_] [_] ?_
 refine Zo (tsq ?_)
 refine snK 1 tb rfl ?_
 refine Zcp (f := Q2) (xs := xs) Zw rfl rfl rfl (lb rfl) (fun a w h => (h.get 0 rfl)) fun g1 hg1 => ?_
 refine seK [0,2] [_,_] rfl ?_
 refine nx (cj 0 (fun hb1 => ?_) fun hb1 => ?_)
 try simp at hb1
 refine qso tb hJ [1000] [_] [_] ?_
 refine tw (Yr 9 1 hJ) ?_
 refine tw (ob0 (congrArg (fun z' => OB.row (.slice none 0 0) 9 1 ((z').map Q2)) (show ([] : List ByteArray) = xs from by first | exact (hg1 (by assumption)).symm | simp))) ?_
 exact Zi (fun a w h => ZR  (m := 0) (.slice none 0 0) rfl h rfl rfl)
 try simp at hb1
 refine Zf (nx (Zo (fun a w h => Zcr (id := 3) (t := 22) (e := 9) (size := 1) (bytes := 16) (i0 := 0) (fol := 3) (d := 2) (ch := [(2, (xs.map Q2))]) (fun ix' => ([.any, .rd (Zb xs), .any, .any] : List AV).getD ix' .any) (fun ix' => ([true, true, true, true] : List Bool).getD ix' true) [] (xs.map Q2) (by simp) ?r3_1 hJ hJ0 h Yg rfl rfl rfl rfl ⟨?o3_1_0, ⟨?o3_1_1, ⟨?o3_1_2, ⟨?o3_1_3, trivial⟩⟩⟩⟩ trivial (fun v2 => ?n3_1))))
 case r3_1 =>
  refine Row.mk' XY ⟨_, rfl, rfl, rfl, rfl, rfl⟩ ⟨?x3_1_0, trivial⟩ ⟨_, _, _, _, rfl, rfl, rfl, rfl, rfl, rfl, rfl, rfl, rfl⟩ rfl rfl rfl
  case x3_1_0 => exact ⟨_, _, _, _, rfl, rfl, rfl, rfl, rfl, rfl, rfl, rfl, QH (f := Q2) (fun _ => rfl), (by have hm : maxLen = 9223372036854775807 := rfl; simp [upto]; first | omega | (simp; omega)), (by have hm : maxLen = 9223372036854775807 := rfl; simp [upto]; first | omega | (simp; omega)), fun _ _ _ _ _ hl => (hl.dep 1 6 _ rfl rfl rfl rfl)⟩
 case o3_1_0 => exact fun h => Zl rfl h
 case o3_1_1 => exact fun _ _ => ⟨rfl, fun _ _ _ hx hl _ => Yo rfl (hl.env 1 0 _ rfl rfl) hx⟩
 case o3_1_2 => exact fun h => Zl rfl h
 case o3_1_3 => exact fun h => Zl rfl h
 clear a w h
 exact nx (Zi (fun a w h => ZR  (m := 0) v2 rfl h rfl rfl))
theorem Znc {J : World → Prop} (hJ : Stab J) (xs : List Hy) (b : xs.length * 48 ≤ 140737488351232) : FnM (ι := Value) Tryz.prog J 23 [] [.rd (Xp xs)] [] (fun i' => .lit (i')) (fun i' => [OB.row i' 45 3 (xs.map hyC)]) := by
 refine Z7 (N := 8) Tryz.func23 rfl rfl (lb rfl) fun S w0 R hS hJ0 hH => ?_
 refine Ya (B := St All (SO S (R)) w0 8 [(0, .rd (Xp xs))] (XO J S w0.heap.size (R))) ?_ fun a w h => h
 refine ln 0 fun hl1 => ?_
 refine qso tb hJ [0] [_] [_] ?_
 refine Zo (tsq ?_)
 refine snK 1 tb rfl ?_
 refine Zcp (f := hyC) (xs := xs) ZG rfl rfl rfl (lb rfl) (fun a w h => (h.get 0 rfl)) fun g1 hg1 => ?_
 refine seK [0,2] [_,_] rfl ?_
 refine nx (cj 0 (fun hb1 => ?_) fun hb1 => ?_)
 try simp at hb1
 refine qso tb hJ [1000] [_] [_] ?_
 refine tw (Yr 45 3 hJ) ?_
 refine tw (ob0 (congrArg (fun z' => OB.row (.slice none 0 0) 45 3 ((z').map hyC)) (show ([] : List Hy) = xs from by first | exact (hg1 (by assumption)).symm | simp))) ?_
 exact Zi (fun a w h => ZR  (m := 0) (.slice none 0 0) rfl h rfl rfl)
 try simp at hb1
 refine Zf (nx (Zo (fun a w h => Zcr (id := 3) (t := 34) (e := 45) (size := 3) (bytes := 48) (i0 := 0) (fol := 3) (d := 2) (ch := [(2, (xs.map hyC))]) (fun ix' => ([.any, .rd (Xp xs), .any, .any] : List AV).getD ix' .any) (fun ix' => ([true, true, true, true] : List Bool).getD ix' true) [] (xs.map hyC) (by simp) ?r3_1 hJ hJ0 h Yg rfl rfl rfl rfl ⟨?o3_1_0, ⟨?o3_1_1, ⟨?o3_1_2, ⟨?o3_1_3, trivial⟩⟩⟩⟩ trivial (fun v2 => ?n3_1))))
 case r3_1 =>
  refine Row.mk' Zdy ⟨_, rfl, rfl, rfl, rfl, rfl⟩ ⟨?x3_1_0, trivial⟩ ⟨_, _, _, _, rfl, rfl, rfl, rfl, rfl, rfl, rfl, rfl, rfl⟩ rfl rfl rfl
  case x3_1_0 => exact ⟨_, _, _, _, rfl, rfl, rfl, rfl, rfl, rfl, rfl, rfl, QH (f := hyC) (fun _ => rfl), (by have hm : maxLen = 9223372036854775807 := rfl; simp [upto]; first | omega | (simp; omega)), (by have hm : maxLen = 9223372036854775807 := rfl; simp [upto]; first | omega | (simp; omega)), fun _ _ _ _ _ hl => (hl.dep 1 6 _ rfl rfl rfl rfl)⟩
 case o3_1_0 => exact fun h => Zl rfl h
 case o3_1_1 => exact fun _ _ => ⟨rfl, fun _ _ _ hx hl _ => Yo rfl (hl.env 1 0 _ rfl rfl) hx⟩
 case o3_1_2 => exact fun h => Zl rfl h
 case o3_1_3 => exact fun h => Zl rfl h
 clear a w h
 exact nx (Zi (fun a w h => ZR  (m := 0) v2 rfl h rfl rfl))
theorem Znb {J : World → Prop} (hJ : Stab J) (xs : List Pr) (b : xs.length * 32 ≤ 140737488351232) : FnM (ι := Value) Tryz.prog J 54 [] [.rd (Qs xs)] [] (fun i' => .lit (i')) (fun i' => [OB.row i' 62 2 (xs.map prC)]) := by
 refine Z7 (N := 8) Tryz.func54 rfl rfl (lb rfl) fun S w0 R hS hJ0 hH => ?_
 refine Ya (B := St All (SO S (R)) w0 8 [(0, .rd (Qs xs))] (XO J S w0.heap.size (R))) ?_ fun a w h => h
 refine ln 0 fun hl1 => ?_
 refine qso tb hJ [0] [_] [_] ?_
 refine Zo (tsq ?_)
 refine snK 1 tb rfl ?_
 refine Zcp (f := prC) (xs := xs) Z6 rfl rfl rfl (lb rfl) (fun a w h => (h.get 0 rfl)) fun g1 hg1 => ?_
 refine seK [0,2] [_,_] rfl ?_
 refine nx (cj 0 (fun hb1 => ?_) fun hb1 => ?_)
 try simp at hb1
 refine qso tb hJ [1000] [_] [_] ?_
 refine tw (Yr 62 2 hJ) ?_
 refine tw (ob0 (congrArg (fun z' => OB.row (.slice none 0 0) 62 2 ((z').map prC)) (show ([] : List Pr) = xs from by first | exact (hg1 (by assumption)).symm | simp))) ?_
 exact Zi (fun a w h => ZR  (m := 0) (.slice none 0 0) rfl h rfl rfl)
 try simp at hb1
 refine Zf (nx (Zo (fun a w h => Zcr (id := 3) (t := 35) (e := 62) (size := 2) (bytes := 32) (i0 := 0) (fol := 3) (d := 2) (ch := [(2, (xs.map prC))]) (fun ix' => ([.any, .rd (Qs xs), .any, .any] : List AV).getD ix' .any) (fun ix' => ([true, true, true, true] : List Bool).getD ix' true) [] (xs.map prC) (by simp) ?r3_1 hJ hJ0 h Yg rfl rfl rfl rfl ⟨?o3_1_0, ⟨?o3_1_1, ⟨?o3_1_2, ⟨?o3_1_3, trivial⟩⟩⟩⟩ trivial (fun v2 => ?n3_1))))
 case r3_1 =>
  refine Row.mk' Zl3 ⟨_, rfl, rfl, rfl, rfl, rfl⟩ ⟨?x3_1_0, trivial⟩ ⟨_, _, _, _, rfl, rfl, rfl, rfl, rfl, rfl, rfl, rfl, rfl⟩ rfl rfl rfl
  case x3_1_0 => exact ⟨_, _, _, _, rfl, rfl, rfl, rfl, rfl, rfl, rfl, rfl, QH (f := prC) (fun _ => rfl), (by have hm : maxLen = 9223372036854775807 := rfl; simp [upto]; first | omega | (simp; omega)), (by have hm : maxLen = 9223372036854775807 := rfl; simp [upto]; first | omega | (simp; omega)), fun _ _ _ _ _ hl => (hl.dep 1 6 _ rfl rfl rfl rfl)⟩
 case o3_1_0 => exact fun h => Zl rfl h
 case o3_1_1 => exact fun _ _ => ⟨rfl, fun _ _ _ hx hl _ => Yo rfl (hl.env 1 0 _ rfl rfl) hx⟩
 case o3_1_2 => exact fun h => Zl rfl h
 case o3_1_3 => exact fun h => Zl rfl h
 clear a w h
 exact nx (Zi (fun a w h => ZR  (m := 0) v2 rfl h rfl rfl))
end Go.Proofs.YtgifeodnngodiaaGreatDoor
set_option maxHeartbeats 8000000
set_option maxRecDepth 100000
namespace Go.Proofs.YtgifeodnngodiaaGreatDoor
open Go.RowKit

theorem ZeD {J : World → Prop} (hJ : Stab J) (v : Value) (xs : List Hy) (f : FuncId) (caps : List AV) (Os : List OB) (Hs : List OB) (p : Hy → Bool) (hf : ∀ q', FnR Tryz.prog J f (Os ++ Hs) ([.agg (hyC (q'))] ++ caps) (.bool (p q'))) (hk0 : Zp Tryz.prog f) (hn : xs.length ≤ 9223372036854775807) : FnM (ι := Unit) Tryz.prog J 106 Hs [.lit v, .fn f caps] (OB.row v 45 3 (xs.map hyC) :: Os) (fun _ => .rd (Xp (xs.filter fun x' => !p x'))) (fun _ => (Os)) := by
 refine Z7 (N := 42) Tryz.func106 rfl rfl (lb rfl) fun S w0 R hS hJ0 hH => ?_
 refine Ya (B := St All (SO S (OB.row v 45 3 (xs.map hyC) :: (Os ++ R))) w0 42 [(0, .lit v), (1, .fn f caps)] (XO J S w0.heap.size (OB.row v 45 3 (xs.map hyC) :: (Os ++ R)))) ?_ fun a w h => h
 refine qso tb hJ [0,1] [_] [_,_] ?_
 refine Zpd tb hJ [0,1,1003] [_,_,.int (YK p xs),_] [2] [_,_,_] rfl ⟨fun _ _ hk hx hl _ => YQ (Zb7 hJ (xs := xs) (f := f) (caps := caps) (Os := (Os ++ Hs)) (p := p) (hf) (hk0)) ZlU rfl (nm hS hk) (hx.1) (ZeJ (fun _ ho => Zct hx (List.mem_cons_of_mem _ (List.mem_append_left _ ho))) (fun _ ho => Zh1 hH hk hx ho)) (Za (Qy hS hx (mo 0 rfl) (hl.dep 0 8 _ rfl rfl rfl rfl)) (Za (hl.dep 1 9 _ rfl rfl rfl rfl) Ze)) (jo hJ hx), trivial⟩ ?_
 refine Zo (qso tb hJ [0,1,2,1001] [_,_] [_,_,_,_] ?_)
 refine cj 3 (fun hb1 => ?_) fun hb1 => ?_
 have e1 := of_decide_eq_true hb1
 refine qso tb hJ [1001] [_,_] [_] ?_
 refine tw (fun h => Yu hS h (m := 0) (s := 4) rfl) ?_
 exact Zi (fun a w h => ZR  (m := 0) () rfl h rfl (congrArg (fun z => AV.rd (Xp z)) (show xs = (xs.filter fun x' => !p x') from by first | exact DelF.none e1 | exact f1_1.fin (by have := f1_1.len; omega))))
 have e1 := of_decide_eq_false hb1
 refine Zf (nx (Zo (tw (sa 2 rfl (congrArg AV.int (show YK p xs = (((YK p xs).toNat : Nat) : Int) from by have := QS e1; omega))) ?_)))
 refine ZP tb hJ [0,1,2,1002] [_,.int ((YK p xs).toNat + 1 : Nat),_] [1] [_,_,_,_] rfl ⟨YE (h0 := by have := (QS e1).2.1; omega), trivial⟩ ?_
 refine Zh (lpo (ι := Nat × Nat × (List Hy) × Value) (fun (i, j, ys, _) => (DelF p xs ys i j)) (fun (_, _, ys, vo) => (OB.row vo 45 3 (ys.map hyC) :: (Os ++ R))) (fun (i, j, _, vo) => [(5, .int (i : Nat)), (6, .int (j : Nat)), (0, .lit vo)]) (fun (_, j, _, _) => xs.length - j) [1,2,3,0] [_] ((YK p xs).toNat, (YK p xs).toNat + 1, xs, v) (show (DelF p xs xs ((YK p xs).toNat) ((YK p xs).toNat + 1)) from DelF.init e1) ?_)
 rintro ⟨i, j, ys, vo⟩ hF
 have f1_1 : DelF p xs ys i j := hF
 refine Zo (Zpd tb hJ [0,1,2,3,1003] [_,_,.int (ys.length : Nat),_] [2] [_,_,_,_,_] rfl ⟨fun _ _ _ hx hl _ => Zbu ZG rfl (Qy hS hx (mo 0 rfl) (hl.dep 1 17 _ rfl rfl rfl rfl)) hx, trivial⟩ ?_)
 refine cj 4 (fun hb2 => ?_) fun hb2 => ?_
 try simp at hb2
 refine Zf (nx (Zo (Zh (tsq ?_))))
 refine snK 2 tb rfl ?_
 refine sq (.lit (X1 vo (j * 3))) rfl rfl (lb rfl) (fun _ _ h => Y5 (i := (j : Int)) ZI rfl (Zd h.x (mo 0 rfl)) (h.get 1 rfl) (h.get 0 rfl) (Int.natCast_nonneg _) (by rw [List.length_map]; exact Int.ofNat_lt.2 (by omega)) h.x) ?_
 refine sq (.agg (hyC (ge ys j))) rfl rfl (lb rfl) (fun _ _ h => XU (i := j) XZ rfl (Zd h.x (mo 0 rfl)) (h.get 0 rfl) (QN (xs := ys) (k := j) (by omega)) rfl h.x) ?_
 refine X0 (cs := hyC (ge ys j)) ZaL rfl rfl rfl (lb rfl) rfl rfl rfl (by decide) (m := 0) rfl rfl (fun a w h => Zr hS _ h.keep h.x _ (Nat.le_refl _)) (fun a w h w' hk' => Yj hJ _ _ hk' h.x) ?_
 refine seK [0,5,6,7,8] [_,_,_,_,_] rfl ?_
 refine nx (ZP tb hJ [0,1,2,3,4,1003] [_,_,.bool (p (ge ys j)),_] [2] [_,_,_,_,_,_] rfl ⟨fun _ _ hk hx hl _ => Zcj (hf (ge ys j)) hk0 rfl (hl.dep 0 26 _ rfl rfl rfl rfl) (Zr hS _ hk hx) (hx.1) (ZeJ (fun _ ho => Zd hx (List.mem_cons_of_mem _ (List.mem_append_left _ ho))) (fun _ ho => Z9 hH hk hx ho)) (Za (hl.dep 1 27 _ rfl rfl rfl rfl) Ze) (jo hJ hx), trivial⟩ ?_)
 refine cj 5 (fun hb3 => ?_) fun hb3 => ?_
 try simp at hb3
 refine tsq ?_
 refine snK 3 tb rfl ?_
 refine sq (.lit (X1 vo (i * 3))) rfl rfl (lb rfl) (fun _ _ h => Y5 (i := (i : Int)) ZI rfl (Zd h.x (mo 0 rfl)) (h.get 2 rfl) (h.get 1 rfl) (Int.natCast_nonneg _) (by rw [List.length_map]; exact Int.ofNat_lt.2 (by have := f1_1.le; omega)) h.x) ?_
 refine Qu (i := i) hJ hJ0 YI rfl rfl rfl (by rw [List.length_map]; exact (by have := f1_1.le; omega)) rfl (fun a w h => ⟨(h.get 0 rfl), (h.get 1 rfl)⟩) ?_
 rw [show (ys.map hyC).set i (hyC (ge ys j)) = (ys.set i (ge ys j)).map hyC from List.map_set.symm]
 refine seK [5,6,7,8] [_,_,_,_] rfl ?_
 refine nx (Y3 tb hJ [0,2,3,1002] [_,.int (i + 1 : Nat),_] [1] [_,_,_,_] rfl ⟨YE (h0 := by have := f1_1.le; have := f1_1.len; omega), trivial⟩ ?_)
 refine nx (Y3 tb hJ [0,2,3,1002] [_,.int (j + 1 : Nat),_] [1] [_,_,_,_] rfl ⟨YE (h0 := by have := f1_1.lt; have := f1_1.len; omega), trivial⟩ ?_)
 exact XP (i + 1, j + 1, ys.set i (ge ys j), vo) [0,2,3,1] (show (DelF p xs (ys.set i (ge ys j)) (i + 1) (j + 1)) from f1_1.keep (by have := f1_1.len; omega) (by simpa using hb3)) (hm := (show xs.length - (j + 1) < xs.length - j from by have := f1_1.lt; have := f1_1.len; omega))
 try simp at hb3
 refine Zf (nx (Y3 tb hJ [1,2,4,1002] [_,.int (j + 1 : Nat),_] [1] [_,_,_,_] rfl ⟨YE (h0 := by have := f1_1.lt; have := f1_1.len; omega), trivial⟩ ?_))
 exact XP (i, j + 1, ys, vo) [0,1,3,2] (show (DelF p xs ys i (j + 1)) from f1_1.skip (by have := f1_1.len; omega) (by simpa using hb3)) (hm := (show xs.length - (j + 1) < xs.length - j from by have := f1_1.lt; have := f1_1.len; omega))
 try simp at hb2
 refine ZC (nx (tsq ?_))
 refine snK 2 tb rfl ?_
 refine sq (.lit (ZdF vo i 3)) rfl rfl (lb rfl) (fun _ _ h => Zft (lo := i) ZI rfl (Zd h.x (mo 0 rfl)) (h.get 1 rfl) (h.get 0 rfl) (by rw [List.length_map]; exact (by have := f1_1.le; have := f1_1.lt; have := f1_1.len; omega)) h.x) ?_
 refine Zes (lo := i) Zir ZG (by decide) hJ hJ0 rfl rfl rfl (by rw [List.length_map]; exact (by have := f1_1.le; have := f1_1.lt; have := f1_1.len; omega)) (fun a w h => (h.get 0 rfl)) ?_
 rw [← List.map_take]
 refine seK [4,6] [_,_] rfl ?_
 refine nx (ZP tb hJ [1003] [_,_,.lit (ZaH vo i),_] [2] [_] rfl ⟨fun _ _ _ hx hl _ => Zfv (m := i) ZI rfl (Zd hx (mo 0 rfl)) (by first | rfl | (rw [List.length_map]; exact (by have := f1_1.le; have := f1_1.lt; have := f1_1.len; simp; omega))) (hl.dep 0 39 _ rfl rfl rfl rfl) (hl.dep 1 40 _ rfl rfl rfl rfl) hx, trivial⟩ ?_)
 refine tw (fun h => Yu hS h (m := 0) (s := 4) rfl) ?_
 exact Zi (fun a w h => ZR  (m := 0) () rfl h rfl (congrArg (fun z => AV.rd (Xp z)) (show (ys.take i) = (xs.filter fun x' => !p x') from by first | exact DelF.none e1 | exact f1_1.fin (by have := f1_1.len; omega))))
theorem ZeC {J : World → Prop} (hJ : Stab J) (v : Value) (xs : List Pr) (f : FuncId) (caps : List AV) (Os : List OB) (Hs : List OB) (p : Pr → Bool) (hf : ∀ q', FnR Tryz.prog J f (Os ++ Hs) ([.agg (prC (q'))] ++ caps) (.bool (p q'))) (hk0 : Zp Tryz.prog f) (hn : xs.length ≤ 9223372036854775807) : FnM (ι := Unit) Tryz.prog J 141 Hs [.lit v, .fn f caps] (OB.row v 62 2 (xs.map prC) :: Os) (fun _ => .rd (Qs (xs.filter fun x' => !p x'))) (fun _ => (Os)) := by
 refine Z7 (N := 42) Tryz.func141 rfl rfl (lb rfl) fun S w0 R hS hJ0 hH => ?_
 refine Ya (B := St All (SO S (OB.row v 62 2 (xs.map prC) :: (Os ++ R))) w0 42 [(0, .lit v), (1, .fn f caps)] (XO J S w0.heap.size (OB.row v 62 2 (xs.map prC) :: (Os ++ R)))) ?_ fun a w h => h
 refine qso tb hJ [0,1] [_] [_,_] ?_
 refine Zpd tb hJ [0,1,1003] [_,_,.int (YK p xs),_] [2] [_,_,_] rfl ⟨fun _ _ hk hx hl _ => YQ (ZfE hJ (xs := xs) (f := f) (caps := caps) (Os := (Os ++ Hs)) (p := p) (hf) (hk0)) ZnS rfl (nm hS hk) (hx.1) (ZeJ (fun _ ho => Zct hx (List.mem_cons_of_mem _ (List.mem_append_left _ ho))) (fun _ ho => Zh1 hH hk hx ho)) (Za (Qy hS hx (mo 0 rfl) (hl.dep 0 8 _ rfl rfl rfl rfl)) (Za (hl.dep 1 9 _ rfl rfl rfl rfl) Ze)) (jo hJ hx), trivial⟩ ?_
 refine Zo (qso tb hJ [0,1,2,1001] [_,_] [_,_,_,_] ?_)
 refine cj 3 (fun hb1 => ?_) fun hb1 => ?_
 have e1 := of_decide_eq_true hb1
 refine qso tb hJ [1001] [_,_] [_] ?_
 refine tw (fun h => Yu hS h (m := 0) (s := 4) rfl) ?_
 exact Zi (fun a w h => ZR  (m := 0) () rfl h rfl (congrArg (fun z => AV.rd (Qs z)) (show xs = (xs.filter fun x' => !p x') from by first | exact DelF.none e1 | exact f1_1.fin (by have := f1_1.len; omega))))
 have e1 := of_decide_eq_false hb1
 refine Zf (nx (Zo (tw (sa 2 rfl (congrArg AV.int (show YK p xs = (((YK p xs).toNat : Nat) : Int) from by have := QS e1; omega))) ?_)))
 refine ZP tb hJ [0,1,2,1002] [_,.int ((YK p xs).toNat + 1 : Nat),_] [1] [_,_,_,_] rfl ⟨YE (h0 := by have := (QS e1).2.1; omega), trivial⟩ ?_
 refine Zh (lpo (ι := Nat × Nat × (List Pr) × Value) (fun (i, j, ys, _) => (DelF p xs ys i j)) (fun (_, _, ys, vo) => (OB.row vo 62 2 (ys.map prC) :: (Os ++ R))) (fun (i, j, _, vo) => [(5, .int (i : Nat)), (6, .int (j : Nat)), (0, .lit vo)]) (fun (_, j, _, _) => xs.length - j) [1,2,3,0] [_] ((YK p xs).toNat, (YK p xs).toNat + 1, xs, v) (show (DelF p xs xs ((YK p xs).toNat) ((YK p xs).toNat + 1)) from DelF.init e1) ?_)
 rintro ⟨i, j, ys, vo⟩ hF
 have f1_1 : DelF p xs ys i j := hF
 refine Zo (Zpd tb hJ [0,1,2,3,1003] [_,_,.int (ys.length : Nat),_] [2] [_,_,_,_,_] rfl ⟨fun _ _ _ hx hl _ => Zbu Z6 rfl (Qy hS hx (mo 0 rfl) (hl.dep 1 17 _ rfl rfl rfl rfl)) hx, trivial⟩ ?_)
 refine cj 4 (fun hb2 => ?_) fun hb2 => ?_
 try simp at hb2
 refine Zf (nx (Zo (Zh (tsq ?_))))
 refine snK 2 tb rfl ?_
 refine sq (.lit (X1 vo (j * 2))) rfl rfl (lb rfl) (fun _ _ h => Y5 (i := (j : Int)) ZD rfl (Zd h.x (mo 0 rfl)) (h.get 1 rfl) (h.get 0 rfl) (Int.natCast_nonneg _) (by rw [List.length_map]; exact Int.ofNat_lt.2 (by omega)) h.x) ?_
 refine sq (.agg (prC (ge ys j))) rfl rfl (lb rfl) (fun _ _ h => XU (i := j) Xr rfl (Zd h.x (mo 0 rfl)) (h.get 0 rfl) (QN (xs := ys) (k := j) (by omega)) rfl h.x) ?_
 refine X0 (cs := prC (ge ys j)) Zem rfl rfl rfl (lb rfl) rfl rfl rfl (by decide) (m := 0) rfl rfl (fun a w h => Zr hS _ h.keep h.x _ (Nat.le_refl _)) (fun a w h w' hk' => Yj hJ _ _ hk' h.x) ?_
 refine seK [0,5,6,7,8] [_,_,_,_,_] rfl ?_
 refine nx (ZP tb hJ [0,1,2,3,4,1003] [_,_,.bool (p (ge ys j)),_] [2] [_,_,_,_,_,_] rfl ⟨fun _ _ hk hx hl _ => Zcj (hf (ge ys j)) hk0 rfl (hl.dep 0 26 _ rfl rfl rfl rfl) (Zr hS _ hk hx) (hx.1) (ZeJ (fun _ ho => Zd hx (List.mem_cons_of_mem _ (List.mem_append_left _ ho))) (fun _ ho => Z9 hH hk hx ho)) (Za (hl.dep 1 27 _ rfl rfl rfl rfl) Ze) (jo hJ hx), trivial⟩ ?_)
 refine cj 5 (fun hb3 => ?_) fun hb3 => ?_
 try simp at hb3
 refine tsq ?_
 refine snK 3 tb rfl ?_
 refine sq (.lit (X1 vo (i * 2))) rfl rfl (lb rfl) (fun _ _ h => Y5 (i := (i : Int)) ZD rfl (Zd h.x (mo 0 rfl)) (h.get 2 rfl) (h.get 1 rfl) (Int.natCast_nonneg _) (by rw [List.length_map]; exact Int.ofNat_lt.2 (by have := f1_1.le; omega)) h.x) ?_
 refine Qu (i := i) hJ hJ0 Xj rfl rfl rfl (by rw [List.length_map]; exact (by have := f1_1.le; omega)) rfl (fun a w h => ⟨(h.get 0 rfl), (h.get 1 rfl)⟩) ?_
 rw [show (ys.map prC).set i (prC (ge ys j)) = (ys.set i (ge ys j)).map prC from List.map_set.symm]
 refine seK [5,6,7,8] [_,_,_,_] rfl ?_
 refine nx (Y3 tb hJ [0,2,3,1002] [_,.int (i + 1 : Nat),_] [1] [_,_,_,_] rfl ⟨YE (h0 := by have := f1_1.le; have := f1_1.len; omega), trivial⟩ ?_)
 refine nx (Y3 tb hJ [0,2,3,1002] [_,.int (j + 1 : Nat),_] [1] [_,_,_,_] rfl ⟨YE (h0 := by have := f1_1.lt; have := f1_1.len; omega), trivial⟩ ?_)
 exact XP (i + 1, j + 1, ys.set i (ge ys j), vo) [0,2,3,1] (show (DelF p xs (ys.set i (ge ys j)) (i + 1) (j + 1)) from f1_1.keep (by have := f1_1.len; omega) (by simpa using hb3)) (hm := (show xs.length - (j + 1) < xs.length - j from by have := f1_1.lt; have := f1_1.len; omega))
 try simp at hb3
 refine Zf (nx (Y3 tb hJ [1,2,4,1002] [_,.int (j + 1 : Nat),_] [1] [_,_,_,_] rfl ⟨YE (h0 := by have := f1_1.lt; have := f1_1.len; omega), trivial⟩ ?_))
 exact XP (i, j + 1, ys, vo) [0,1,3,2] (show (DelF p xs ys i (j + 1)) from f1_1.skip (by have := f1_1.len; omega) (by simpa using hb3)) (hm := (show xs.length - (j + 1) < xs.length - j from by have := f1_1.lt; have := f1_1.len; omega))
 try simp at hb2
 refine ZC (nx (tsq ?_))
 refine snK 2 tb rfl ?_
 refine sq (.lit (ZdF vo i 2)) rfl rfl (lb rfl) (fun _ _ h => Zft (lo := i) ZD rfl (Zd h.x (mo 0 rfl)) (h.get 1 rfl) (h.get 0 rfl) (by rw [List.length_map]; exact (by have := f1_1.le; have := f1_1.lt; have := f1_1.len; omega)) h.x) ?_
 refine Zes (lo := i) ZdU Z6 (by decide) hJ hJ0 rfl rfl rfl (by rw [List.length_map]; exact (by have := f1_1.le; have := f1_1.lt; have := f1_1.len; omega)) (fun a w h => (h.get 0 rfl)) ?_
 rw [← List.map_take]
 refine seK [4,6] [_,_] rfl ?_
 refine nx (ZP tb hJ [1003] [_,_,.lit (ZaH vo i),_] [2] [_] rfl ⟨fun _ _ _ hx hl _ => Zfv (m := i) ZD rfl (Zd hx (mo 0 rfl)) (by first | rfl | (rw [List.length_map]; exact (by have := f1_1.le; have := f1_1.lt; have := f1_1.len; simp; omega))) (hl.dep 0 39 _ rfl rfl rfl rfl) (hl.dep 1 40 _ rfl rfl rfl rfl) hx, trivial⟩ ?_)
 refine tw (fun h => Yu hS h (m := 0) (s := 4) rfl) ?_
 exact Zi (fun a w h => ZR  (m := 0) () rfl h rfl (congrArg (fun z => AV.rd (Qs z)) (show (ys.take i) = (xs.filter fun x' => !p x') from by first | exact DelF.none e1 | exact f1_1.fin (by have := f1_1.len; omega))))
end Go.Proofs.YtgifeodnngodiaaGreatDoor
