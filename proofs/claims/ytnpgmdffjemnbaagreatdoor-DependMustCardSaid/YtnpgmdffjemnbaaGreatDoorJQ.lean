/-
  FACTS of the program's types and functions.
  CONTRACTS of the program: look-ups, functions that take functions.
  CONTRACTS of the library: slices' functions.
  CONTRACTS of the library: slices.DeleteFunc.
-/
import Derived.Test.YtnpgmdffjemnbaaGreatDoorJP
import Derived.Laws.StructEq
import Derived.Test.YtnpgmdffjemnbaaGreatDoorJG
import Derived.Test.YtnpgmdffjemnbaaGreatDoorJO
import Derived.Test.YtnpgmdffjemnbaaGreatDoorJE
import Derived.Test.YtnpgmdffjemnbaaGreatDoorJN
set_option maxHeartbeats 8000000
set_option maxRecDepth 100000
namespace Go.Proofs.YtnpgmdffjemnbaaGreatDoor
open Go.RowKit

theorem mixedE : Tryz.prog.follows .mixedOrders = true := by kernel_rfl
theorem pr_fields : (Tryz.prog.fieldsOf 148).toList = [{ name := "A", type := 9, offset := 0, embedded := false, tag := "", pkgPath := "", byteOffset := 0 }, { name := "B", type := 9, offset := 1, embedded := false, tag := "", pkgPath := "", byteOffset := 16 }] := by kernel_rfl
theorem pr_struct : Tryz.prog.underlying 148 = some (.struct (Tryz.prog.fieldsOf 148)) := by kernel_rfl
theorem und9 : Tryz.prog.underlying 9 = some .string := by kernel_rfl
theorem run_part_str (c : Array Value) (i : Nat) (v : Value) (h : c[i]? = some v) (w : World) : (part 9 c i).run Tryz.prog w = .ok v w := by
  simp [part, Tryz.isAgg9, h]
theorem eqPair : EqPair Tryz.prog 148 := by
  intro a b c d w x y
  refine ⟨by simp [eqGuard], by simp [eqGuard], ?_⟩
  unfold Op.equal Op.maxDepth
  rw [run_equalIn_struct w 9999 148 _ _ pr_struct (by kernel_rfl), pr_fields]
  have e1 := fun (c : Array Value) (v : Value) (i : Nat) (h : c[i]? = some v) => run_part_str c i v h
  have q1 := run_equalIn_string (P := Tryz.prog) w 9998 9 a c und9
  have q2 := run_equalIn_string (P := Tryz.prog) w 9998 9 b d und9
  rw [bytes_beqL] at q1 q2
  simp only [Op.eqFields]
  rw [if_pos (by decide), if_pos (by decide)]
  simp only [Sem.run_bind]
  rw [e1 _ (.string a) 0 rfl w, Result.andThen_ok, e1 _ (.string c) 0 rfl w, Result.andThen_ok, q1, Result.andThen_ok]
  by_cases h1 : a = c
  · simp only [h1, decide_true, Bool.not_true, Bool.false_eq_true, if_false, Sem.run_bind]
    rw [e1 _ (.string b) 1 rfl w, Result.andThen_ok, e1 _ (.string d) 1 rfl w, Result.andThen_ok, q2, Result.andThen_ok]
    by_cases h2 : b = d
    · simp [h2, Sem.run_pure]
    · simp [h2, Sem.run_pure]
  · simp [h1, Sem.run_pure]

theorem unds_22_9 : Tryz.prog.underlying 22 = some (.slice 9) := by kernel_rfl
theorem elem_22_9_1 : ElemOf Tryz.prog 22 9 1 := ⟨by kernel_rfl, fun w => by kernel_rfl⟩
theorem one_9 : IsOne Tryz.prog 9 := fun w => by kernel_rfl
theorem unds_28_3 : Tryz.prog.underlying 28 = some (.slice 3) := by kernel_rfl
theorem elem_28_3_1 : ElemOf Tryz.prog 28 3 1 := ⟨by kernel_rfl, fun w => by kernel_rfl⟩
theorem unds_57_148 : Tryz.prog.underlying 57 = some (.slice 148) := by kernel_rfl
theorem elem_57_148_2 : ElemOf Tryz.prog 57 148 2 := ⟨by kernel_rfl, fun w => by kernel_rfl⟩
theorem agg_148_2 : IsAggN Tryz.prog 148 2 := ⟨fun w => by kernel_rfl, fun w => by kernel_rfl⟩
theorem und_9_string : Tryz.prog.underlying 9 = some .string := by kernel_rfl
theorem fld_59_2_2 : FieldAt Tryz.prog 59 2 2 := fun b off w => by kernel_rfl
theorem one_56 : IsOne Tryz.prog 56 := fun w => by kernel_rfl
theorem app_56_109 : AppT Tryz.prog 56 109 3 48 := appT (.agg #[.string ⟨#[]⟩, .bool false, .slice none 0 0]) (by kernel_rfl) (by kernel_rfl) rfl (by decide) (fun w => by kernel_rfl)
theorem fld_109_2_2 : FieldAt Tryz.prog 109 2 2 := fun b off w => by kernel_rfl
theorem one_22 : IsOne Tryz.prog 22 := fun w => by kernel_rfl
theorem fld_109_0_0 : FieldAt Tryz.prog 109 0 0 := fun b off w => by kernel_rfl
theorem undb_4 : Tryz.prog.underlying 4 = some .bool := by kernel_rfl
theorem agg_25_3 : IsAggN Tryz.prog 25 3 := ⟨fun w => by kernel_rfl, fun w => by kernel_rfl⟩
theorem app_57_148 : AppT Tryz.prog 57 148 2 32 := appT (.agg #[.string ⟨#[]⟩, .string ⟨#[]⟩]) (by kernel_rfl) (by kernel_rfl) rfl (by decide) (fun w => by kernel_rfl)
theorem unds_145_22 : Tryz.prog.underlying 145 = some (.slice 22) := by kernel_rfl
theorem elem_145_22_1 : ElemOf Tryz.prog 145 22 1 := ⟨by kernel_rfl, fun w => by kernel_rfl⟩
theorem zero_9 : ZeroT Tryz.prog 9 := ⟨.string ⟨#[]⟩, fun w => by kernel_rfl⟩
theorem app_22_9 : AppT Tryz.prog 22 9 1 16 := appT (.string ⟨#[]⟩) (by kernel_rfl) (by kernel_rfl) rfl (by decide) (fun w => by kernel_rfl)
theorem unds_56_109 : Tryz.prog.underlying 56 = some (.slice 109) := by kernel_rfl
theorem elem_56_109_3 : ElemOf Tryz.prog 56 109 3 := ⟨by kernel_rfl, fun w => by kernel_rfl⟩
theorem zero_22 : ZeroT Tryz.prog 22 := ⟨.slice none 0 0, fun w => by kernel_rfl⟩
theorem app_145_22 : AppT Tryz.prog 145 22 1 24 := appT (.slice none 0 0) (by kernel_rfl) (by kernel_rfl) rfl (by decide) (fun w => by kernel_rfl)
theorem elem_23_59_8 : ElemOf Tryz.prog 23 59 8 := ⟨by kernel_rfl, fun w => by kernel_rfl⟩
theorem agg_59_8 : IsAggN Tryz.prog 59 8 := ⟨fun w => by kernel_rfl, fun w => by kernel_rfl⟩
theorem fld_59_0_0 : FieldAt Tryz.prog 59 0 0 := fun b off w => by kernel_rfl
theorem agg_109_3 : IsAggN Tryz.prog 109 3 := ⟨fun w => by kernel_rfl, fun w => by kernel_rfl⟩
theorem fld_59_4_4 : FieldAt Tryz.prog 59 4 4 := fun b off w => by kernel_rfl
theorem var_148_2 : VarZ Tryz.prog 148 2 := ⟨(#[.string ⟨#[]⟩, .string ⟨#[]⟩]), rfl, by kernel_rfl⟩
theorem var_59_8 : VarZ Tryz.prog 59 8 := ⟨(#[.string ⟨#[]⟩, .bool false, .slice none 0 0, .slice none 0 0, .slice none 0 0, .slice none 0 0, .slice none 0 0, .slice none 0 0]), rfl, by kernel_rfl⟩
theorem unds_23_59 : Tryz.prog.underlying 23 = some (.slice 59) := by kernel_rfl
theorem zero_3 : ZeroT Tryz.prog 3 := ⟨.int .i64 0, fun w => by kernel_rfl⟩
theorem app_28_3 : AppT Tryz.prog 28 3 1 8 := appT (.int .i64 0) (by kernel_rfl) (by kernel_rfl) rfl (by decide) (fun w => by kernel_rfl)
theorem one_99 : IsOne Tryz.prog 99 := fun w => by kernel_rfl
theorem mapT_99_9_4 : MapT Tryz.prog 99 9 4 keyS.kind := ⟨by kernel_rfl, by kernel_rfl⟩
theorem zeroF_4_set : ZeroF Tryz.prog 4 (.bool false) := ⟨(.bool false), fun w => by kernel_rfl, fun S w => Rel.of_lit _⟩
theorem fld_103_1_1 : FieldAt Tryz.prog 103 1 1 := fun b off w => by kernel_rfl
theorem one_97 : IsOne Tryz.prog 97 := fun w => by kernel_rfl
theorem call_87 : CallOk Tryz.prog 87 := callOk Tryz.func87 rfl rfl
theorem call_129 : CallOk Tryz.prog 129 := callOk Tryz.func129 rfl rfl
theorem call_131 : CallOk Tryz.prog 131 := callOk Tryz.func131 rfl rfl
theorem call_69 : CallOk Tryz.prog 69 := callOk Tryz.func69 rfl rfl
theorem var_109_3 : VarZ Tryz.prog 109 3 := ⟨(#[.string ⟨#[]⟩, .bool false, .slice none 0 0]), rfl, by kernel_rfl⟩
theorem size_109_3 : SizeT Tryz.prog 109 3 := fun w => by kernel_rfl
theorem zeroK_109_3 : ZeroK Tryz.prog 109 3 := ⟨(.agg #[.string ⟨#[]⟩, .bool false, .slice none 0 0]), fun w => by kernel_rfl, rfl, by simp [Value.cells, Value.oneCell']⟩
theorem call_174 : CallOk Tryz.prog 174 := callOk Tryz.func174 rfl rfl
theorem size_148_2 : SizeT Tryz.prog 148 2 := fun w => by kernel_rfl
theorem zeroK_148_2 : ZeroK Tryz.prog 148 2 := ⟨(.agg #[.string ⟨#[]⟩, .string ⟨#[]⟩]), fun w => by kernel_rfl, rfl, by simp [Value.cells, Value.oneCell']⟩
theorem zeroK_3_1 : ZeroK Tryz.prog 3 1 := ⟨(.int .i64 0), fun w => by kernel_rfl, rfl, by simp [Value.cells, Value.oneCell']⟩
theorem call_155 : CallOk Tryz.prog 155 := callOk Tryz.func155 rfl rfl
theorem call_154 : CallOk Tryz.prog 154 := callOk Tryz.func154 rfl rfl
theorem call_158 : CallOk Tryz.prog 158 := callOk Tryz.func158 rfl rfl
theorem call_157 : CallOk Tryz.prog 157 := callOk Tryz.func157 rfl rfl
theorem call_156 : CallOk Tryz.prog 156 := callOk Tryz.func156 rfl rfl
theorem call_103 : CallOk Tryz.prog 103 := callOk Tryz.func103 rfl rfl
theorem call_102 : CallOk Tryz.prog 102 := callOk Tryz.func102 rfl rfl
theorem call_101 : CallOk Tryz.prog 101 := callOk Tryz.func101 rfl rfl
theorem varC_109_sbl : VarC Tryz.prog 109 [.lit (.string ⟨#[]⟩), .lit (.bool false), .sl []] := ⟨(.agg #[.string ⟨#[]⟩, .bool false, .slice none 0 0]), fun w => by kernel_rfl, fun S w => (show RdL S w [.lit (.string ⟨#[]⟩), .lit (.bool false), .sl []] [.string ⟨#[]⟩, .bool false, .slice none 0 0] from ⟨.lit _ (Nat.zero_le _), .lit _ True.intro, .nil _ _ (Nat.zero_le _), trivial⟩)⟩
theorem call_132 : CallOk Tryz.prog 132 := callOk Tryz.func132 rfl rfl
theorem size_22_1 : SizeT Tryz.prog 22 1 := fun w => by kernel_rfl
theorem call_123 : CallOk Tryz.prog 123 := callOk Tryz.func123 rfl rfl
theorem call_93 : CallOk Tryz.prog 93 := callOk Tryz.func93 rfl rfl
theorem varCA_176_256 : VarC Tryz.prog 176 ((List.replicate 256 (0 : UInt8)).map u8D) := varC_arr (.agg (Array.replicate 256 (.int .u8 0))) (fun w => by kernel_rfl) (by simp [Value.cells])
theorem undi_3_i64 : Tryz.prog.underlying 3 = some (.int .i64) := by kernel_rfl
theorem undi_5_u8 : Tryz.prog.underlying 5 = some (.int .u8) := by kernel_rfl
theorem arrT_176_5_256 : ArrT Tryz.prog 176 5 256 := ⟨by kernel_rfl, fun w => by kernel_rfl, by decide⟩
theorem size_5_1 : SizeT Tryz.prog 5 1 := fun w => by kernel_rfl
theorem agg_176_256 : IsAggN Tryz.prog 176 256 := ⟨fun w => by kernel_rfl, fun w => by kernel_rfl⟩
theorem size_176_256 : SizeT Tryz.prog 176 256 := fun w => by kernel_rfl
theorem unds_175_5 : Tryz.prog.underlying 175 = some (.slice 5) := by kernel_rfl
theorem elem_175_5_1 : ElemOf Tryz.prog 175 5 1 := ⟨by kernel_rfl, fun w => by kernel_rfl⟩
theorem one_5 : IsOne Tryz.prog 5 := fun w => by kernel_rfl
theorem call_172 : CallOk Tryz.prog 172 := callOk Tryz.func172 rfl rfl
theorem call_152 : CallOk Tryz.prog 152 := callOk Tryz.func152 rfl rfl
theorem call_153 : CallOk Tryz.prog 153 := callOk Tryz.func153 rfl rfl
theorem zero_5 : ZeroT Tryz.prog 5 := ⟨.int .u8 0, fun w => by kernel_rfl⟩
theorem call_120 : CallOk Tryz.prog 120 := callOk Tryz.func120 rfl rfl
theorem zeroK_5_1 : ZeroK Tryz.prog 5 1 := ⟨(.int .u8 0), fun w => by kernel_rfl, rfl, by simp [Value.cells, Value.oneCell']⟩
theorem call_177 : CallOk Tryz.prog 177 := callOk Tryz.func177 rfl rfl
theorem call_86 : CallOk Tryz.prog 86 := callOk Tryz.func86 rfl rfl
theorem call_178 : CallOk Tryz.prog 178 := callOk Tryz.func178 rfl rfl
theorem call_176 : CallOk Tryz.prog 176 := callOk Tryz.func176 rfl rfl
theorem unda_199_10_198 : Tryz.prog.underlying 199 = some (.array 10 198) := by kernel_rfl
theorem size_198_4 : SizeT Tryz.prog 198 4 := fun w => by kernel_rfl
theorem agg_198_4 : IsAggN Tryz.prog 198 4 := ⟨fun w => by kernel_rfl, fun w => by kernel_rfl⟩
theorem varC_198_sbii : VarC Tryz.prog 198 [.lit (.string ⟨#[]⟩), .lit (.bool false), .lit (.int .i64 0), .lit (.int .i64 0)] := ⟨(.agg #[.string ⟨#[]⟩, .bool false, .int .i64 0, .int .i64 0]), fun w => by kernel_rfl, fun S w => (show RdL S w [.lit (.string ⟨#[]⟩), .lit (.bool false), .lit (.int .i64 0), .lit (.int .i64 0)] [.string ⟨#[]⟩, .bool false, .int .i64 0, .int .i64 0] from ⟨.lit _ (Nat.zero_le _), .lit _ True.intro, .lit _ True.intro, .lit _ True.intro, trivial⟩)⟩
theorem call_88 : CallOk Tryz.prog 88 := callOk Tryz.func88 rfl rfl
theorem fld_156_2_2 : FieldAt Tryz.prog 156 2 2 := fun b off w => by kernel_rfl
theorem fld_156_3_3 : FieldAt Tryz.prog 156 3 3 := fun b off w => by kernel_rfl
theorem call_161 : CallOk Tryz.prog 161 := callOk Tryz.func161 rfl rfl
theorem unds_157_156 : Tryz.prog.underlying 157 = some (.slice 156) := by kernel_rfl
theorem elem_157_156_4 : ElemOf Tryz.prog 157 156 4 := ⟨by kernel_rfl, fun w => by kernel_rfl⟩
theorem call_175 : CallOk Tryz.prog 175 := callOk Tryz.func175 rfl rfl
theorem fld_198_0_0 : FieldAt Tryz.prog 198 0 0 := fun b off w => by kernel_rfl
theorem call_160 : CallOk Tryz.prog 160 := callOk Tryz.func160 rfl rfl
theorem call_159 : CallOk Tryz.prog 159 := callOk Tryz.func159 rfl rfl
theorem var_156_4 : VarZ Tryz.prog 156 4 := ⟨(#[.int .i64 0, .string ⟨#[]⟩, .slice none 0 0, .slice none 0 0]), rfl, by kernel_rfl⟩
theorem call_162 : CallOk Tryz.prog 162 := callOk Tryz.func162 rfl rfl
theorem build_156_4 : BuildT Tryz.prog 156 4 := ⟨#[.int .i64 0, .string ⟨#[]⟩, .slice none 0 0, .slice none 0 0], rfl, fun i => (#[(0, 1), (1, 1), (2, 1), (3, 1)] : Array (Nat × Nat))[i]?, fun j hj => by rcases j with _ | _ | _ | _ | j <;> first | rfl | omega, fun parts => by kernel_rfl⟩
theorem zero_156 : ZeroT Tryz.prog 156 := ⟨.agg #[.int .i64 0, .string ⟨#[]⟩, .slice none 0 0, .slice none 0 0], fun w => by kernel_rfl⟩
theorem call_130 : CallOk Tryz.prog 130 := callOk Tryz.func130 rfl rfl
theorem fld_103_2_2 : FieldAt Tryz.prog 103 2 2 := fun b off w => by kernel_rfl
theorem fld_112_1_1 : FieldAt Tryz.prog 112 1 1 := fun b off w => by kernel_rfl
theorem one_101 : IsOne Tryz.prog 101 := fun w => by kernel_rfl
theorem mapT_101_9_9 : MapT Tryz.prog 101 9 9 keyS.kind := ⟨by kernel_rfl, by kernel_rfl⟩
theorem zeroF_9_str : ZeroF Tryz.prog 9 (.str default) := ⟨(.string ⟨#[]⟩), fun w => by kernel_rfl, fun S w => (show Rel S w (.str ⟨#[]⟩) _ from Rel.of_lit _ (Nat.zero_le _))⟩
theorem fld_103_4_4 : FieldAt Tryz.prog 103 4 4 := fun b off w => by kernel_rfl
theorem fld_103_3_3 : FieldAt Tryz.prog 103 3 3 := fun b off w => by kernel_rfl
theorem one_100 : IsOne Tryz.prog 100 := fun w => by kernel_rfl
theorem mapT_100_9_109 : MapT Tryz.prog 100 9 109 keyS.kind := ⟨by kernel_rfl, by kernel_rfl⟩
theorem zeroF_109_hy : ZeroF Tryz.prog 109 (.agg (hyC default)) := ⟨(.agg #[.string ⟨#[]⟩, .bool false, .slice none 0 0]), fun w => by kernel_rfl, fun S w => (show Rel S w (.agg [.lit (.string ⟨#[]⟩), .lit (.bool false), .sl []]) _ from (by simp only [Rel]; exact ⟨[.string ⟨#[]⟩, .bool false, .slice none 0 0], rfl, .lit _ (Nat.zero_le _), .lit _ True.intro, .nil _ _ (Nat.zero_le _), trivial⟩))⟩
theorem call_122 : CallOk Tryz.prog 122 := callOk Tryz.func122 rfl rfl
theorem call_91 : CallOk Tryz.prog 91 := callOk Tryz.func91 rfl rfl
theorem call_125 : CallOk Tryz.prog 125 := callOk Tryz.func125 rfl rfl
theorem call_124 : CallOk Tryz.prog 124 := callOk Tryz.func124 rfl rfl
theorem undm_99_9_4 : Tryz.prog.underlying 99 = some (.map 9 4) := by kernel_rfl
theorem varC_148_ss : VarC Tryz.prog 148 [.lit (.string ⟨#[]⟩), .lit (.string ⟨#[]⟩)] := ⟨(.agg #[.string ⟨#[]⟩, .string ⟨#[]⟩]), fun w => by kernel_rfl, fun S w => (show RdL S w [.lit (.string ⟨#[]⟩), .lit (.string ⟨#[]⟩)] [.string ⟨#[]⟩, .string ⟨#[]⟩] from ⟨.lit _ (Nat.zero_le _), .lit _ (Nat.zero_le _), trivial⟩)⟩
theorem call_126 : CallOk Tryz.prog 126 := callOk Tryz.func126 rfl rfl
theorem call_128 : CallOk Tryz.prog 128 := callOk Tryz.func128 rfl rfl
theorem call_127 : CallOk Tryz.prog 127 := callOk Tryz.func127 rfl rfl
theorem call_95 : CallOk Tryz.prog 95 := callOk Tryz.func95 rfl rfl
theorem unds_140_56 : Tryz.prog.underlying 140 = some (.slice 56) := by kernel_rfl
theorem elem_140_56_1 : ElemOf Tryz.prog 140 56 1 := ⟨by kernel_rfl, fun w => by kernel_rfl⟩
theorem call_121 : CallOk Tryz.prog 121 := callOk Tryz.func121 rfl rfl
theorem undm_101_9_9 : Tryz.prog.underlying 101 = some (.map 9 9) := by kernel_rfl
theorem call_94 : CallOk Tryz.prog 94 := callOk Tryz.func94 rfl rfl
theorem call_98 : CallOk Tryz.prog 98 := callOk Tryz.func98 rfl rfl
theorem build_112_2 : BuildT Tryz.prog 112 2 := ⟨#[.map none, .map none], rfl, fun i => (#[(0, 1), (1, 1)] : Array (Nat × Nat))[i]?, fun j hj => by rcases j with _ | _ | j <;> first | rfl | omega, fun parts => by kernel_rfl⟩
theorem varC_112_mm : VarC Tryz.prog 112 [.lit (.map none), .lit (.map none)] := ⟨(.agg #[.map none, .map none]), fun w => by kernel_rfl, fun S w => (show RdL S w [.lit (.map none), .lit (.map none)] [.map none, .map none] from ⟨.lit _ True.intro, .lit _ True.intro, trivial⟩)⟩
theorem size_112_2 : SizeT Tryz.prog 112 2 := fun w => by kernel_rfl
theorem zeroK_56_1 : ZeroK Tryz.prog 56 1 := ⟨(.slice none 0 0), fun w => by kernel_rfl, rfl, by simp [Value.cells, Value.oneCell']⟩
theorem call_89 : CallOk Tryz.prog 89 := callOk Tryz.func89 rfl rfl
theorem call_90 : CallOk Tryz.prog 90 := callOk Tryz.func90 rfl rfl
theorem call_92 : CallOk Tryz.prog 92 := callOk Tryz.func92 rfl rfl
theorem call_77 : CallOk Tryz.prog 77 := callOk Tryz.func77 rfl rfl
theorem call_96 : CallOk Tryz.prog 96 := callOk Tryz.func96 rfl rfl
theorem call_97 : CallOk Tryz.prog 97 := callOk Tryz.func97 rfl rfl
theorem call_99 : CallOk Tryz.prog 99 := callOk Tryz.func99 rfl rfl
theorem call_100 : CallOk Tryz.prog 100 := callOk Tryz.func100 rfl rfl
theorem build_103_5 : BuildT Tryz.prog 103 5 := ⟨#[.map none, .map none, .map none, .map none, .map none], rfl, fun i => (#[(0, 1), (1, 1), (2, 1), (3, 1), (4, 1)] : Array (Nat × Nat))[i]?, fun j hj => by rcases j with _ | _ | _ | _ | _ | j <;> first | rfl | omega, fun parts => by kernel_rfl⟩
theorem call_75 : CallOk Tryz.prog 75 := callOk Tryz.func75 rfl rfl
theorem call_76 : CallOk Tryz.prog 76 := callOk Tryz.func76 rfl rfl
theorem call_82 : CallOk Tryz.prog 82 := callOk Tryz.func82 rfl rfl
theorem call_54 : CallOk Tryz.prog 54 := callOk Tryz.func54 rfl rfl
theorem buildG_66 : BuildG Tryz.prog 66 := fun x y z => by kernel_rfl
theorem varC_59_sbllllll : VarC Tryz.prog 59 [.lit (.string ⟨#[]⟩), .lit (.bool false), .sl [], .sl [], .sl [], .sl [], .sl [], .sl []] := ⟨(.agg #[.string ⟨#[]⟩, .bool false, .slice none 0 0, .slice none 0 0, .slice none 0 0, .slice none 0 0, .slice none 0 0, .slice none 0 0]), fun w => by kernel_rfl, fun S w => (show RdL S w [.lit (.string ⟨#[]⟩), .lit (.bool false), .sl [], .sl [], .sl [], .sl [], .sl [], .sl []] [.string ⟨#[]⟩, .bool false, .slice none 0 0, .slice none 0 0, .slice none 0 0, .slice none 0 0, .slice none 0 0, .slice none 0 0] from ⟨.lit _ (Nat.zero_le _), .lit _ True.intro, .nil _ _ (Nat.zero_le _), .nil _ _ (Nat.zero_le _), .nil _ _ (Nat.zero_le _), .nil _ _ (Nat.zero_le _), .nil _ _ (Nat.zero_le _), .nil _ _ (Nat.zero_le _), trivial⟩)⟩
theorem size_59_8 : SizeT Tryz.prog 59 8 := fun w => by kernel_rfl
theorem call_71 : CallOk Tryz.prog 71 := callOk Tryz.func71 rfl rfl
theorem mapT_89_9_3 : MapT Tryz.prog 89 9 3 keyS.kind := ⟨by kernel_rfl, by kernel_rfl⟩
theorem zeroF_3_int : ZeroF Tryz.prog 3 (.int default) := ⟨(.int .i64 0), fun w => by kernel_rfl, fun S w => (show Rel S w (.int 0) _ from Rel.of_lit _)⟩
theorem mapT_70_3_4 : MapT Tryz.prog 70 3 4 keyI.kind := ⟨by kernel_rfl, by kernel_rfl⟩
theorem fld_66_1_3 : FieldAt Tryz.prog 66 1 3 := fun b off w => by kernel_rfl
theorem one_44 : IsOne Tryz.prog 44 := fun w => by kernel_rfl
theorem call_48 : CallOk Tryz.prog 48 := callOk Tryz.func48 rfl rfl
theorem elem_44_28_1 : ElemOf Tryz.prog 44 28 1 := ⟨by kernel_rfl, fun w => by kernel_rfl⟩
theorem zero_28 : ZeroT Tryz.prog 28 := ⟨.slice none 0 0, fun w => by kernel_rfl⟩
theorem app_44_28 : AppT Tryz.prog 44 28 1 24 := appT (.slice none 0 0) (by kernel_rfl) (by kernel_rfl) rfl (by decide) (fun w => by kernel_rfl)
theorem size_44_1 : SizeT Tryz.prog 44 1 := fun w => by kernel_rfl
theorem one_70 : IsOne Tryz.prog 70 := fun w => by kernel_rfl
theorem one_62 : IsOne Tryz.prog 62 := fun w => by kernel_rfl
theorem one_91 : IsOne Tryz.prog 91 := fun w => by kernel_rfl
theorem call_72 : CallOk Tryz.prog 72 := callOk Tryz.func72 rfl rfl
theorem varC_70_m : VarC Tryz.prog 70 [.lit (.map none)] := ⟨(.map none), fun w => by kernel_rfl, fun S w => (show RdL S w [.lit (.map none)] [.map none] from ⟨.lit _ True.intro, trivial⟩)⟩
theorem size_70_1 : SizeT Tryz.prog 70 1 := fun w => by kernel_rfl
theorem varC_91_f : VarC Tryz.prog 91 [.lit .nilFunc] := ⟨(.nilFunc), fun w => by kernel_rfl, fun S w => (show RdL S w [.lit .nilFunc] [.nilFunc] from ⟨.lit _ True.intro, trivial⟩)⟩
theorem size_91_1 : SizeT Tryz.prog 91 1 := fun w => by kernel_rfl
theorem call_26 : CallOk Tryz.prog 26 := callOk Tryz.func26 rfl rfl
theorem call_43 : CallOk Tryz.prog 43 := callOk Tryz.func43 rfl rfl
theorem unds_44_28 : Tryz.prog.underlying 44 = some (.slice 28) := by kernel_rfl
theorem call_24 : CallOk Tryz.prog 24 := callOk Tryz.func24 rfl rfl
theorem call_47 : CallOk Tryz.prog 47 := callOk Tryz.func47 rfl rfl
theorem call_15 : CallOk Tryz.prog 15 := callOk Tryz.func15 rfl rfl
theorem fld_66_0_0 : FieldAt Tryz.prog 66 0 0 := fun b off w => by kernel_rfl
theorem call_56 : CallOk Tryz.prog 56 := callOk Tryz.func56 rfl rfl
theorem buildG2_66 : BuildG2 Tryz.prog 66 := fun x y z ad k cap => by kernel_rfl
theorem size_28_1 : SizeT Tryz.prog 28 1 := fun w => by kernel_rfl
theorem zeroK_9_1 : ZeroK Tryz.prog 9 1 := ⟨(.string ⟨#[]⟩), fun w => by kernel_rfl, rfl, by simp [Value.cells, Value.oneCell']⟩
theorem buildFr_59 : BuildFr Tryz.prog 59 := fun s b ad ad' k c k' c' => by kernel_rfl
theorem call_70 : CallOk Tryz.prog 70 := callOk Tryz.func70 rfl rfl
theorem varC_25_lll : VarC Tryz.prog 25 [.sl [], .sl [], .sl []] := ⟨(.agg #[.slice none 0 0, .slice none 0 0, .slice none 0 0]), fun w => by kernel_rfl, fun S w => (show RdL S w [.sl [], .sl [], .sl []] [.slice none 0 0, .slice none 0 0, .slice none 0 0] from ⟨.nil _ _ (Nat.zero_le _), .nil _ _ (Nat.zero_le _), .nil _ _ (Nat.zero_le _), trivial⟩)⟩
theorem buildDb_25 : BuildDb Tryz.prog 25 := fun ad ad' k c k' c' => by kernel_rfl
theorem size_25_3 : SizeT Tryz.prog 25 3 := fun w => by kernel_rfl
theorem call_42 : CallOk Tryz.prog 42 := callOk Tryz.func42 rfl rfl
theorem var_25_3 : VarZ Tryz.prog 25 3 := ⟨(#[.slice none 0 0, .slice none 0 0, .slice none 0 0]), rfl, by kernel_rfl⟩
theorem call_23 : CallOk Tryz.prog 23 := callOk Tryz.func23 rfl rfl
theorem call_14 : CallOk Tryz.prog 14 := callOk Tryz.func14 rfl rfl
theorem call_41 : CallOk Tryz.prog 41 := callOk Tryz.func41 rfl rfl
theorem call_40 : CallOk Tryz.prog 40 := callOk Tryz.func40 rfl rfl
theorem call_8 : CallOk Tryz.prog 8 := callOk Tryz.func8 rfl rfl
theorem call_9 : CallOk Tryz.prog 9 := callOk Tryz.func9 rfl rfl
theorem call_10 : CallOk Tryz.prog 10 := callOk Tryz.func10 rfl rfl
theorem call_21 : CallOk Tryz.prog 21 := callOk Tryz.func21 rfl rfl
set_option maxRecDepth 100000 in
theorem tb_one : ∀ t ∈ [3, 4, 5, 9, 22, 23, 28, 44, 56, 57, 62, 70, 91, 97, 99, 100, 101, 107], IsOne Tryz.prog t := by
  intro t h
  simp only [List.mem_cons, List.not_mem_nil, or_false] at h
  rcases h with rfl | rfl | rfl | rfl | rfl | rfl | rfl | rfl | rfl | rfl | rfl | rfl | rfl | rfl | rfl | rfl | rfl | rfl <;> exact fun w => by kernel_rfl
set_option maxRecDepth 100000 in
theorem tb_agg : ∀ q ∈ [(25, 3), (59, 8), (109, 3), (112, 2), (148, 2), (156, 4), (198, 4)], IsAggN Tryz.prog q.1 q.2 := by
  intro q h
  simp only [List.mem_cons, List.not_mem_nil, or_false] at h
  rcases h with rfl | rfl | rfl | rfl | rfl | rfl | rfl <;> exact ⟨fun w => by kernel_rfl, fun w => by kernel_rfl⟩
set_option maxRecDepth 100000 in
theorem tb_fld : ∀ q ∈ [(25, 0, 0), (25, 1, 1), (25, 2, 2), (59, 0, 0), (59, 1, 1), (59, 2, 2), (59, 3, 3), (59, 4, 4), (59, 5, 5), (59, 6, 6), (59, 7, 7), (66, 0, 0), (66, 1, 3), (103, 0, 0), (103, 1, 1), (103, 2, 2), (103, 3, 3), (103, 4, 4), (109, 0, 0), (109, 1, 1), (109, 2, 2), (112, 0, 0), (112, 1, 1), (148, 0, 0), (148, 1, 1), (156, 0, 0), (156, 1, 1), (156, 2, 2), (156, 3, 3), (198, 0, 0), (198, 1, 1), (198, 2, 2), (198, 3, 3)], FieldAt Tryz.prog q.1 q.2.1 q.2.2 := by
  intro q h
  simp only [List.mem_cons, List.not_mem_nil, or_false] at h
  rcases h with rfl | rfl | rfl | rfl | rfl | rfl | rfl | rfl | rfl | rfl | rfl | rfl | rfl | rfl | rfl | rfl | rfl | rfl | rfl | rfl | rfl | rfl | rfl | rfl | rfl | rfl | rfl | rfl | rfl | rfl | rfl | rfl | rfl <;> exact fun b off w => by kernel_rfl
def tb : Tbl Tryz.prog where
  one := hasN [3, 4, 5, 9, 22, 23, 28, 44, 56, 57, 62, 70, 91, 97, 99, 100, 101, 107]
  agg := lk1 [(25, 3), (59, 8), (109, 3), (112, 2), (148, 2), (156, 4), (198, 4)]
  fld := lk2 [(25, 0, 0), (25, 1, 1), (25, 2, 2), (59, 0, 0), (59, 1, 1), (59, 2, 2), (59, 3, 3), (59, 4, 4), (59, 5, 5), (59, 6, 6), (59, 7, 7), (66, 0, 0), (66, 1, 3), (103, 0, 0), (103, 1, 1), (103, 2, 2), (103, 3, 3), (103, 4, 4), (109, 0, 0), (109, 1, 1), (109, 2, 2), (112, 0, 0), (112, 1, 1), (148, 0, 0), (148, 1, 1), (156, 0, 0), (156, 1, 1), (156, 2, 2), (156, 3, 3), (198, 0, 0), (198, 1, 1), (198, 2, 2), (198, 3, 3)]
  h1 := fun t h => tb_one t (hasN_mem h)
  h2 := fun t k h => tb_agg (t, k + 1) (lk1_mem h)
  h3 := fun s f d h => tb_fld (s, f, d) (lk2_mem h)
  mix := mixedE

end Go.Proofs.YtnpgmdffjemnbaaGreatDoor
set_option maxHeartbeats 8000000
set_option maxRecDepth 100000
namespace Go.Proofs.YtnpgmdffjemnbaaGreatDoor
open Go.RowKit

theorem p_isSymbol {J : World → Prop} (hJ : Stab J) (M1 : Nat) (M2 : Nat) (M3 : Nat) (M4 : Nat) (M5 : Nat) (cs : List ByteArray) (vs : List ByteArray) (s : ByteArray)  : FnR Tryz.prog J 87 [OB.set keyS M1 cs, OB.set keyS M2 vs] [.ptr [.lit (.map (some M1)), .lit (.map (some M2)), .lit (.map (some M3)), .lit (.map (some M4)), .lit (.map (some M5))], .str s] (.bool (decide (s ∈ cs) || decide (s ∈ vs))) := by
 refine fn_enterR (N := 19) Tryz.func87 rfl rfl (lb rfl) fun S w0 hS hJ0 hH => ?_
 clear hJ0
 refine k_seq (rg tb hJ [0, 1] [_] [] [(_, _), (_, _)] rfl rfl rfl rfl trivial (nx (k_seq (rg tb hJ [1014] [_, _, _, _, _, .bool (decide (s ∈ cs)), _, _, _, _, _, _, .bool (decide (s ∈ vs)), _, _] [5, 12] [(_, .bool ((decide (s ∈ cs)) || (decide (s ∈ vs))))] rfl rfl rfl rfl ⟨fun _ _ hk hx hl _ => r_lookupS (Kd := keyS) (xs := cs) mapT_99_9_4 zeroF_4_set s rfl (has_now hH hk (mo 0 rfl)) (hl.dep 3 8 _ rfl rfl rfl rfl) (hl.dep 4 9 _ rfl rfl rfl rfl) hx, fun _ _ hk hx hl hc => r_lookupS (Kd := keyS) (xs := vs) mapT_99_9_4 zeroF_4_set s rfl (has_now hH hk (mo 1 rfl)) (hl.dep 10 15 _ rfl rfl rfl hc) (hl.dep 11 16 _ rfl rfl rfl hc) hx, trivial⟩ (nx (tr_ret (fun a w h => leave1' (m := 0) rfl h rfl (congrArg AV.bool (show ((decide (s ∈ cs)) || (decide (s ∈ vs))) = (decide (s ∈ cs) || decide (s ∈ vs)) from by first | rfl | grind [ge_mem])))))))))

theorem p_text1 {J : World → Prop} (hJ : Stab J) (M1 : Nat) (M2 : Nat) (M3 : Nat) (M4 : Nat) (M5 : Nat) (cs : List ByteArray) (vs : List ByteArray) (s : ByteArray)  : FnR Tryz.prog J 123 [OB.set keyS M1 cs, OB.set keyS M2 vs] [.str s, .ptr [.ptr [.lit (.map (some M1)), .lit (.map (some M2)), .lit (.map (some M3)), .lit (.map (some M4)), .lit (.map (some M5))]]] (.bool (!(decide (s ∈ cs) || decide (s ∈ vs)))) := by
 refine fn_enterR (N := 8) Tryz.func123 rfl rfl (lb rfl) fun S w0 hS hJ0 hH => ?_
 clear hJ0
 refine k_seq (rg tb hJ [0, 1] [_] [] [(_, _), (_, _)] rfl rfl rfl rfl trivial (nx (k_seq (rg tb hJ [1004] [_, _, .bool (decide (s ∈ cs) || decide (s ∈ vs)), _, _] [2] [(_, .bool (!(decide (s ∈ cs) || decide (s ∈ vs))))] rfl rfl rfl rfl ⟨fun _ _ hk hx hl _ => r_fnR (p_isSymbol hJ (M1 := M1) (M2 := M2) (M3 := M3) (M4 := M4) (M5 := M5) (cs := cs) (vs := vs) (s := s) ) call_87 rfl (nm hS hk) (hx) (has_cons (has_now hH hk (mo 0 rfl)) (has_cons (has_now hH hk (mo 1 rfl)) has_nil)) (relL_cons (hl.dep 0 4 _ rfl rfl rfl rfl) (relL_cons (hl.dep 1 5 _ rfl rfl rfl rfl) relL_nil)) (js hJ hx), trivial⟩ (nx (tr_ret (fun a w h => leave1' (m := 0) rfl h rfl rfl)))))))

theorem p_IndexFuncS {J : World → Prop} (hJ : Stab J) (xs : List ByteArray) (f : FuncId) (caps : List AV) (Os : List OB) (p : ByteArray → Bool) (hf : ∀ q', FnR Tryz.prog J f Os ([.str (q')] ++ caps) (.bool (p q'))) (hk0 : CallOk Tryz.prog f) : FnR Tryz.prog J 129 Os [.rd (strsC xs), .fn f caps] (.int (idxF p xs)) := by
 refine fn_enterR (N := 19) Tryz.func129 rfl rfl (lb rfl) fun S w0 hS hJ0 hH => ?_
 clear hJ0
 refine tr_fact (fun a w h => len_le h 0 rfl) fun hl1 => k_seq (rg tb hJ [0, 1] [_] [] [(_, _), (_, _)] rfl rfl rfl rfl trivial (nx (k_seq (k_seq (rg tb hJ [0, 1, 1001, 1002] [_, _, _] [1] [(_, _), (_, _), (_, .int (((xs.length : Nat) : Int))), (_, .int (0 : Int))] rfl rfl rfl rfl ⟨hLen unds_22_9 rfl rfl rfl rfl, trivial⟩ (nx (tr_block (tr_loop (ι := Nat) (fun (k : Nat) a w => ((k ≤ xs.length) ∧ (∀ j, j < k → p (ge xs j) = false)) ∧ St All S w0 19 [(0, .rd (strsC xs)), (1, .fn f caps), (7, .int (((xs.length : Nat) : Int))), (8, .int (((k : Nat) : Int)))] J a w) (fun (k : Nat) => (xs.length - k : Nat)) ?_ ?_))))))))
 ·
  intro a w h
  exact ⟨0, (show (0 ≤ xs.length) ∧ (∀ j, j < 0 → p (ge xs j) = false) from ⟨Nat.zero_le _, fun j hj => by omega⟩), lz [0, 1, 2, 3] rfl h⟩
 ·
  rintro k
  refine tr_and fun hF => ?_
  obtain ⟨f1_1, f1_2⟩ := hF
  refine k_seq (rg tb hJ [0, 1, 2, 3, 1000] [_] [] [(_, _), (_, _), (_, _), (_, _), (_, .bool (decide (((k : Nat) : Int) < ((xs.length : Nat) : Int))))] rfl rfl rfl rfl trivial (nx (k_seq (tc 4 rfl rfl (fun hb1 => ?_) (fun hb1 => ?_)))))
  ·
   try simp at hb1
   refine tr_skip (nx (k_seq (tr_block (k_seq (rg tb hJ [0, 1, 2, 3, 1001] [_, _] [] [(_, _), (_, _), (_, _), (_, _), (_, .int (((k : Nat) : Int)))] rfl rfl rfl rfl trivial (nx (k_seq (rg tb hJ [0, 1, 2, 3, 4, 1005] [_, _, _, .ptr [.lit (.string (ge xs k))], _, _] [3, 5] [(_, _), (_, _), (_, _), (_, _), (_, _), (_, .bool (p (ge xs k)))] rfl rfl rfl rfl ⟨hIx elem_22_9_1 (by first | omega | (simp; omega) | grind [ge_mem]) rfl rfl rfl rfl rfl rfl, fun _ _ hk hx hl _ => r_fnv (hf (ge xs k)) hk0 rfl (hl.dep 0 11 _ rfl rfl rfl rfl) (nm hS hk) (hx) (fun _ ho => has_now hH hk ho) (relL_cons (hl.dep 4 15 _ rfl rfl rfl rfl) relL_nil) (js hJ hx), trivial⟩ (nx (tc 5 rfl rfl (fun hb2 => ?_) (fun hb2 => ?_)))))))))))
   ·
    try simp at hb2
    refine k_seq (rg tb hJ [1001] [_, _] [] [(_, .int (((k : Nat) : Int)))] rfl rfl rfl rfl trivial (nx (tr_ret (fun a w h => leave1' (m := 0) rfl h rfl (congrArg AV.int (show (((k : Nat) : Int)) = (idxF p xs) from by first | exact (idxF_hit hb1 hb2 f1_2).symm | exact (idxF_none fun j hj => f1_2 j (by omega)).symm))))))
   ·
    try simp at hb2
    refine tr_skip (nx (rg tb hJ [0, 1, 2, 1001] [.int (((k + 1 : Nat) : Int)), _] [0] [(_, _), (_, _), (_, _), (_, .int (((k + 1 : Nat) : Int)))] rfl rfl rfl rfl ⟨hAdd (by first | omega | (simp; omega) | grind [ge_mem]) rfl rfl rfl rfl rfl, trivial⟩ ?_))
    intro a w h; change ∃ j, _ ∧ _
    exact ⟨k + 1, ⟨⟨(show (k + 1) ≤ xs.length from by omega), (show ∀ j, j < (k + 1) → p (ge xs j) = false from step_all f1_2 hb2)⟩, lz [0, 1, 2, 3] rfl h⟩, (show xs.length - (k + 1) < xs.length - k from by first | omega | (simp; omega))⟩
  ·
   try simp at hb1
   refine tr_exit (nx (k_seq (rg tb hJ [1000] [_] [] [(_, .int (-1 : Int))] rfl rfl rfl rfl trivial (nx (tr_ret (fun a w h => leave1' (m := 0) rfl h rfl (congrArg AV.int (show (-1 : Int) = (idxF p xs) from by first | exact (idxF_hit hb1 hb2 f1_2).symm | exact (idxF_none fun j hj => f1_2 j (by omega)).symm))))))))

end Go.Proofs.YtnpgmdffjemnbaaGreatDoor
set_option maxHeartbeats 8000000
set_option maxRecDepth 100000
namespace Go.Proofs.YtnpgmdffjemnbaaGreatDoor
open Go.RowKit

theorem p_ContainsFuncS {J : World → Prop} (hJ : Stab J) (xs : List ByteArray) (f : FuncId) (caps : List AV) (Os : List OB) (p : ByteArray → Bool) (hf : ∀ q', FnR Tryz.prog J f Os ([.str (q')] ++ caps) (.bool (p q'))) (hk0 : CallOk Tryz.prog f) : FnR Tryz.prog J 93 Os [.rd (strsC xs), .fn f caps] (.bool (xs.any p)) := by
 refine fn_enterR (N := 9) Tryz.func93 rfl rfl (lb rfl) fun S w0 hS hJ0 hH => ?_
 clear hJ0
 refine tr_fact (fun a w h => len_le h 0 rfl) fun hl1 => k_seq (rg tb hJ [0, 1] [_] [] [(_, _), (_, _)] rfl rfl rfl rfl trivial (nx (k_seq (rg tb hJ [1004] [_, _, .int (idxF p xs), _, _] [2] [(_, .bool (decide ((0 : Int) ≤ idxF p xs)))] rfl rfl rfl rfl ⟨fun _ _ hk hx hl _ => r_fnR (p_IndexFuncS hJ (xs := xs) (f := f) (caps := caps) (Os := Os) (p := p) (hf) (hk0)) call_129 rfl (nm hS hk) (hx) (fun _ ho => has_now hH hk ho) (relL_cons (hl.dep 0 5 _ rfl rfl rfl rfl) (relL_cons (hl.dep 1 6 _ rfl rfl rfl rfl) relL_nil)) (js hJ hx), trivial⟩ (nx (tr_ret (fun a w h => leave1' (m := 0) rfl h rfl (congrArg AV.bool (show (decide ((0 : Int) ≤ idxF p xs)) = (xs.any p) from by rw [← idxF_any])))))))))

theorem p_IndexFuncH {J : World → Prop} (hJ : Stab J) (xs : List Hy) (f : FuncId) (caps : List AV) (Os : List OB) (p : Hy → Bool) (hf : ∀ q', FnR Tryz.prog J f Os ([.agg (hyC (q'))] ++ caps) (.bool (p q'))) (hk0 : CallOk Tryz.prog f) : FnR Tryz.prog J 131 Os [.rd (hysC xs), .fn f caps] (.int (idxF p xs)) := by
 refine fn_enterR (N := 19) Tryz.func131 rfl rfl (lb rfl) fun S w0 hS hJ0 hH => ?_
 clear hJ0
 refine tr_fact (fun a w h => len_le h 0 rfl) fun hl1 => k_seq (rg tb hJ [0, 1] [_] [] [(_, _), (_, _)] rfl rfl rfl rfl trivial (nx (k_seq (k_seq (rg tb hJ [0, 1, 1001, 1002] [_, _, _] [1] [(_, _), (_, _), (_, .int (((xs.length : Nat) : Int))), (_, .int (0 : Int))] rfl rfl rfl rfl ⟨hLen unds_56_109 rfl rfl rfl rfl, trivial⟩ (nx (tr_block (tr_loop (ι := Nat) (fun (k : Nat) a w => ((k ≤ xs.length) ∧ (∀ j, j < k → p (ge xs j) = false)) ∧ St All S w0 19 [(0, .rd (hysC xs)), (1, .fn f caps), (7, .int (((xs.length : Nat) : Int))), (8, .int (((k : Nat) : Int)))] J a w) (fun (k : Nat) => (xs.length - k : Nat)) ?_ ?_))))))))
 ·
  intro a w h
  exact ⟨0, (show (0 ≤ xs.length) ∧ (∀ j, j < 0 → p (ge xs j) = false) from ⟨Nat.zero_le _, fun j hj => by omega⟩), lz [0, 1, 2, 3] rfl h⟩
 ·
  rintro k
  refine tr_and fun hF => ?_
  obtain ⟨f1_1, f1_2⟩ := hF
  refine k_seq (rg tb hJ [0, 1, 2, 3, 1000] [_] [] [(_, _), (_, _), (_, _), (_, _), (_, .bool (decide (((k : Nat) : Int) < ((xs.length : Nat) : Int))))] rfl rfl rfl rfl trivial (nx (k_seq (tc 4 rfl rfl (fun hb1 => ?_) (fun hb1 => ?_)))))
  ·
   try simp at hb1
   refine tr_skip (nx (k_seq (tr_block (k_seq (rg tb hJ [0, 1, 2, 3, 1001] [_, _] [] [(_, _), (_, _), (_, _), (_, _), (_, .int (((k : Nat) : Int)))] rfl rfl rfl rfl trivial (nx (k_seq (rg tb hJ [0, 1, 2, 3, 4, 1005] [_, _, _, .ptr (hyC (ge xs k)), _, _] [3, 5] [(_, _), (_, _), (_, _), (_, _), (_, _), (_, .bool (p (ge xs k)))] rfl rfl rfl rfl ⟨hIx elem_56_109_3 (by first | omega | (simp; omega) | grind [ge_mem]) rfl rfl rfl rfl rfl rfl, fun _ _ hk hx hl _ => r_fnv (hf (ge xs k)) hk0 rfl (hl.dep 0 11 _ rfl rfl rfl rfl) (nm hS hk) (hx) (fun _ ho => has_now hH hk ho) (relL_cons (hl.dep 4 15 _ rfl rfl rfl rfl) relL_nil) (js hJ hx), trivial⟩ (nx (tc 5 rfl rfl (fun hb2 => ?_) (fun hb2 => ?_)))))))))))
   ·
    try simp at hb2
    refine k_seq (rg tb hJ [1001] [_, _] [] [(_, .int (((k : Nat) : Int)))] rfl rfl rfl rfl trivial (nx (tr_ret (fun a w h => leave1' (m := 0) rfl h rfl (congrArg AV.int (show (((k : Nat) : Int)) = (idxF p xs) from by first | exact (idxF_hit hb1 hb2 f1_2).symm | exact (idxF_none fun j hj => f1_2 j (by omega)).symm))))))
   ·
    try simp at hb2
    refine tr_skip (nx (rg tb hJ [0, 1, 2, 1001] [.int (((k + 1 : Nat) : Int)), _] [0] [(_, _), (_, _), (_, _), (_, .int (((k + 1 : Nat) : Int)))] rfl rfl rfl rfl ⟨hAdd (by first | omega | (simp; omega) | grind [ge_mem]) rfl rfl rfl rfl rfl, trivial⟩ ?_))
    intro a w h; change ∃ j, _ ∧ _
    exact ⟨k + 1, ⟨⟨(show (k + 1) ≤ xs.length from by omega), (show ∀ j, j < (k + 1) → p (ge xs j) = false from step_all f1_2 hb2)⟩, lz [0, 1, 2, 3] rfl h⟩, (show xs.length - (k + 1) < xs.length - k from by first | omega | (simp; omega))⟩
  ·
   try simp at hb1
   refine tr_exit (nx (k_seq (rg tb hJ [1000] [_] [] [(_, .int (-1 : Int))] rfl rfl rfl rfl trivial (nx (tr_ret (fun a w h => leave1' (m := 0) rfl h rfl (congrArg AV.int (show (-1 : Int) = (idxF p xs) from by first | exact (idxF_hit hb1 hb2 f1_2).symm | exact (idxF_none fun j hj => f1_2 j (by omega)).symm))))))))

theorem p_ContainsFuncH {J : World → Prop} (hJ : Stab J) (xs : List Hy) (f : FuncId) (caps : List AV) (Os : List OB) (p : Hy → Bool) (hf : ∀ q', FnR Tryz.prog J f Os ([.agg (hyC (q'))] ++ caps) (.bool (p q'))) (hk0 : CallOk Tryz.prog f) : FnR Tryz.prog J 97 Os [.rd (hysC xs), .fn f caps] (.bool (xs.any p)) := by
 refine fn_enterR (N := 9) Tryz.func97 rfl rfl (lb rfl) fun S w0 hS hJ0 hH => ?_
 clear hJ0
 refine tr_fact (fun a w h => len_le h 0 rfl) fun hl1 => k_seq (rg tb hJ [0, 1] [_] [] [(_, _), (_, _)] rfl rfl rfl rfl trivial (nx (k_seq (rg tb hJ [1004] [_, _, .int (idxF p xs), _, _] [2] [(_, .bool (decide ((0 : Int) ≤ idxF p xs)))] rfl rfl rfl rfl ⟨fun _ _ hk hx hl _ => r_fnR (p_IndexFuncH hJ (xs := xs) (f := f) (caps := caps) (Os := Os) (p := p) (hf) (hk0)) call_131 rfl (nm hS hk) (hx) (fun _ ho => has_now hH hk ho) (relL_cons (hl.dep 0 5 _ rfl rfl rfl rfl) (relL_cons (hl.dep 1 6 _ rfl rfl rfl rfl) relL_nil)) (js hJ hx), trivial⟩ (nx (tr_ret (fun a w h => leave1' (m := 0) rfl h rfl (congrArg AV.bool (show (decide ((0 : Int) ≤ idxF p xs)) = (xs.any p) from by rw [← idxF_any])))))))))

theorem p_IndexFuncP {J : World → Prop} (hJ : Stab J) (xs : List Pr) (f : FuncId) (caps : List AV) (Os : List OB) (p : Pr → Bool) (hf : ∀ q', FnR Tryz.prog J f Os ([.agg (prC (q'))] ++ caps) (.bool (p q'))) (hk0 : CallOk Tryz.prog f) : FnR Tryz.prog J 174 Os [.rd (prsC xs), .fn f caps] (.int (idxF p xs)) := by
 refine fn_enterR (N := 19) Tryz.func174 rfl rfl (lb rfl) fun S w0 hS hJ0 hH => ?_
 clear hJ0
 refine tr_fact (fun a w h => len_le h 0 rfl) fun hl1 => k_seq (rg tb hJ [0, 1] [_] [] [(_, _), (_, _)] rfl rfl rfl rfl trivial (nx (k_seq (k_seq (rg tb hJ [0, 1, 1001, 1002] [_, _, _] [1] [(_, _), (_, _), (_, .int (((xs.length : Nat) : Int))), (_, .int (0 : Int))] rfl rfl rfl rfl ⟨hLen unds_57_148 rfl rfl rfl rfl, trivial⟩ (nx (tr_block (tr_loop (ι := Nat) (fun (k : Nat) a w => ((k ≤ xs.length) ∧ (∀ j, j < k → p (ge xs j) = false)) ∧ St All S w0 19 [(0, .rd (prsC xs)), (1, .fn f caps), (7, .int (((xs.length : Nat) : Int))), (8, .int (((k : Nat) : Int)))] J a w) (fun (k : Nat) => (xs.length - k : Nat)) ?_ ?_))))))))
 ·
  intro a w h
  exact ⟨0, (show (0 ≤ xs.length) ∧ (∀ j, j < 0 → p (ge xs j) = false) from ⟨Nat.zero_le _, fun j hj => by omega⟩), lz [0, 1, 2, 3] rfl h⟩
 ·
  rintro k
  refine tr_and fun hF => ?_
  obtain ⟨f1_1, f1_2⟩ := hF
  refine k_seq (rg tb hJ [0, 1, 2, 3, 1000] [_] [] [(_, _), (_, _), (_, _), (_, _), (_, .bool (decide (((k : Nat) : Int) < ((xs.length : Nat) : Int))))] rfl rfl rfl rfl trivial (nx (k_seq (tc 4 rfl rfl (fun hb1 => ?_) (fun hb1 => ?_)))))
  ·
   try simp at hb1
   refine tr_skip (nx (k_seq (tr_block (k_seq (rg tb hJ [0, 1, 2, 3, 1001] [_, _] [] [(_, _), (_, _), (_, _), (_, _), (_, .int (((k : Nat) : Int)))] rfl rfl rfl rfl trivial (nx (k_seq (rg tb hJ [0, 1, 2, 3, 4, 1005] [_, _, _, .ptr (prC (ge xs k)), _, _] [3, 5] [(_, _), (_, _), (_, _), (_, _), (_, _), (_, .bool (p (ge xs k)))] rfl rfl rfl rfl ⟨hIx elem_57_148_2 (by first | omega | (simp; omega) | grind [ge_mem]) rfl rfl rfl rfl rfl rfl, fun _ _ hk hx hl _ => r_fnv (hf (ge xs k)) hk0 rfl (hl.dep 0 11 _ rfl rfl rfl rfl) (nm hS hk) (hx) (fun _ ho => has_now hH hk ho) (relL_cons (hl.dep 4 15 _ rfl rfl rfl rfl) relL_nil) (js hJ hx), trivial⟩ (nx (tc 5 rfl rfl (fun hb2 => ?_) (fun hb2 => ?_)))))))))))
   ·
    try simp at hb2
    refine k_seq (rg tb hJ [1001] [_, _] [] [(_, .int (((k : Nat) : Int)))] rfl rfl rfl rfl trivial (nx (tr_ret (fun a w h => leave1' (m := 0) rfl h rfl (congrArg AV.int (show (((k : Nat) : Int)) = (idxF p xs) from by first | exact (idxF_hit hb1 hb2 f1_2).symm | exact (idxF_none fun j hj => f1_2 j (by omega)).symm))))))
   ·
    try simp at hb2
    refine tr_skip (nx (rg tb hJ [0, 1, 2, 1001] [.int (((k + 1 : Nat) : Int)), _] [0] [(_, _), (_, _), (_, _), (_, .int (((k + 1 : Nat) : Int)))] rfl rfl rfl rfl ⟨hAdd (by first | omega | (simp; omega) | grind [ge_mem]) rfl rfl rfl rfl rfl, trivial⟩ ?_))
    intro a w h; change ∃ j, _ ∧ _
    exact ⟨k + 1, ⟨⟨(show (k + 1) ≤ xs.length from by omega), (show ∀ j, j < (k + 1) → p (ge xs j) = false from step_all f1_2 hb2)⟩, lz [0, 1, 2, 3] rfl h⟩, (show xs.length - (k + 1) < xs.length - k from by first | omega | (simp; omega))⟩
  ·
   try simp at hb1
   refine tr_exit (nx (k_seq (rg tb hJ [1000] [_] [] [(_, .int (-1 : Int))] rfl rfl rfl rfl trivial (nx (tr_ret (fun a w h => leave1' (m := 0) rfl h rfl (congrArg AV.int (show (-1 : Int) = (idxF p xs) from by first | exact (idxF_hit hb1 hb2 f1_2).symm | exact (idxF_none fun j hj => f1_2 j (by omega)).symm))))))))

theorem p_IndexFuncF {J : World → Prop} (hJ : Stab J) (xs : List Fr) (f : FuncId) (caps : List AV) (Os : List OB) (p : Fr → Bool) (hf : ∀ q', FnR Tryz.prog J f Os ([.agg (frC (q'))] ++ caps) (.bool (p q'))) (hk0 : CallOk Tryz.prog f) : FnR Tryz.prog J 69 Os [.rd (frsC xs), .fn f caps] (.int (idxF p xs)) := by
 refine fn_enterR (N := 19) Tryz.func69 rfl rfl (lb rfl) fun S w0 hS hJ0 hH => ?_
 clear hJ0
 refine tr_fact (fun a w h => len_le h 0 rfl) fun hl1 => k_seq (rg tb hJ [0, 1] [_] [] [(_, _), (_, _)] rfl rfl rfl rfl trivial (nx (k_seq (k_seq (rg tb hJ [0, 1, 1001, 1002] [_, _, _] [1] [(_, _), (_, _), (_, .int (((xs.length : Nat) : Int))), (_, .int (0 : Int))] rfl rfl rfl rfl ⟨hLen unds_23_59 rfl rfl rfl rfl, trivial⟩ (nx (tr_block (tr_loop (ι := Nat) (fun (k : Nat) a w => ((k ≤ xs.length) ∧ (∀ j, j < k → p (ge xs j) = false)) ∧ St All S w0 19 [(0, .rd (frsC xs)), (1, .fn f caps), (7, .int (((xs.length : Nat) : Int))), (8, .int (((k : Nat) : Int)))] J a w) (fun (k : Nat) => (xs.length - k : Nat)) ?_ ?_))))))))
 ·
  intro a w h
  exact ⟨0, (show (0 ≤ xs.length) ∧ (∀ j, j < 0 → p (ge xs j) = false) from ⟨Nat.zero_le _, fun j hj => by omega⟩), lz [0, 1, 2, 3] rfl h⟩
 ·
  rintro k
  refine tr_and fun hF => ?_
  obtain ⟨f1_1, f1_2⟩ := hF
  refine k_seq (rg tb hJ [0, 1, 2, 3, 1000] [_] [] [(_, _), (_, _), (_, _), (_, _), (_, .bool (decide (((k : Nat) : Int) < ((xs.length : Nat) : Int))))] rfl rfl rfl rfl trivial (nx (k_seq (tc 4 rfl rfl (fun hb1 => ?_) (fun hb1 => ?_)))))
  ·
   try simp at hb1
   refine tr_skip (nx (k_seq (tr_block (k_seq (rg tb hJ [0, 1, 2, 3, 1001] [_, _] [] [(_, _), (_, _), (_, _), (_, _), (_, .int (((k : Nat) : Int)))] rfl rfl rfl rfl trivial (nx (k_seq (rg tb hJ [0, 1, 2, 3, 4, 1005] [_, _, _, .ptr (frC (ge xs k)), _, _] [3, 5] [(_, _), (_, _), (_, _), (_, _), (_, _), (_, .bool (p (ge xs k)))] rfl rfl rfl rfl ⟨hIx elem_23_59_8 (by first | omega | (simp; omega) | grind [ge_mem]) rfl rfl rfl rfl rfl rfl, fun _ _ hk hx hl _ => r_fnv (hf (ge xs k)) hk0 rfl (hl.dep 0 11 _ rfl rfl rfl rfl) (nm hS hk) (hx) (fun _ ho => has_now hH hk ho) (relL_cons (hl.dep 4 15 _ rfl rfl rfl rfl) relL_nil) (js hJ hx), trivial⟩ (nx (tc 5 rfl rfl (fun hb2 => ?_) (fun hb2 => ?_)))))))))))
   ·
    try simp at hb2
    refine k_seq (rg tb hJ [1001] [_, _] [] [(_, .int (((k : Nat) : Int)))] rfl rfl rfl rfl trivial (nx (tr_ret (fun a w h => leave1' (m := 0) rfl h rfl (congrArg AV.int (show (((k : Nat) : Int)) = (idxF p xs) from by first | exact (idxF_hit hb1 hb2 f1_2).symm | exact (idxF_none fun j hj => f1_2 j (by omega)).symm))))))
   ·
    try simp at hb2
    refine tr_skip (nx (rg tb hJ [0, 1, 2, 1001] [.int (((k + 1 : Nat) : Int)), _] [0] [(_, _), (_, _), (_, _), (_, .int (((k + 1 : Nat) : Int)))] rfl rfl rfl rfl ⟨hAdd (by first | omega | (simp; omega) | grind [ge_mem]) rfl rfl rfl rfl rfl, trivial⟩ ?_))
    intro a w h; change ∃ j, _ ∧ _
    exact ⟨k + 1, ⟨⟨(show (k + 1) ≤ xs.length from by omega), (show ∀ j, j < (k + 1) → p (ge xs j) = false from step_all f1_2 hb2)⟩, lz [0, 1, 2, 3] rfl h⟩, (show xs.length - (k + 1) < xs.length - k from by first | omega | (simp; omega))⟩
  ·
   try simp at hb1
   refine tr_exit (nx (k_seq (rg tb hJ [1000] [_] [] [(_, .int (-1 : Int))] rfl rfl rfl rfl trivial (nx (tr_ret (fun a w h => leave1' (m := 0) rfl h rfl (congrArg AV.int (show (-1 : Int) = (idxF p xs) from by first | exact (idxF_hit hb1 hb2 f1_2).symm | exact (idxF_none fun j hj => f1_2 j (by omega)).symm))))))))

theorem p_ContainsFuncF {J : World → Prop} (hJ : Stab J) (xs : List Fr) (f : FuncId) (caps : List AV) (Os : List OB) (p : Fr → Bool) (hf : ∀ q', FnR Tryz.prog J f Os ([.agg (frC (q'))] ++ caps) (.bool (p q'))) (hk0 : CallOk Tryz.prog f) : FnR Tryz.prog J 40 Os [.rd (frsC xs), .fn f caps] (.bool (xs.any p)) := by
 refine fn_enterR (N := 9) Tryz.func40 rfl rfl (lb rfl) fun S w0 hS hJ0 hH => ?_
 clear hJ0
 refine tr_fact (fun a w h => len_le h 0 rfl) fun hl1 => k_seq (rg tb hJ [0, 1] [_] [] [(_, _), (_, _)] rfl rfl rfl rfl trivial (nx (k_seq (rg tb hJ [1004] [_, _, .int (idxF p xs), _, _] [2] [(_, .bool (decide ((0 : Int) ≤ idxF p xs)))] rfl rfl rfl rfl ⟨fun _ _ hk hx hl _ => r_fnR (p_IndexFuncF hJ (xs := xs) (f := f) (caps := caps) (Os := Os) (p := p) (hf) (hk0)) call_69 rfl (nm hS hk) (hx) (fun _ ho => has_now hH hk ho) (relL_cons (hl.dep 0 5 _ rfl rfl rfl rfl) (relL_cons (hl.dep 1 6 _ rfl rfl rfl rfl) relL_nil)) (js hJ hx), trivial⟩ (nx (tr_ret (fun a w h => leave1' (m := 0) rfl h rfl (congrArg AV.bool (show (decide ((0 : Int) ≤ idxF p xs)) = (xs.any p) from by rw [← idxF_any])))))))))

theorem p_EqualS {J : World → Prop} (hJ : Stab J) (xs : List ByteArray) (ys : List ByteArray)  : Fn Tryz.prog J 154 [.rd (strsC xs), .rd (strsC ys)] (.bool (decide (xs = ys))) := by
 refine fn_enter (N := 26) Tryz.func154 rfl rfl (lb rfl) fun S w0 hS hJ0 => ?_
 clear hJ0
 refine tr_fact (fun a w h => len_le h 0 rfl) fun hl1 => tr_fact (fun a w h => len_le h 1 rfl) fun hl2 => k_seq (rg tb hJ [0, 1] [_] [] [(_, _), (_, _)] rfl rfl rfl rfl trivial (nx (k_seq (k_seq (rg tb hJ [0, 1, 1004] [_, .int (((xs.length : Nat) : Int)), _, .int (((ys.length : Nat) : Int)), _] [1, 3] [(_, _), (_, _), (_, .bool (!decide (((xs.length : Nat) : Int) = ((ys.length : Nat) : Int))))] rfl rfl rfl rfl ⟨hLen unds_22_9 rfl rfl rfl rfl, hLen unds_22_9 rfl rfl rfl rfl, trivial⟩ (nx (tc 2 rfl rfl (fun hb1 => ?_) (fun hb1 => ?_))))))))
 ·
  try simp at hb1
  refine k_seq (rg tb hJ [1000] [_] [] [(_, .bool false)] rfl rfl rfl rfl trivial (nx (tr_ret (fun a w h => leave1' (m := 0) rfl h rfl (congrArg AV.bool (show false = (decide (xs = ys)) from by first | (have := ext_ge (xs := xs) (ys := ys) (by omega) (fun j hj => f1_2 j (by omega)); simp [this]; done) | (symm; rw [decide_eq_false_iff_not]; intro e; subst e; simp_all; done)))))))
 ·
  try simp at hb1
  refine tr_skip (nx (k_seq (k_seq (rg tb hJ [0, 1, 1001, 1002] [_, _, _] [1] [(_, _), (_, _), (_, .int (((xs.length : Nat) : Int))), (_, .int (0 : Int))] rfl rfl rfl rfl ⟨hLen unds_22_9 rfl rfl rfl rfl, trivial⟩ (nx (tr_block (tr_loop (ι := Nat) (fun (k : Nat) a w => ((k ≤ xs.length) ∧ (∀ j, j < k → ge xs j = ge ys j)) ∧ St All S w0 26 [(0, .rd (strsC xs)), (1, .rd (strsC ys)), (12, .int (((xs.length : Nat) : Int))), (13, .int (((k : Nat) : Int)))] J a w) (fun (k : Nat) => (xs.length - k : Nat)) ?_ ?_)))))))
  ·
   intro a w h
   exact ⟨0, (show (0 ≤ xs.length) ∧ (∀ j, j < 0 → ge xs j = ge ys j) from ⟨Nat.zero_le _, fun j hj => by omega⟩), lz [0, 1, 2, 3] rfl h⟩
  ·
   rintro k
   refine tr_and fun hF => ?_
   obtain ⟨f1_1, f1_2⟩ := hF
   refine k_seq (rg tb hJ [0, 1, 2, 3, 1000] [_] [] [(_, _), (_, _), (_, _), (_, _), (_, .bool (decide (((k : Nat) : Int) < ((xs.length : Nat) : Int))))] rfl rfl rfl rfl trivial (nx (k_seq (tc 4 rfl rfl (fun hb2 => ?_) (fun hb2 => ?_)))))
   ·
    try simp at hb2
    refine tr_skip (nx (k_seq (tr_block (k_seq (rg tb hJ [0, 1, 2, 3, 1001] [_, _] [] [(_, _), (_, _), (_, _), (_, _), (_, .int (((k : Nat) : Int)))] rfl rfl rfl rfl trivial (nx (k_seq (rg tb hJ [0, 1, 2, 3, 1008] [_, _, .ptr [.lit (.string (ge xs k))], _, _, _, .ptr [.lit (.string (ge ys k))], _, _] [2, 6] [(_, _), (_, _), (_, _), (_, _), (_, .bool (!decide ((ge xs k) = (ge ys k))))] rfl rfl rfl rfl ⟨hIx elem_22_9_1 (by first | omega | (simp; omega) | grind [ge_mem]) rfl rfl rfl rfl rfl rfl, hIx elem_22_9_1 (by first | omega | (simp; omega) | grind [ge_mem]) rfl rfl rfl rfl rfl rfl, trivial⟩ (nx (tc 4 rfl rfl (fun hb3 => ?_) (fun hb3 => ?_)))))))))))
    ·
     try simp at hb3
     refine k_seq (rg tb hJ [1000] [_] [] [(_, .bool false)] rfl rfl rfl rfl trivial (nx (tr_ret (fun a w h => leave1' (m := 0) rfl h rfl (congrArg AV.bool (show false = (decide (xs = ys)) from by first | (have := ext_ge (xs := xs) (ys := ys) (by omega) (fun j hj => f1_2 j (by omega)); simp [this]; done) | (symm; rw [decide_eq_false_iff_not]; intro e; subst e; simp_all; done)))))))
    ·
     try simp at hb3
     refine tr_skip (nx (rg tb hJ [0, 1, 2, 1001] [.int (((k + 1 : Nat) : Int)), _] [0] [(_, _), (_, _), (_, _), (_, .int (((k + 1 : Nat) : Int)))] rfl rfl rfl rfl ⟨hAdd (by first | omega | (simp; omega) | grind [ge_mem]) rfl rfl rfl rfl rfl, trivial⟩ ?_))
     intro a w h; change ∃ j, _ ∧ _
     exact ⟨k + 1, ⟨⟨(show (k + 1) ≤ xs.length from by omega), (show ∀ j, j < (k + 1) → ge xs j = ge ys j from step_all f1_2 hb3)⟩, lz [0, 1, 2, 3] rfl h⟩, (show xs.length - (k + 1) < xs.length - k from by first | omega | (simp; omega))⟩
   ·
    try simp at hb2
    refine tr_exit (nx (k_seq (rg tb hJ [1000] [_] [] [(_, .bool true)] rfl rfl rfl rfl trivial (nx (tr_ret (fun a w h => leave1' (m := 0) rfl h rfl (congrArg AV.bool (show true = (decide (xs = ys)) from by first | (have := ext_ge (xs := xs) (ys := ys) (by omega) (fun j hj => f1_2 j (by omega)); simp [this]; done) | (symm; rw [decide_eq_false_iff_not]; intro e; subst e; simp_all; done)))))))))

theorem p_EqualI {J : World → Prop} (hJ : Stab J) (xs : List Int) (ys : List Int)  : Fn Tryz.prog J 14 [.rd (intsC xs), .rd (intsC ys)] (.bool (decide (xs = ys))) := by
 refine fn_enter (N := 26) Tryz.func14 rfl rfl (lb rfl) fun S w0 hS hJ0 => ?_
 clear hJ0
 refine tr_fact (fun a w h => len_le h 0 rfl) fun hl1 => tr_fact (fun a w h => len_le h 1 rfl) fun hl2 => k_seq (rg tb hJ [0, 1] [_] [] [(_, _), (_, _)] rfl rfl rfl rfl trivial (nx (k_seq (k_seq (rg tb hJ [0, 1, 1004] [_, .int (((xs.length : Nat) : Int)), _, .int (((ys.length : Nat) : Int)), _] [1, 3] [(_, _), (_, _), (_, .bool (!decide (((xs.length : Nat) : Int) = ((ys.length : Nat) : Int))))] rfl rfl rfl rfl ⟨hLen unds_28_3 rfl rfl rfl rfl, hLen unds_28_3 rfl rfl rfl rfl, trivial⟩ (nx (tc 2 rfl rfl (fun hb1 => ?_) (fun hb1 => ?_))))))))
 ·
  try simp at hb1
  refine k_seq (rg tb hJ [1000] [_] [] [(_, .bool false)] rfl rfl rfl rfl trivial (nx (tr_ret (fun a w h => leave1' (m := 0) rfl h rfl (congrArg AV.bool (show false = (decide (xs = ys)) from by first | (have := ext_ge (xs := xs) (ys := ys) (by omega) (fun j hj => f1_2 j (by omega)); simp [this]; done) | (symm; rw [decide_eq_false_iff_not]; intro e; subst e; simp_all; done)))))))
 ·
  try simp at hb1
  refine tr_skip (nx (k_seq (k_seq (rg tb hJ [0, 1, 1001, 1002] [_, _, _] [1] [(_, _), (_, _), (_, .int (((xs.length : Nat) : Int))), (_, .int (0 : Int))] rfl rfl rfl rfl ⟨hLen unds_28_3 rfl rfl rfl rfl, trivial⟩ (nx (tr_block (tr_loop (ι := Nat) (fun (k : Nat) a w => ((k ≤ xs.length) ∧ (∀ j, j < k → ge xs j = ge ys j)) ∧ St All S w0 26 [(0, .rd (intsC xs)), (1, .rd (intsC ys)), (12, .int (((xs.length : Nat) : Int))), (13, .int (((k : Nat) : Int)))] J a w) (fun (k : Nat) => (xs.length - k : Nat)) ?_ ?_)))))))
  ·
   intro a w h
   exact ⟨0, (show (0 ≤ xs.length) ∧ (∀ j, j < 0 → ge xs j = ge ys j) from ⟨Nat.zero_le _, fun j hj => by omega⟩), lz [0, 1, 2, 3] rfl h⟩
  ·
   rintro k
   refine tr_and fun hF => ?_
   obtain ⟨f1_1, f1_2⟩ := hF
   refine k_seq (rg tb hJ [0, 1, 2, 3, 1000] [_] [] [(_, _), (_, _), (_, _), (_, _), (_, .bool (decide (((k : Nat) : Int) < ((xs.length : Nat) : Int))))] rfl rfl rfl rfl trivial (nx (k_seq (tc 4 rfl rfl (fun hb2 => ?_) (fun hb2 => ?_)))))
   ·
    try simp at hb2
    refine tr_skip (nx (k_seq (tr_block (k_seq (rg tb hJ [0, 1, 2, 3, 1001] [_, _] [] [(_, _), (_, _), (_, _), (_, _), (_, .int (((k : Nat) : Int)))] rfl rfl rfl rfl trivial (nx (k_seq (rg tb hJ [0, 1, 2, 3, 1008] [_, _, .ptr [.lit (.int .i64 (ge xs k))], _, _, _, .ptr [.lit (.int .i64 (ge ys k))], _, _] [2, 6] [(_, _), (_, _), (_, _), (_, _), (_, .bool (!decide ((ge xs k) = (ge ys k))))] rfl rfl rfl rfl ⟨hIx elem_28_3_1 (by first | omega | (simp; omega) | grind [ge_mem]) rfl rfl rfl rfl rfl rfl, hIx elem_28_3_1 (by first | omega | (simp; omega) | grind [ge_mem]) rfl rfl rfl rfl rfl rfl, trivial⟩ (nx (tc 4 rfl rfl (fun hb3 => ?_) (fun hb3 => ?_)))))))))))
    ·
     try simp at hb3
     refine k_seq (rg tb hJ [1000] [_] [] [(_, .bool false)] rfl rfl rfl rfl trivial (nx (tr_ret (fun a w h => leave1' (m := 0) rfl h rfl (congrArg AV.bool (show false = (decide (xs = ys)) from by first | (have := ext_ge (xs := xs) (ys := ys) (by omega) (fun j hj => f1_2 j (by omega)); simp [this]; done) | (symm; rw [decide_eq_false_iff_not]; intro e; subst e; simp_all; done)))))))
    ·
     try simp at hb3
     refine tr_skip (nx (rg tb hJ [0, 1, 2, 1001] [.int (((k + 1 : Nat) : Int)), _] [0] [(_, _), (_, _), (_, _), (_, .int (((k + 1 : Nat) : Int)))] rfl rfl rfl rfl ⟨hAdd (by first | omega | (simp; omega) | grind [ge_mem]) rfl rfl rfl rfl rfl, trivial⟩ ?_))
     intro a w h; change ∃ j, _ ∧ _
     exact ⟨k + 1, ⟨⟨(show (k + 1) ≤ xs.length from by omega), (show ∀ j, j < (k + 1) → ge xs j = ge ys j from step_all f1_2 hb3)⟩, lz [0, 1, 2, 3] rfl h⟩, (show xs.length - (k + 1) < xs.length - k from by first | omega | (simp; omega))⟩
   ·
    try simp at hb2
    refine tr_exit (nx (k_seq (rg tb hJ [1000] [_] [] [(_, .bool true)] rfl rfl rfl rfl trivial (nx (tr_ret (fun a w h => leave1' (m := 0) rfl h rfl (congrArg AV.bool (show true = (decide (xs = ys)) from by first | (have := ext_ge (xs := xs) (ys := ys) (by omega) (fun j hj => f1_2 j (by omega)); simp [this]; done) | (symm; rw [decide_eq_false_iff_not]; intro e; subst e; simp_all; done)))))))))

theorem p_CloneS {J : World → Prop} (hJ : Stab J) (xs : List ByteArray) (b : xs.length * 16 ≤ 140737488351232) : FnM (ι := Value) Tryz.prog J 132 [] [.rd (strsC xs)] [] (fun i' => .lit (i')) (fun i' => [OB.row i' 9 1 (xs.map strC)]) := by
 refine fn_enterM (N := 8) Tryz.func132 rfl rfl (lb rfl) fun S w0 R hS hJ0 hH => ?_
 refine tr_weak (B := St All (SO S (R)) w0 8 [(0, .rd (strsC xs))] (XO J S w0.heap.size (R))) ?_ fun a w h => h
 refine tr_fact (fun a w h => len_le h 0 rfl) fun hl1 => k_seq (rgo tb hJ [0] [_] [] [(_, _)] rfl rfl rfl rfl trivial (nx (k_seq (k_seq (tr_text (sv tb rfl rfl rfl rfl (sq_isNil (f := strC) (xs := xs) unds_22_9 rfl rfl rfl (lb rfl) (fun a w h => (h.get 0 rfl)) fun g1 hg1 => ?_)))))))
 refine sq_end ?_
 refine kw (lz [0, 2] (env' := [(_, _), (_, _)]) rfl) ?_
 refine nx (tc 0 rfl rfl (fun hb1 => ?_) (fun hb1 => ?_))
 ·
  try simp at hb1
  refine k_seq (rgo tb hJ [1000] [_] [] [(_, .lit (.slice none 0 0))] rfl rfl rfl rfl trivial (nx ?_))
  refine tw (st_add_nil 9 1 hJ) ?_
  refine tw (ob0 (congrArg (fun z' => OB.row (.slice none 0 0) 9 1 ((z').map strC)) (show ([] : List ByteArray) = xs from by first | exact (hg1 (by assumption)).symm | simp))) ?_
  refine tr_ret (fun a w h => leaveM1  (m := 0) (.slice none 0 0) rfl h rfl rfl)
 ·
  try simp at hb1
  refine tr_skip (nx (k_seq ?_))
  refine fun a w h => region_C (id := 3) (t := 22) (e := 9) (size := 1) (bytes := 16) (i0 := 0) (fol := 3) (d := 2) (ch := [(2, (xs.map strC))]) (fun ix' => ([.any, .rd (strsC xs), .any, .any] : List AV).getD ix' .any) (fun ix' => ([true, true, true, true] : List Bool).getD ix' true) [] (xs.map strC) (by simp) ?r3_1 hJ hJ0 h mixedE rfl rfl rfl rfl ⟨?o3_1_0, ⟨?o3_1_1, ⟨?o3_1_2, ⟨?o3_1_3, trivial⟩⟩⟩⟩ trivial (fun v2 => ?n3_1)
  case r3_1 =>
   refine Row.mk' app_22_9 ⟨_, rfl, rfl, rfl, rfl, rfl⟩ ⟨?x3_1_0, trivial⟩ ⟨_, _, _, _, rfl, rfl, rfl, rfl, rfl, rfl, rfl, rfl, rfl⟩ rfl rfl rfl
   case x3_1_0 => exact ⟨_, _, _, _, rfl, rfl, rfl, rfl, rfl, rfl, rfl, rfl, len_map (f := strC) (fun _ => rfl), (by have hm : maxLen = 9223372036854775807 := rfl; simp [upto]; first | omega | (simp; omega)), (by have hm : maxLen = 9223372036854775807 := rfl; simp [upto]; first | omega | (simp; omega)), fun _ _ _ _ _ hl => (hl.dep 1 6 _ rfl rfl rfl rfl)⟩
  case o3_1_0 => exact fun h => not_in_row rfl h
  case o3_1_1 => exact fun _ _ => ⟨rfl, fun _ _ _ hx hl _ => r_move rfl (hl.env 1 0 _ rfl rfl) hx⟩
  case o3_1_2 => exact fun h => not_in_row rfl h
  case o3_1_3 => exact fun h => not_in_row rfl h
  clear a w h
  refine nx (tr_ret (fun a w h => leaveM1  (m := 0) v2 rfl h rfl rfl))

theorem p_CloneH {J : World → Prop} (hJ : Stab J) (xs : List Hy) (b : xs.length * 48 ≤ 140737488351232) : FnM (ι := Value) Tryz.prog J 102 [] [.rd (hysC xs)] [] (fun i' => .lit (i')) (fun i' => [OB.row i' 109 3 (xs.map hyC)]) := by
 refine fn_enterM (N := 8) Tryz.func102 rfl rfl (lb rfl) fun S w0 R hS hJ0 hH => ?_
 refine tr_weak (B := St All (SO S (R)) w0 8 [(0, .rd (hysC xs))] (XO J S w0.heap.size (R))) ?_ fun a w h => h
 refine tr_fact (fun a w h => len_le h 0 rfl) fun hl1 => k_seq (rgo tb hJ [0] [_] [] [(_, _)] rfl rfl rfl rfl trivial (nx (k_seq (k_seq (tr_text (sv tb rfl rfl rfl rfl (sq_isNil (f := hyC) (xs := xs) unds_56_109 rfl rfl rfl (lb rfl) (fun a w h => (h.get 0 rfl)) fun g1 hg1 => ?_)))))))
 refine sq_end ?_
 refine kw (lz [0, 2] (env' := [(_, _), (_, _)]) rfl) ?_
 refine nx (tc 0 rfl rfl (fun hb1 => ?_) (fun hb1 => ?_))
 ·
  try simp at hb1
  refine k_seq (rgo tb hJ [1000] [_] [] [(_, .lit (.slice none 0 0))] rfl rfl rfl rfl trivial (nx ?_))
  refine tw (st_add_nil 109 3 hJ) ?_
  refine tw (ob0 (congrArg (fun z' => OB.row (.slice none 0 0) 109 3 ((z').map hyC)) (show ([] : List Hy) = xs from by first | exact (hg1 (by assumption)).symm | simp))) ?_
  refine tr_ret (fun a w h => leaveM1  (m := 0) (.slice none 0 0) rfl h rfl rfl)
 ·
  try simp at hb1
  refine tr_skip (nx (k_seq ?_))
  refine fun a w h => region_C (id := 3) (t := 56) (e := 109) (size := 3) (bytes := 48) (i0 := 0) (fol := 3) (d := 2) (ch := [(2, (xs.map hyC))]) (fun ix' => ([.any, .rd (hysC xs), .any, .any] : List AV).getD ix' .any) (fun ix' => ([true, true, true, true] : List Bool).getD ix' true) [] (xs.map hyC) (by simp) ?r3_1 hJ hJ0 h mixedE rfl rfl rfl rfl ⟨?o3_1_0, ⟨?o3_1_1, ⟨?o3_1_2, ⟨?o3_1_3, trivial⟩⟩⟩⟩ trivial (fun v2 => ?n3_1)
  case r3_1 =>
   refine Row.mk' app_56_109 ⟨_, rfl, rfl, rfl, rfl, rfl⟩ ⟨?x3_1_0, trivial⟩ ⟨_, _, _, _, rfl, rfl, rfl, rfl, rfl, rfl, rfl, rfl, rfl⟩ rfl rfl rfl
   case x3_1_0 => exact ⟨_, _, _, _, rfl, rfl, rfl, rfl, rfl, rfl, rfl, rfl, len_map (f := hyC) (fun _ => rfl), (by have hm : maxLen = 9223372036854775807 := rfl; simp [upto]; first | omega | (simp; omega)), (by have hm : maxLen = 9223372036854775807 := rfl; simp [upto]; first | omega | (simp; omega)), fun _ _ _ _ _ hl => (hl.dep 1 6 _ rfl rfl rfl rfl)⟩
  case o3_1_0 => exact fun h => not_in_row rfl h
  case o3_1_1 => exact fun _ _ => ⟨rfl, fun _ _ _ hx hl _ => r_move rfl (hl.env 1 0 _ rfl rfl) hx⟩
  case o3_1_2 => exact fun h => not_in_row rfl h
  case o3_1_3 => exact fun h => not_in_row rfl h
  clear a w h
  refine nx (tr_ret (fun a w h => leaveM1  (m := 0) v2 rfl h rfl rfl))

theorem p_CloneP {J : World → Prop} (hJ : Stab J) (xs : List Pr) (b : xs.length * 32 ≤ 140737488351232) : FnM (ι := Value) Tryz.prog J 157 [] [.rd (prsC xs)] [] (fun i' => .lit (i')) (fun i' => [OB.row i' 148 2 (xs.map prC)]) := by
 refine fn_enterM (N := 8) Tryz.func157 rfl rfl (lb rfl) fun S w0 R hS hJ0 hH => ?_
 refine tr_weak (B := St All (SO S (R)) w0 8 [(0, .rd (prsC xs))] (XO J S w0.heap.size (R))) ?_ fun a w h => h
 refine tr_fact (fun a w h => len_le h 0 rfl) fun hl1 => k_seq (rgo tb hJ [0] [_] [] [(_, _)] rfl rfl rfl rfl trivial (nx (k_seq (k_seq (tr_text (sv tb rfl rfl rfl rfl (sq_isNil (f := prC) (xs := xs) unds_57_148 rfl rfl rfl (lb rfl) (fun a w h => (h.get 0 rfl)) fun g1 hg1 => ?_)))))))
 refine sq_end ?_
 refine kw (lz [0, 2] (env' := [(_, _), (_, _)]) rfl) ?_
 refine nx (tc 0 rfl rfl (fun hb1 => ?_) (fun hb1 => ?_))
 ·
  try simp at hb1
  refine k_seq (rgo tb hJ [1000] [_] [] [(_, .lit (.slice none 0 0))] rfl rfl rfl rfl trivial (nx ?_))
  refine tw (st_add_nil 148 2 hJ) ?_
  refine tw (ob0 (congrArg (fun z' => OB.row (.slice none 0 0) 148 2 ((z').map prC)) (show ([] : List Pr) = xs from by first | exact (hg1 (by assumption)).symm | simp))) ?_
  refine tr_ret (fun a w h => leaveM1  (m := 0) (.slice none 0 0) rfl h rfl rfl)
 ·
  try simp at hb1
  refine tr_skip (nx (k_seq ?_))
  refine fun a w h => region_C (id := 3) (t := 57) (e := 148) (size := 2) (bytes := 32) (i0 := 0) (fol := 3) (d := 2) (ch := [(2, (xs.map prC))]) (fun ix' => ([.any, .rd (prsC xs), .any, .any] : List AV).getD ix' .any) (fun ix' => ([true, true, true, true] : List Bool).getD ix' true) [] (xs.map prC) (by simp) ?r3_1 hJ hJ0 h mixedE rfl rfl rfl rfl ⟨?o3_1_0, ⟨?o3_1_1, ⟨?o3_1_2, ⟨?o3_1_3, trivial⟩⟩⟩⟩ trivial (fun v2 => ?n3_1)
  case r3_1 =>
   refine Row.mk' app_57_148 ⟨_, rfl, rfl, rfl, rfl, rfl⟩ ⟨?x3_1_0, trivial⟩ ⟨_, _, _, _, rfl, rfl, rfl, rfl, rfl, rfl, rfl, rfl, rfl⟩ rfl rfl rfl
   case x3_1_0 => exact ⟨_, _, _, _, rfl, rfl, rfl, rfl, rfl, rfl, rfl, rfl, len_map (f := prC) (fun _ => rfl), (by have hm : maxLen = 9223372036854775807 := rfl; simp [upto]; first | omega | (simp; omega)), (by have hm : maxLen = 9223372036854775807 := rfl; simp [upto]; first | omega | (simp; omega)), fun _ _ _ _ _ hl => (hl.dep 1 6 _ rfl rfl rfl rfl)⟩
  case o3_1_0 => exact fun h => not_in_row rfl h
  case o3_1_1 => exact fun _ _ => ⟨rfl, fun _ _ _ hx hl _ => r_move rfl (hl.env 1 0 _ rfl rfl) hx⟩
  case o3_1_2 => exact fun h => not_in_row rfl h
  case o3_1_3 => exact fun h => not_in_row rfl h
  clear a w h
  refine nx (tr_ret (fun a w h => leaveM1  (m := 0) v2 rfl h rfl rfl))

end Go.Proofs.YtnpgmdffjemnbaaGreatDoor
set_option maxHeartbeats 8000000
set_option maxRecDepth 100000
namespace Go.Proofs.YtnpgmdffjemnbaaGreatDoor
open Go.RowKit

theorem p_DeleteFuncH {J : World → Prop} (hJ : Stab J) (v : Value) (xs : List Hy) (f : FuncId) (caps : List AV) (Os : List OB) (Hs : List OB) (p : Hy → Bool) (hf : ∀ q', FnR Tryz.prog J f (Os ++ Hs) ([.agg (hyC (q'))] ++ caps) (.bool (p q'))) (hk0 : CallOk Tryz.prog f) (hn : xs.length ≤ 9223372036854775807) : FnM (ι := Unit) Tryz.prog J 101 Hs [.lit v, .fn f caps] (OB.row v 109 3 (xs.map hyC) :: Os) (fun _ => .rd (hysC (xs.filter fun x' => !p x'))) (fun _ => (Os)) := by
 refine fn_enterM (N := 42) Tryz.func101 rfl rfl (lb rfl) fun S w0 R hS hJ0 hH => ?_
 refine tr_weak (B := St All (SO S (OB.row v 109 3 (xs.map hyC) :: (Os ++ R))) w0 42 [(0, .lit v), (1, .fn f caps)] (XO J S w0.heap.size (OB.row v 109 3 (xs.map hyC) :: (Os ++ R)))) ?_ fun a w h => h
 refine k_seq (rgo tb hJ [0, 1] [_] [] [(_, _), (_, _)] rfl rfl rfl rfl trivial (nx (k_seq (rgr tb hJ [0, 1, 1003] [_, _, .int (idxF p xs), _] [2] [(_, _), (_, _), (_, .int (idxF p xs))] rfl rfl rfl rfl ⟨fun _ _ hk hx hl _ => r_fnR (p_IndexFuncH hJ (xs := xs) (f := f) (caps := caps) (Os := ((Os ++ Hs))) (p := p) (hf) (hk0)) call_131 rfl (nm hS hk) (hx.1) (has_app (fun _ ho => own_nowS hx (List.mem_cons_of_mem _ (List.mem_append_left _ ho))) (fun _ ho => has_nowS hH hk hx ho)) (relL_cons (own_view hS hx (mo 0 rfl) (hl.dep 0 8 _ rfl rfl rfl rfl)) (relL_cons (hl.dep 1 9 _ rfl rfl rfl rfl) relL_nil)) (jo hJ hx), trivial⟩ (nx (k_seq (k_seq (rgo tb hJ [0, 1, 2, 1001] [_, _] [] [(_, _), (_, _), (_, _), (_, .bool (decide (idxF p xs = (-1 : Int))))] rfl rfl rfl rfl trivial (nx (tc 3 rfl rfl (fun hb1 => ?_) (fun hb1 => ?_)))))))))))
 ·
  have e1 := of_decide_eq_true hb1
  refine k_seq (rgo tb hJ [1001] [_, _] [] [(_, .lit v)] rfl rfl rfl rfl trivial (nx ?_))
  refine tw (fun h => st_freeze hS h (m := 0) (s := 4) rfl) ?_
  refine tr_ret (fun a w h => leaveM1  (m := 0) () rfl h rfl (congrArg (fun z => AV.rd (hysC z)) (show xs = (xs.filter fun x' => !p x') from by first | exact DelF.none e1 | exact f1_1.fin (by have := f1_1.len; omega))))
 ·
  have e1 := of_decide_eq_false hb1
  refine tr_skip (nx (k_seq (k_seq ?_)))
  refine tw (sa 2 rfl (congrArg AV.int (show idxF p xs = (((idxF p xs).toNat : Nat) : Int) from by have := idxF_spec e1; omega))) ?_
  refine rgo tb hJ [0, 1, 2, 1002] [_, .int ((((idxF p xs).toNat + 1 : Nat) : Int)), _] [1] [(_, _), (_, _), (_, _), (_, .int ((((idxF p xs).toNat + 1 : Nat) : Int)))] rfl rfl rfl rfl ⟨hAdd (by have := (idxF_spec e1).2.1; omega) rfl rfl rfl rfl rfl, trivial⟩ (nx (tr_block (tr_loop (ι := Nat × Nat × (List Hy) × Value) (fun (ii' : Nat × Nat × (List Hy) × Value) a w => match ii' with | (i, j, ys, vo) => ((DelF p xs ys i j)) ∧ St All (SO S (OB.row vo 109 3 (ys.map hyC) :: (Os ++ R))) w0 42 [(1, .fn f caps), (5, .int (((i : Nat) : Int))), (6, .int (((j : Nat) : Int))), (0, .lit vo)] (XO J S w0.heap.size (OB.row vo 109 3 (ys.map hyC) :: (Os ++ R))) a w) (fun (ii' : Nat × Nat × (List Hy) × Value) => match ii' with | (_, j, _, _) => (xs.length - j : Nat)) ?_ ?_)))
  ·
   intro a w h
   exact ⟨((idxF p xs).toNat, (idxF p xs).toNat + 1, xs, v), (show (DelF p xs xs ((idxF p xs).toNat) ((idxF p xs).toNat + 1)) from DelF.init e1), lz [1, 2, 3, 0] rfl h⟩
  ·
   rintro ⟨i, j, ys, vo⟩
   refine tr_and fun hF => ?_
   have f1_1 : DelF p xs ys i j := hF
   refine k_seq (k_seq (rgr tb hJ [0, 1, 2, 3, 1003] [_, _, .int (((ys.length : Nat) : Int)), _] [2] [(_, _), (_, _), (_, _), (_, _), (_, .bool (decide (((j : Nat) : Int) < ((ys.length : Nat) : Int))))] rfl rfl rfl rfl ⟨fun _ _ _ hx hl _ => r_lenM unds_56_109 rfl (own_view hS hx (mo 0 rfl) (hl.dep 1 17 _ rfl rfl rfl rfl)) hx, trivial⟩ (nx (tc 4 rfl rfl (fun hb2 => ?_) (fun hb2 => ?_)))))
   ·
    try simp at hb2
    refine tr_skip (nx (k_seq (tr_block (k_seq (tr_text (sv tb rfl rfl rfl rfl (sv tb rfl rfl rfl rfl (sq (.lit (rowAt vo (j * 3))) rfl rfl (lb rfl) (fun _ _ h => r_ownAddr (i := ((j : Nat) : Int)) elem_56_109_3 rfl (own_now h.x (mo 0 rfl)) (h.get 1 rfl) (h.get 0 rfl) (Int.natCast_nonneg _) (by rw [List.length_map]; exact Int.ofNat_lt.2 (by omega)) h.x) (sq (.agg (hyC (ge ys j))) rfl rfl (lb rfl) (fun _ _ h => r_ownLoadN (i := j) agg_109_3 rfl (own_now h.x (mo 0 rfl)) (h.get 0 rfl) (row_at (xs := ys) (k := j) (by omega)) rfl h.x) (sq_var (cs := hyC (ge ys j)) var_109_3 rfl rfl rfl (lb rfl) rfl rfl rfl (by decide) (m := 0) rfl rfl (fun a w h => xo_new hS _ h.keep h.x _ (Nat.le_refl _)) (fun a w h w' hk' => xo_stab hJ _ _ hk' h.x) (sq_end ?_)))))))))))
    refine kw (lz [0, 5, 6, 7, 8] (env' := [(_, _), (_, _), (_, _), (_, _), (_, _)]) rfl) ?_
    refine nx (k_seq (rgo tb hJ [0, 1, 2, 3, 4, 1003] [_, _, .bool (p (ge ys j)), _] [2] [(_, _), (_, _), (_, _), (_, _), (_, _), (_, .bool (!(p (ge ys j))))] rfl rfl rfl rfl ⟨fun _ _ hk hx hl _ => r_fnv (hf (ge ys j)) hk0 rfl (hl.dep 0 26 _ rfl rfl rfl rfl) (xo_new hS _ hk hx) (hx.1) (has_app (fun _ ho => own_now hx (List.mem_cons_of_mem _ (List.mem_append_left _ ho))) (fun _ ho => has_nowO hH hk hx ho)) (relL_cons (hl.dep 1 27 _ rfl rfl rfl rfl) relL_nil) (jo hJ hx), trivial⟩ (nx (tc 5 rfl rfl (fun hb3 => ?_) (fun hb3 => ?_)))))
    ·
     try simp at hb3
     refine k_seq (tr_text (sv tb rfl rfl rfl rfl (sv tb rfl rfl rfl rfl (sv (av := .agg (hyC (ge ys j))) tb rfl rfl rfl rfl (sq (.lit (rowAt vo (i * 3))) rfl rfl (lb rfl) (fun _ _ h => r_ownAddr (i := ((i : Nat) : Int)) elem_56_109_3 rfl (own_now h.x (mo 0 rfl)) (h.get 2 rfl) (h.get 1 rfl) (Int.natCast_nonneg _) (by rw [List.length_map]; exact Int.ofNat_lt.2 (by have := f1_1.le; omega)) h.x) (sq_ownStoreN (i := i) hJ hJ0 size_109_3 rfl rfl rfl (by rw [List.length_map]; exact (by have := f1_1.le; omega)) rfl (fun a w h => ⟨(h.get 0 rfl), (h.get 1 rfl)⟩) ?_))))))
     rw [show (ys.map hyC).set i (hyC (ge ys j)) = (ys.set i (ge ys j)).map hyC from List.map_set.symm]
     refine sq_end ?_
     refine kw (lz [5, 6, 7, 8] (env' := [(_, _), (_, _), (_, _), (_, _)]) rfl) ?_
     refine nx (rgo tb hJ [0, 2, 3, 1002] [_, .int (((i + 1 : Nat) : Int)), _] [1] [(_, _), (_, _), (_, _), (_, .int (((i + 1 : Nat) : Int)))] rfl rfl rfl rfl ⟨hAdd (by have := f1_1.le; have := f1_1.len; omega) rfl rfl rfl rfl rfl, trivial⟩ (nx (rgo tb hJ [0, 2, 3, 1002] [_, .int (((j + 1 : Nat) : Int)), _] [1] [(_, _), (_, _), (_, _), (_, .int (((j + 1 : Nat) : Int)))] rfl rfl rfl rfl ⟨hAdd (by have := f1_1.lt; have := f1_1.len; omega) rfl rfl rfl rfl rfl, trivial⟩ ?_)))
     intro a w h; change ∃ j, _ ∧ _
     exact ⟨(i + 1, j + 1, ys.set i (ge ys j), vo), ⟨(show (DelF p xs (ys.set i (ge ys j)) (i + 1) (j + 1)) from f1_1.keep (by have := f1_1.len; omega) (by simpa using hb3)), lz [0, 2, 3, 1] rfl h⟩, (show xs.length - (j + 1) < xs.length - j from by have := f1_1.lt; have := f1_1.len; omega)⟩
    ·
     try simp at hb3
     refine tr_skip (nx (rgo tb hJ [1, 2, 4, 1002] [_, .int (((j + 1 : Nat) : Int)), _] [1] [(_, _), (_, _), (_, _), (_, .int (((j + 1 : Nat) : Int)))] rfl rfl rfl rfl ⟨hAdd (by have := f1_1.lt; have := f1_1.len; omega) rfl rfl rfl rfl rfl, trivial⟩ ?_))
     intro a w h; change ∃ j, _ ∧ _
     exact ⟨(i, j + 1, ys, vo), ⟨(show (DelF p xs ys i (j + 1)) from f1_1.skip (by have := f1_1.len; omega) (by simpa using hb3)), lz [0, 1, 3, 2] rfl h⟩, (show xs.length - (j + 1) < xs.length - j from by have := f1_1.lt; have := f1_1.len; omega)⟩
   ·
    try simp at hb2
    refine tr_exit (nx (k_seq (tr_text (sv tb rfl rfl rfl rfl (sv tb rfl rfl rfl rfl (sq (.lit (subV vo i 3)) rfl rfl (lb rfl) (fun _ _ h => r_subV (lo := i) elem_56_109_3 rfl (own_now h.x (mo 0 rfl)) (h.get 1 rfl) (h.get 0 rfl) (by rw [List.length_map]; exact (by have := f1_1.le; have := f1_1.lt; have := f1_1.len; omega)) h.x) (sq_clear (lo := i) zeroK_109_3 unds_56_109 (by decide) hJ hJ0 rfl rfl rfl (by rw [List.length_map]; exact (by have := f1_1.le; have := f1_1.lt; have := f1_1.len; omega)) (fun a w h => (h.get 0 rfl)) ?_)))))))
    rw [← List.map_take]
    refine sq_end ?_
    refine kw (lz [4, 6] (env' := [(_, _), (_, _)]) rfl) ?_
    refine nx (k_seq (rgo tb hJ [1003] [_, _, .lit (cutV vo i), _] [2] [(_, .lit (cutV vo i))] rfl rfl rfl rfl ⟨fun _ _ _ hx hl _ => r_cutV (m := i) elem_56_109_3 rfl (own_now hx (mo 0 rfl)) (by first | rfl | (rw [List.length_map]; exact (by have := f1_1.le; have := f1_1.lt; have := f1_1.len; simp; omega))) (hl.dep 0 39 _ rfl rfl rfl rfl) (hl.dep 1 40 _ rfl rfl rfl rfl) hx, trivial⟩ (nx ?_)))
    refine tw (fun h => st_freeze hS h (m := 0) (s := 4) rfl) ?_
    refine tr_ret (fun a w h => leaveM1  (m := 0) () rfl h rfl (congrArg (fun z => AV.rd (hysC z)) (show (ys.take i) = (xs.filter fun x' => !p x') from by first | exact DelF.none e1 | exact f1_1.fin (by have := f1_1.len; omega))))

theorem p_DeleteFuncP {J : World → Prop} (hJ : Stab J) (v : Value) (xs : List Pr) (f : FuncId) (caps : List AV) (Os : List OB) (Hs : List OB) (p : Pr → Bool) (hf : ∀ q', FnR Tryz.prog J f (Os ++ Hs) ([.agg (prC (q'))] ++ caps) (.bool (p q'))) (hk0 : CallOk Tryz.prog f) (hn : xs.length ≤ 9223372036854775807) : FnM (ι := Unit) Tryz.prog J 156 Hs [.lit v, .fn f caps] (OB.row v 148 2 (xs.map prC) :: Os) (fun _ => .rd (prsC (xs.filter fun x' => !p x'))) (fun _ => (Os)) := by
 refine fn_enterM (N := 42) Tryz.func156 rfl rfl (lb rfl) fun S w0 R hS hJ0 hH => ?_
 refine tr_weak (B := St All (SO S (OB.row v 148 2 (xs.map prC) :: (Os ++ R))) w0 42 [(0, .lit v), (1, .fn f caps)] (XO J S w0.heap.size (OB.row v 148 2 (xs.map prC) :: (Os ++ R)))) ?_ fun a w h => h
 refine k_seq (rgo tb hJ [0, 1] [_] [] [(_, _), (_, _)] rfl rfl rfl rfl trivial (nx (k_seq (rgr tb hJ [0, 1, 1003] [_, _, .int (idxF p xs), _] [2] [(_, _), (_, _), (_, .int (idxF p xs))] rfl rfl rfl rfl ⟨fun _ _ hk hx hl _ => r_fnR (p_IndexFuncP hJ (xs := xs) (f := f) (caps := caps) (Os := ((Os ++ Hs))) (p := p) (hf) (hk0)) call_174 rfl (nm hS hk) (hx.1) (has_app (fun _ ho => own_nowS hx (List.mem_cons_of_mem _ (List.mem_append_left _ ho))) (fun _ ho => has_nowS hH hk hx ho)) (relL_cons (own_view hS hx (mo 0 rfl) (hl.dep 0 8 _ rfl rfl rfl rfl)) (relL_cons (hl.dep 1 9 _ rfl rfl rfl rfl) relL_nil)) (jo hJ hx), trivial⟩ (nx (k_seq (k_seq (rgo tb hJ [0, 1, 2, 1001] [_, _] [] [(_, _), (_, _), (_, _), (_, .bool (decide (idxF p xs = (-1 : Int))))] rfl rfl rfl rfl trivial (nx (tc 3 rfl rfl (fun hb1 => ?_) (fun hb1 => ?_)))))))))))
 ·
  have e1 := of_decide_eq_true hb1
  refine k_seq (rgo tb hJ [1001] [_, _] [] [(_, .lit v)] rfl rfl rfl rfl trivial (nx ?_))
  refine tw (fun h => st_freeze hS h (m := 0) (s := 4) rfl) ?_
  refine tr_ret (fun a w h => leaveM1  (m := 0) () rfl h rfl (congrArg (fun z => AV.rd (prsC z)) (show xs = (xs.filter fun x' => !p x') from by first | exact DelF.none e1 | exact f1_1.fin (by have := f1_1.len; omega))))
 ·
  have e1 := of_decide_eq_false hb1
  refine tr_skip (nx (k_seq (k_seq ?_)))
  refine tw (sa 2 rfl (congrArg AV.int (show idxF p xs = (((idxF p xs).toNat : Nat) : Int) from by have := idxF_spec e1; omega))) ?_
  refine rgo tb hJ [0, 1, 2, 1002] [_, .int ((((idxF p xs).toNat + 1 : Nat) : Int)), _] [1] [(_, _), (_, _), (_, _), (_, .int ((((idxF p xs).toNat + 1 : Nat) : Int)))] rfl rfl rfl rfl ⟨hAdd (by have := (idxF_spec e1).2.1; omega) rfl rfl rfl rfl rfl, trivial⟩ (nx (tr_block (tr_loop (ι := Nat × Nat × (List Pr) × Value) (fun (ii' : Nat × Nat × (List Pr) × Value) a w => match ii' with | (i, j, ys, vo) => ((DelF p xs ys i j)) ∧ St All (SO S (OB.row vo 148 2 (ys.map prC) :: (Os ++ R))) w0 42 [(1, .fn f caps), (5, .int (((i : Nat) : Int))), (6, .int (((j : Nat) : Int))), (0, .lit vo)] (XO J S w0.heap.size (OB.row vo 148 2 (ys.map prC) :: (Os ++ R))) a w) (fun (ii' : Nat × Nat × (List Pr) × Value) => match ii' with | (_, j, _, _) => (xs.length - j : Nat)) ?_ ?_)))
  ·
   intro a w h
   exact ⟨((idxF p xs).toNat, (idxF p xs).toNat + 1, xs, v), (show (DelF p xs xs ((idxF p xs).toNat) ((idxF p xs).toNat + 1)) from DelF.init e1), lz [1, 2, 3, 0] rfl h⟩
  ·
   rintro ⟨i, j, ys, vo⟩
   refine tr_and fun hF => ?_
   have f1_1 : DelF p xs ys i j := hF
   refine k_seq (k_seq (rgr tb hJ [0, 1, 2, 3, 1003] [_, _, .int (((ys.length : Nat) : Int)), _] [2] [(_, _), (_, _), (_, _), (_, _), (_, .bool (decide (((j : Nat) : Int) < ((ys.length : Nat) : Int))))] rfl rfl rfl rfl ⟨fun _ _ _ hx hl _ => r_lenM unds_57_148 rfl (own_view hS hx (mo 0 rfl) (hl.dep 1 17 _ rfl rfl rfl rfl)) hx, trivial⟩ (nx (tc 4 rfl rfl (fun hb2 => ?_) (fun hb2 => ?_)))))
   ·
    try simp at hb2
    refine tr_skip (nx (k_seq (tr_block (k_seq (tr_text (sv tb rfl rfl rfl rfl (sv tb rfl rfl rfl rfl (sq (.lit (rowAt vo (j * 2))) rfl rfl (lb rfl) (fun _ _ h => r_ownAddr (i := ((j : Nat) : Int)) elem_57_148_2 rfl (own_now h.x (mo 0 rfl)) (h.get 1 rfl) (h.get 0 rfl) (Int.natCast_nonneg _) (by rw [List.length_map]; exact Int.ofNat_lt.2 (by omega)) h.x) (sq (.agg (prC (ge ys j))) rfl rfl (lb rfl) (fun _ _ h => r_ownLoadN (i := j) agg_148_2 rfl (own_now h.x (mo 0 rfl)) (h.get 0 rfl) (row_at (xs := ys) (k := j) (by omega)) rfl h.x) (sq_var (cs := prC (ge ys j)) var_148_2 rfl rfl rfl (lb rfl) rfl rfl rfl (by decide) (m := 0) rfl rfl (fun a w h => xo_new hS _ h.keep h.x _ (Nat.le_refl _)) (fun a w h w' hk' => xo_stab hJ _ _ hk' h.x) (sq_end ?_)))))))))))
    refine kw (lz [0, 5, 6, 7, 8] (env' := [(_, _), (_, _), (_, _), (_, _), (_, _)]) rfl) ?_
    refine nx (k_seq (rgo tb hJ [0, 1, 2, 3, 4, 1003] [_, _, .bool (p (ge ys j)), _] [2] [(_, _), (_, _), (_, _), (_, _), (_, _), (_, .bool (!(p (ge ys j))))] rfl rfl rfl rfl ⟨fun _ _ hk hx hl _ => r_fnv (hf (ge ys j)) hk0 rfl (hl.dep 0 26 _ rfl rfl rfl rfl) (xo_new hS _ hk hx) (hx.1) (has_app (fun _ ho => own_now hx (List.mem_cons_of_mem _ (List.mem_append_left _ ho))) (fun _ ho => has_nowO hH hk hx ho)) (relL_cons (hl.dep 1 27 _ rfl rfl rfl rfl) relL_nil) (jo hJ hx), trivial⟩ (nx (tc 5 rfl rfl (fun hb3 => ?_) (fun hb3 => ?_)))))
    ·
     try simp at hb3
     refine k_seq (tr_text (sv tb rfl rfl rfl rfl (sv tb rfl rfl rfl rfl (sv (av := .agg (prC (ge ys j))) tb rfl rfl rfl rfl (sq (.lit (rowAt vo (i * 2))) rfl rfl (lb rfl) (fun _ _ h => r_ownAddr (i := ((i : Nat) : Int)) elem_57_148_2 rfl (own_now h.x (mo 0 rfl)) (h.get 2 rfl) (h.get 1 rfl) (Int.natCast_nonneg _) (by rw [List.length_map]; exact Int.ofNat_lt.2 (by have := f1_1.le; omega)) h.x) (sq_ownStoreN (i := i) hJ hJ0 size_148_2 rfl rfl rfl (by rw [List.length_map]; exact (by have := f1_1.le; omega)) rfl (fun a w h => ⟨(h.get 0 rfl), (h.get 1 rfl)⟩) ?_))))))
     rw [show (ys.map prC).set i (prC (ge ys j)) = (ys.set i (ge ys j)).map prC from List.map_set.symm]
     refine sq_end ?_
     refine kw (lz [5, 6, 7, 8] (env' := [(_, _), (_, _), (_, _), (_, _)]) rfl) ?_
     refine nx (rgo tb hJ [0, 2, 3, 1002] [_, .int (((i + 1 : Nat) : Int)), _] [1] [(_, _), (_, _), (_, _), (_, .int (((i + 1 : Nat) : Int)))] rfl rfl rfl rfl ⟨hAdd (by have := f1_1.le; have := f1_1.len; omega) rfl rfl rfl rfl rfl, trivial⟩ (nx (rgo tb hJ [0, 2, 3, 1002] [_, .int (((j + 1 : Nat) : Int)), _] [1] [(_, _), (_, _), (_, _), (_, .int (((j + 1 : Nat) : Int)))] rfl rfl rfl rfl ⟨hAdd (by have := f1_1.lt; have := f1_1.len; omega) rfl rfl rfl rfl rfl, trivial⟩ ?_)))
     intro a w h; change ∃ j, _ ∧ _
     exact ⟨(i + 1, j + 1, ys.set i (ge ys j), vo), ⟨(show (DelF p xs (ys.set i (ge ys j)) (i + 1) (j + 1)) from f1_1.keep (by have := f1_1.len; omega) (by simpa using hb3)), lz [0, 2, 3, 1] rfl h⟩, (show xs.length - (j + 1) < xs.length - j from by have := f1_1.lt; have := f1_1.len; omega)⟩
    ·
     try simp at hb3
     refine tr_skip (nx (rgo tb hJ [1, 2, 4, 1002] [_, .int (((j + 1 : Nat) : Int)), _] [1] [(_, _), (_, _), (_, _), (_, .int (((j + 1 : Nat) : Int)))] rfl rfl rfl rfl ⟨hAdd (by have := f1_1.lt; have := f1_1.len; omega) rfl rfl rfl rfl rfl, trivial⟩ ?_))
     intro a w h; change ∃ j, _ ∧ _
     exact ⟨(i, j + 1, ys, vo), ⟨(show (DelF p xs ys i (j + 1)) from f1_1.skip (by have := f1_1.len; omega) (by simpa using hb3)), lz [0, 1, 3, 2] rfl h⟩, (show xs.length - (j + 1) < xs.length - j from by have := f1_1.lt; have := f1_1.len; omega)⟩
   ·
    try simp at hb2
    refine tr_exit (nx (k_seq (tr_text (sv tb rfl rfl rfl rfl (sv tb rfl rfl rfl rfl (sq (.lit (subV vo i 2)) rfl rfl (lb rfl) (fun _ _ h => r_subV (lo := i) elem_57_148_2 rfl (own_now h.x (mo 0 rfl)) (h.get 1 rfl) (h.get 0 rfl) (by rw [List.length_map]; exact (by have := f1_1.le; have := f1_1.lt; have := f1_1.len; omega)) h.x) (sq_clear (lo := i) zeroK_148_2 unds_57_148 (by decide) hJ hJ0 rfl rfl rfl (by rw [List.length_map]; exact (by have := f1_1.le; have := f1_1.lt; have := f1_1.len; omega)) (fun a w h => (h.get 0 rfl)) ?_)))))))
    rw [← List.map_take]
    refine sq_end ?_
    refine kw (lz [4, 6] (env' := [(_, _), (_, _)]) rfl) ?_
    refine nx (k_seq (rgo tb hJ [1003] [_, _, .lit (cutV vo i), _] [2] [(_, .lit (cutV vo i))] rfl rfl rfl rfl ⟨fun _ _ _ hx hl _ => r_cutV (m := i) elem_57_148_2 rfl (own_now hx (mo 0 rfl)) (by first | rfl | (rw [List.length_map]; exact (by have := f1_1.le; have := f1_1.lt; have := f1_1.len; simp; omega))) (hl.dep 0 39 _ rfl rfl rfl rfl) (hl.dep 1 40 _ rfl rfl rfl rfl) hx, trivial⟩ (nx ?_)))
    refine tw (fun h => st_freeze hS h (m := 0) (s := 4) rfl) ?_
    refine tr_ret (fun a w h => leaveM1  (m := 0) () rfl h rfl (congrArg (fun z => AV.rd (prsC z)) (show (ys.take i) = (xs.filter fun x' => !p x') from by first | exact DelF.none e1 | exact f1_1.fin (by have := f1_1.len; omega))))

end Go.Proofs.YtnpgmdffjemnbaaGreatDoor
