/-
  FACTS of the program's types and functions.
  CONTRACTS: small functions of the references that only read.
  CONTRACTS: functions of the references on hypotheses and frames.
  CONTRACTS: labels, pairs and hypotheses of the references.
  CONTRACTS: hypotheses of the references.
-/
import Derived.Test.YtnpgmdffjemnbaaGreatDoorJP
import Derived.Laws.StructEq
import Derived.Test.YtnpgmdffjemnbaaGreatDoorJN
import Derived.Test.YtnpgmdffjemnbaaGreatDoorJE
set_option maxHeartbeats 8000000
set_option maxRecDepth 100000
namespace Go.Proofs.YtnpgmdffjemnbaaGreatDoor
open Go.RowKit

theorem mixedE : Tryz.prog.follows .mixedOrders = true := by kernel_rfl
theorem pr_fields : (Tryz.prog.fieldsOf 148).toList = [{ name := "A", type := 9, offset := 0, embedded := false, tag := "", pkgPath := "", byteOffset := 0 }, { name := "B", type := 9, offset := 1, embedded := false, tag := "", pkgPath := "", byteOffset := 16 }] := by kernel_rfl
theorem pr_struct : Tryz.prog.underlying 148 = some (.struct (Tryz.prog.fieldsOf 148)) := by kernel_rfl
theorem und9 : Tryz.prog.underlying 9 = some .string := by kernel_rfl
theorem run_part_str (c : Array Value) (i : Nat) (v : Value) (h : c[i]? = some v) (w : World) : (part 9 c i).run Tryz.prog w = .ok v w := by
  simp [part, Tryz.isAgg9, h]
theorem eqPair : EqPair Tryz.prog 148 := by
  intro a b c d w x y
  refine ⟨by simp [eqGuard], by simp [eqGuard], ?_⟩
  unfold Op.equal Op.maxDepth
  rw [run_equalIn_struct w 9999 148 _ _ pr_struct (by kernel_rfl), pr_fields]
  have e1 := fun (c : Array Value) (v : Value) (i : Nat) (h : c[i]? = some v) => run_part_str c i v h
  have q1 := run_equalIn_string (P := Tryz.prog) w 9998 9 a c und9
  have q2 := run_equalIn_string (P := Tryz.prog) w 9998 9 b d und9
  rw [bytes_beqL] at q1 q2
  simp only [Op.eqFields]
  rw [if_pos (by decide), if_pos (by decide)]
  simp only [Sem.run_bind]
  rw [e1 _ (.string a) 0 rfl w, Result.andThen_ok, e1 _ (.string c) 0 rfl w, Result.andThen_ok, q1, Result.andThen_ok]
  by_cases h1 : a = c
  · simp only [h1, decide_true, Bool.not_true, Bool.false_eq_true, if_false, Sem.run_bind]
    rw [e1 _ (.string b) 1 rfl w, Result.andThen_ok, e1 _ (.string d) 1 rfl w, Result.andThen_ok, q2, Result.andThen_ok]
    by_cases h2 : b = d
    · simp [h2, Sem.run_pure]
    · simp [h2, Sem.run_pure]
  · simp [h1, Sem.run_pure]

theorem unds_22_9 : Tryz.prog.underlying 22 = some (.slice 9) := by kernel_rfl
theorem elem_22_9_1 : ElemOf Tryz.prog 22 9 1 := ⟨by kernel_rfl, fun w => by kernel_rfl⟩
theorem one_9 : IsOne Tryz.prog 9 := fun w => by kernel_rfl
theorem unds_28_3 : Tryz.prog.underlying 28 = some (.slice 3) := by kernel_rfl
theorem elem_28_3_1 : ElemOf Tryz.prog 28 3 1 := ⟨by kernel_rfl, fun w => by kernel_rfl⟩
theorem one_3 : IsOne Tryz.prog 3 := fun w => by kernel_rfl
theorem unds_57_148 : Tryz.prog.underlying 57 = some (.slice 148) := by kernel_rfl
theorem elem_57_148_2 : ElemOf Tryz.prog 57 148 2 := ⟨by kernel_rfl, fun w => by kernel_rfl⟩
theorem agg_148_2 : IsAggN Tryz.prog 148 2 := ⟨fun w => by kernel_rfl, fun w => by kernel_rfl⟩
theorem und_9_string : Tryz.prog.underlying 9 = some .string := by kernel_rfl
theorem call_163 : CallOk Tryz.prog 163 := callOk Tryz.func163 rfl rfl
theorem call_133 : CallOk Tryz.prog 133 := callOk Tryz.func133 rfl rfl
theorem fld_59_2_2 : FieldAt Tryz.prog 59 2 2 := fun b off w => by kernel_rfl
theorem one_56 : IsOne Tryz.prog 56 := fun w => by kernel_rfl
theorem fld_59_5_5 : FieldAt Tryz.prog 59 5 5 := fun b off w => by kernel_rfl
theorem app_56_109 : AppT Tryz.prog 56 109 3 48 := appT (.agg #[.string ⟨#[]⟩, .bool false, .slice none 0 0]) (by kernel_rfl) (by kernel_rfl) rfl (by decide) (fun w => by kernel_rfl)
theorem call_106 : CallOk Tryz.prog 106 := callOk Tryz.func106 rfl rfl
theorem one_4 : IsOne Tryz.prog 4 := fun w => by kernel_rfl
theorem fld_109_2_2 : FieldAt Tryz.prog 109 2 2 := fun b off w => by kernel_rfl
theorem one_22 : IsOne Tryz.prog 22 := fun w => by kernel_rfl
theorem call_105 : CallOk Tryz.prog 105 := callOk Tryz.func105 rfl rfl
theorem fld_109_0_0 : FieldAt Tryz.prog 109 0 0 := fun b off w => by kernel_rfl
theorem undb_4 : Tryz.prog.underlying 4 = some .bool := by kernel_rfl
theorem call_164 : CallOk Tryz.prog 164 := callOk Tryz.func164 rfl rfl
theorem agg_25_3 : IsAggN Tryz.prog 25 3 := ⟨fun w => by kernel_rfl, fun w => by kernel_rfl⟩
theorem call_108 : CallOk Tryz.prog 108 := callOk Tryz.func108 rfl rfl
theorem zero_148 : ZeroT Tryz.prog 148 := ⟨.agg #[.string ⟨#[]⟩, .string ⟨#[]⟩], fun w => by kernel_rfl⟩
theorem app_57_148 : AppT Tryz.prog 57 148 2 32 := appT (.agg #[.string ⟨#[]⟩, .string ⟨#[]⟩]) (by kernel_rfl) (by kernel_rfl) rfl (by decide) (fun w => by kernel_rfl)
theorem unds_145_22 : Tryz.prog.underlying 145 = some (.slice 22) := by kernel_rfl
theorem elem_145_22_1 : ElemOf Tryz.prog 145 22 1 := ⟨by kernel_rfl, fun w => by kernel_rfl⟩
theorem zero_9 : ZeroT Tryz.prog 9 := ⟨.string ⟨#[]⟩, fun w => by kernel_rfl⟩
theorem app_22_9 : AppT Tryz.prog 22 9 1 16 := appT (.string ⟨#[]⟩) (by kernel_rfl) (by kernel_rfl) rfl (by decide) (fun w => by kernel_rfl)
theorem unds_56_109 : Tryz.prog.underlying 56 = some (.slice 109) := by kernel_rfl
theorem elem_56_109_3 : ElemOf Tryz.prog 56 109 3 := ⟨by kernel_rfl, fun w => by kernel_rfl⟩
theorem zero_22 : ZeroT Tryz.prog 22 := ⟨.slice none 0 0, fun w => by kernel_rfl⟩
theorem app_145_22 : AppT Tryz.prog 145 22 1 24 := appT (.slice none 0 0) (by kernel_rfl) (by kernel_rfl) rfl (by decide) (fun w => by kernel_rfl)
theorem elem_23_59_8 : ElemOf Tryz.prog 23 59 8 := ⟨by kernel_rfl, fun w => by kernel_rfl⟩
theorem agg_59_8 : IsAggN Tryz.prog 59 8 := ⟨fun w => by kernel_rfl, fun w => by kernel_rfl⟩
theorem call_114 : CallOk Tryz.prog 114 := callOk Tryz.func114 rfl rfl
theorem fld_59_0_0 : FieldAt Tryz.prog 59 0 0 := fun b off w => by kernel_rfl
theorem call_109 : CallOk Tryz.prog 109 := callOk Tryz.func109 rfl rfl
theorem call_179 : CallOk Tryz.prog 179 := callOk Tryz.func179 rfl rfl
theorem call_165 : CallOk Tryz.prog 165 := callOk Tryz.func165 rfl rfl
theorem call_107 : CallOk Tryz.prog 107 := callOk Tryz.func107 rfl rfl
theorem call_111 : CallOk Tryz.prog 111 := callOk Tryz.func111 rfl rfl
theorem agg_109_3 : IsAggN Tryz.prog 109 3 := ⟨fun w => by kernel_rfl, fun w => by kernel_rfl⟩
theorem call_134 : CallOk Tryz.prog 134 := callOk Tryz.func134 rfl rfl
theorem call_135 : CallOk Tryz.prog 135 := callOk Tryz.func135 rfl rfl
theorem fld_59_4_4 : FieldAt Tryz.prog 59 4 4 := fun b off w => by kernel_rfl
theorem call_137 : CallOk Tryz.prog 137 := callOk Tryz.func137 rfl rfl
theorem call_136 : CallOk Tryz.prog 136 := callOk Tryz.func136 rfl rfl
theorem var_148_2 : VarZ Tryz.prog 148 2 := ⟨(#[.string ⟨#[]⟩, .string ⟨#[]⟩]), rfl, by kernel_rfl⟩
theorem call_139 : CallOk Tryz.prog 139 := callOk Tryz.func139 rfl rfl
theorem call_138 : CallOk Tryz.prog 138 := callOk Tryz.func138 rfl rfl
theorem call_140 : CallOk Tryz.prog 140 := callOk Tryz.func140 rfl rfl
theorem call_104 : CallOk Tryz.prog 104 := callOk Tryz.func104 rfl rfl
theorem var_59_8 : VarZ Tryz.prog 59 8 := ⟨(#[.string ⟨#[]⟩, .bool false, .slice none 0 0, .slice none 0 0, .slice none 0 0, .slice none 0 0, .slice none 0 0, .slice none 0 0]), rfl, by kernel_rfl⟩
theorem call_110 : CallOk Tryz.prog 110 := callOk Tryz.func110 rfl rfl
theorem call_112 : CallOk Tryz.prog 112 := callOk Tryz.func112 rfl rfl
theorem call_113 : CallOk Tryz.prog 113 := callOk Tryz.func113 rfl rfl
theorem call_116 : CallOk Tryz.prog 116 := callOk Tryz.func116 rfl rfl
theorem call_115 : CallOk Tryz.prog 115 := callOk Tryz.func115 rfl rfl
theorem unds_23_59 : Tryz.prog.underlying 23 = some (.slice 59) := by kernel_rfl
theorem call_79 : CallOk Tryz.prog 79 := callOk Tryz.func79 rfl rfl
theorem call_80 : CallOk Tryz.prog 80 := callOk Tryz.func80 rfl rfl
theorem call_62 : CallOk Tryz.prog 62 := callOk Tryz.func62 rfl rfl
theorem call_46 : CallOk Tryz.prog 46 := callOk Tryz.func46 rfl rfl
theorem zero_3 : ZeroT Tryz.prog 3 := ⟨.int .i64 0, fun w => by kernel_rfl⟩
theorem app_28_3 : AppT Tryz.prog 28 3 1 8 := appT (.int .i64 0) (by kernel_rfl) (by kernel_rfl) rfl (by decide) (fun w => by kernel_rfl)
theorem call_44 : CallOk Tryz.prog 44 := callOk Tryz.func44 rfl rfl
theorem call_45 : CallOk Tryz.prog 45 := callOk Tryz.func45 rfl rfl
theorem one_99 : IsOne Tryz.prog 99 := fun w => by kernel_rfl
theorem mapT_99_9_4 : MapT Tryz.prog 99 9 4 keyS.kind := ⟨by kernel_rfl, by kernel_rfl⟩
theorem zeroF_4_set : ZeroF Tryz.prog 4 (.bool false) := ⟨(.bool false), fun w => by kernel_rfl, fun S w => Rel.of_lit _⟩
theorem fld_103_1_1 : FieldAt Tryz.prog 103 1 1 := fun b off w => by kernel_rfl
theorem one_97 : IsOne Tryz.prog 97 := fun w => by kernel_rfl
theorem call_87 : CallOk Tryz.prog 87 := callOk Tryz.func87 rfl rfl
theorem call_129 : CallOk Tryz.prog 129 := callOk Tryz.func129 rfl rfl
theorem call_131 : CallOk Tryz.prog 131 := callOk Tryz.func131 rfl rfl
theorem call_58 : CallOk Tryz.prog 58 := callOk Tryz.func58 rfl rfl
theorem call_69 : CallOk Tryz.prog 69 := callOk Tryz.func69 rfl rfl
theorem var_109_3 : VarZ Tryz.prog 109 3 := ⟨(#[.string ⟨#[]⟩, .bool false, .slice none 0 0]), rfl, by kernel_rfl⟩
theorem size_109_3 : SizeT Tryz.prog 109 3 := fun w => by kernel_rfl
theorem zeroK_109_3 : ZeroK Tryz.prog 109 3 := ⟨(.agg #[.string ⟨#[]⟩, .bool false, .slice none 0 0]), fun w => by kernel_rfl, rfl, by simp [Value.cells, Value.oneCell']⟩
theorem call_174 : CallOk Tryz.prog 174 := callOk Tryz.func174 rfl rfl
theorem size_148_2 : SizeT Tryz.prog 148 2 := fun w => by kernel_rfl
theorem zeroK_148_2 : ZeroK Tryz.prog 148 2 := ⟨(.agg #[.string ⟨#[]⟩, .string ⟨#[]⟩]), fun w => by kernel_rfl, rfl, by simp [Value.cells, Value.oneCell']⟩
theorem size_3_1 : SizeT Tryz.prog 3 1 := fun w => by kernel_rfl
theorem zeroK_3_1 : ZeroK Tryz.prog 3 1 := ⟨(.int .i64 0), fun w => by kernel_rfl, rfl, by simp [Value.cells, Value.oneCell']⟩
theorem call_155 : CallOk Tryz.prog 155 := callOk Tryz.func155 rfl rfl
theorem call_154 : CallOk Tryz.prog 154 := callOk Tryz.func154 rfl rfl
theorem call_158 : CallOk Tryz.prog 158 := callOk Tryz.func158 rfl rfl
theorem call_157 : CallOk Tryz.prog 157 := callOk Tryz.func157 rfl rfl
theorem call_156 : CallOk Tryz.prog 156 := callOk Tryz.func156 rfl rfl
theorem call_103 : CallOk Tryz.prog 103 := callOk Tryz.func103 rfl rfl
theorem call_102 : CallOk Tryz.prog 102 := callOk Tryz.func102 rfl rfl
theorem call_101 : CallOk Tryz.prog 101 := callOk Tryz.func101 rfl rfl
theorem varC_109_sbl : VarC Tryz.prog 109 [.lit (.string ⟨#[]⟩), .lit (.bool false), .sl []] := ⟨(.agg #[.string ⟨#[]⟩, .bool false, .slice none 0 0]), fun w => by kernel_rfl, fun S w => (show RdL S w [.lit (.string ⟨#[]⟩), .lit (.bool false), .sl []] [.string ⟨#[]⟩, .bool false, .slice none 0 0] from ⟨.lit _ (Nat.zero_le _), .lit _ True.intro, .nil _ _ (Nat.zero_le _), trivial⟩)⟩
theorem call_132 : CallOk Tryz.prog 132 := callOk Tryz.func132 rfl rfl
theorem size_22_1 : SizeT Tryz.prog 22 1 := fun w => by kernel_rfl
theorem call_123 : CallOk Tryz.prog 123 := callOk Tryz.func123 rfl rfl
theorem call_93 : CallOk Tryz.prog 93 := callOk Tryz.func93 rfl rfl
theorem varCA_176_256 : VarC Tryz.prog 176 ((List.replicate 256 (0 : UInt8)).map u8D) := varC_arr (.agg (Array.replicate 256 (.int .u8 0))) (fun w => by kernel_rfl) (by simp [Value.cells])
theorem undi_3_i64 : Tryz.prog.underlying 3 = some (.int .i64) := by kernel_rfl
theorem undi_5_u8 : Tryz.prog.underlying 5 = some (.int .u8) := by kernel_rfl
theorem arrT_176_5_256 : ArrT Tryz.prog 176 5 256 := ⟨by kernel_rfl, fun w => by kernel_rfl, by decide⟩
theorem size_5_1 : SizeT Tryz.prog 5 1 := fun w => by kernel_rfl
theorem agg_176_256 : IsAggN Tryz.prog 176 256 := ⟨fun w => by kernel_rfl, fun w => by kernel_rfl⟩
theorem size_176_256 : SizeT Tryz.prog 176 256 := fun w => by kernel_rfl
theorem unds_175_5 : Tryz.prog.underlying 175 = some (.slice 5) := by kernel_rfl
theorem elem_175_5_1 : ElemOf Tryz.prog 175 5 1 := ⟨by kernel_rfl, fun w => by kernel_rfl⟩
theorem one_5 : IsOne Tryz.prog 5 := fun w => by kernel_rfl
theorem call_172 : CallOk Tryz.prog 172 := callOk Tryz.func172 rfl rfl
theorem call_152 : CallOk Tryz.prog 152 := callOk Tryz.func152 rfl rfl
theorem call_153 : CallOk Tryz.prog 153 := callOk Tryz.func153 rfl rfl
theorem zero_5 : ZeroT Tryz.prog 5 := ⟨.int .u8 0, fun w => by kernel_rfl⟩
theorem call_120 : CallOk Tryz.prog 120 := callOk Tryz.func120 rfl rfl
theorem zeroK_5_1 : ZeroK Tryz.prog 5 1 := ⟨(.int .u8 0), fun w => by kernel_rfl, rfl, by simp [Value.cells, Value.oneCell']⟩
theorem call_177 : CallOk Tryz.prog 177 := callOk Tryz.func177 rfl rfl
theorem call_86 : CallOk Tryz.prog 86 := callOk Tryz.func86 rfl rfl
theorem call_178 : CallOk Tryz.prog 178 := callOk Tryz.func178 rfl rfl
theorem call_176 : CallOk Tryz.prog 176 := callOk Tryz.func176 rfl rfl
theorem unda_199_10_198 : Tryz.prog.underlying 199 = some (.array 10 198) := by kernel_rfl
theorem size_198_4 : SizeT Tryz.prog 198 4 := fun w => by kernel_rfl
theorem agg_198_4 : IsAggN Tryz.prog 198 4 := ⟨fun w => by kernel_rfl, fun w => by kernel_rfl⟩
theorem varC_198_sbii : VarC Tryz.prog 198 [.lit (.string ⟨#[]⟩), .lit (.bool false), .lit (.int .i64 0), .lit (.int .i64 0)] := ⟨(.agg #[.string ⟨#[]⟩, .bool false, .int .i64 0, .int .i64 0]), fun w => by kernel_rfl, fun S w => (show RdL S w [.lit (.string ⟨#[]⟩), .lit (.bool false), .lit (.int .i64 0), .lit (.int .i64 0)] [.string ⟨#[]⟩, .bool false, .int .i64 0, .int .i64 0] from ⟨.lit _ (Nat.zero_le _), .lit _ True.intro, .lit _ True.intro, .lit _ True.intro, trivial⟩)⟩
theorem call_88 : CallOk Tryz.prog 88 := callOk Tryz.func88 rfl rfl
theorem fld_156_2_2 : FieldAt Tryz.prog 156 2 2 := fun b off w => by kernel_rfl
theorem fld_156_3_3 : FieldAt Tryz.prog 156 3 3 := fun b off w => by kernel_rfl
theorem call_161 : CallOk Tryz.prog 161 := callOk Tryz.func161 rfl rfl
theorem unds_157_156 : Tryz.prog.underlying 157 = some (.slice 156) := by kernel_rfl
theorem elem_157_156_4 : ElemOf Tryz.prog 157 156 4 := ⟨by kernel_rfl, fun w => by kernel_rfl⟩
theorem call_175 : CallOk Tryz.prog 175 := callOk Tryz.func175 rfl rfl
theorem fld_198_0_0 : FieldAt Tryz.prog 198 0 0 := fun b off w => by kernel_rfl
theorem call_160 : CallOk Tryz.prog 160 := callOk Tryz.func160 rfl rfl
theorem call_159 : CallOk Tryz.prog 159 := callOk Tryz.func159 rfl rfl
theorem var_156_4 : VarZ Tryz.prog 156 4 := ⟨(#[.int .i64 0, .string ⟨#[]⟩, .slice none 0 0, .slice none 0 0]), rfl, by kernel_rfl⟩
theorem call_162 : CallOk Tryz.prog 162 := callOk Tryz.func162 rfl rfl
theorem build_156_4 : BuildT Tryz.prog 156 4 := ⟨#[.int .i64 0, .string ⟨#[]⟩, .slice none 0 0, .slice none 0 0], rfl, fun i => (#[(0, 1), (1, 1), (2, 1), (3, 1)] : Array (Nat × Nat))[i]?, fun j hj => by rcases j with _ | _ | _ | _ | j <;> first | rfl | omega, fun parts => by kernel_rfl⟩
theorem zero_156 : ZeroT Tryz.prog 156 := ⟨.agg #[.int .i64 0, .string ⟨#[]⟩, .slice none 0 0, .slice none 0 0], fun w => by kernel_rfl⟩
theorem call_130 : CallOk Tryz.prog 130 := callOk Tryz.func130 rfl rfl
theorem fld_103_2_2 : FieldAt Tryz.prog 103 2 2 := fun b off w => by kernel_rfl
theorem fld_112_1_1 : FieldAt Tryz.prog 112 1 1 := fun b off w => by kernel_rfl
theorem one_101 : IsOne Tryz.prog 101 := fun w => by kernel_rfl
theorem mapT_101_9_9 : MapT Tryz.prog 101 9 9 keyS.kind := ⟨by kernel_rfl, by kernel_rfl⟩
theorem zeroF_9_str : ZeroF Tryz.prog 9 (.str default) := ⟨(.string ⟨#[]⟩), fun w => by kernel_rfl, fun S w => (show Rel S w (.str ⟨#[]⟩) _ from Rel.of_lit _ (Nat.zero_le _))⟩
theorem fld_103_4_4 : FieldAt Tryz.prog 103 4 4 := fun b off w => by kernel_rfl
theorem fld_103_3_3 : FieldAt Tryz.prog 103 3 3 := fun b off w => by kernel_rfl
theorem one_100 : IsOne Tryz.prog 100 := fun w => by kernel_rfl
theorem mapT_100_9_109 : MapT Tryz.prog 100 9 109 keyS.kind := ⟨by kernel_rfl, by kernel_rfl⟩
theorem zeroF_109_hy : ZeroF Tryz.prog 109 (.agg (hyC default)) := ⟨(.agg #[.string ⟨#[]⟩, .bool false, .slice none 0 0]), fun w => by kernel_rfl, fun S w => (show Rel S w (.agg [.lit (.string ⟨#[]⟩), .lit (.bool false), .sl []]) _ from (by simp only [Rel]; exact ⟨[.string ⟨#[]⟩, .bool false, .slice none 0 0], rfl, .lit _ (Nat.zero_le _), .lit _ True.intro, .nil _ _ (Nat.zero_le _), trivial⟩))⟩
theorem call_122 : CallOk Tryz.prog 122 := callOk Tryz.func122 rfl rfl
theorem call_91 : CallOk Tryz.prog 91 := callOk Tryz.func91 rfl rfl
theorem call_125 : CallOk Tryz.prog 125 := callOk Tryz.func125 rfl rfl
theorem call_124 : CallOk Tryz.prog 124 := callOk Tryz.func124 rfl rfl
theorem undm_99_9_4 : Tryz.prog.underlying 99 = some (.map 9 4) := by kernel_rfl
theorem varC_148_ss : VarC Tryz.prog 148 [.lit (.string ⟨#[]⟩), .lit (.string ⟨#[]⟩)] := ⟨(.agg #[.string ⟨#[]⟩, .string ⟨#[]⟩]), fun w => by kernel_rfl, fun S w => (show RdL S w [.lit (.string ⟨#[]⟩), .lit (.string ⟨#[]⟩)] [.string ⟨#[]⟩, .string ⟨#[]⟩] from ⟨.lit _ (Nat.zero_le _), .lit _ (Nat.zero_le _), trivial⟩)⟩
theorem call_126 : CallOk Tryz.prog 126 := callOk Tryz.func126 rfl rfl
theorem call_128 : CallOk Tryz.prog 128 := callOk Tryz.func128 rfl rfl
theorem call_127 : CallOk Tryz.prog 127 := callOk Tryz.func127 rfl rfl
theorem call_95 : CallOk Tryz.prog 95 := callOk Tryz.func95 rfl rfl
theorem unds_140_56 : Tryz.prog.underlying 140 = some (.slice 56) := by kernel_rfl
theorem elem_140_56_1 : ElemOf Tryz.prog 140 56 1 := ⟨by kernel_rfl, fun w => by kernel_rfl⟩
theorem call_121 : CallOk Tryz.prog 121 := callOk Tryz.func121 rfl rfl
theorem undm_101_9_9 : Tryz.prog.underlying 101 = some (.map 9 9) := by kernel_rfl
theorem call_94 : CallOk Tryz.prog 94 := callOk Tryz.func94 rfl rfl
theorem call_98 : CallOk Tryz.prog 98 := callOk Tryz.func98 rfl rfl
theorem build_112_2 : BuildT Tryz.prog 112 2 := ⟨#[.map none, .map none], rfl, fun i => (#[(0, 1), (1, 1)] : Array (Nat × Nat))[i]?, fun j hj => by rcases j with _ | _ | j <;> first | rfl | omega, fun parts => by kernel_rfl⟩
theorem varC_112_mm : VarC Tryz.prog 112 [.lit (.map none), .lit (.map none)] := ⟨(.agg #[.map none, .map none]), fun w => by kernel_rfl, fun S w => (show RdL S w [.lit (.map none), .lit (.map none)] [.map none, .map none] from ⟨.lit _ True.intro, .lit _ True.intro, trivial⟩)⟩
theorem size_112_2 : SizeT Tryz.prog 112 2 := fun w => by kernel_rfl
theorem zeroK_56_1 : ZeroK Tryz.prog 56 1 := ⟨(.slice none 0 0), fun w => by kernel_rfl, rfl, by simp [Value.cells, Value.oneCell']⟩
theorem call_89 : CallOk Tryz.prog 89 := callOk Tryz.func89 rfl rfl
theorem call_90 : CallOk Tryz.prog 90 := callOk Tryz.func90 rfl rfl
theorem call_92 : CallOk Tryz.prog 92 := callOk Tryz.func92 rfl rfl
theorem call_77 : CallOk Tryz.prog 77 := callOk Tryz.func77 rfl rfl
theorem call_96 : CallOk Tryz.prog 96 := callOk Tryz.func96 rfl rfl
theorem call_97 : CallOk Tryz.prog 97 := callOk Tryz.func97 rfl rfl
theorem call_99 : CallOk Tryz.prog 99 := callOk Tryz.func99 rfl rfl
theorem call_100 : CallOk Tryz.prog 100 := callOk Tryz.func100 rfl rfl
theorem build_103_5 : BuildT Tryz.prog 103 5 := ⟨#[.map none, .map none, .map none, .map none, .map none], rfl, fun i => (#[(0, 1), (1, 1), (2, 1), (3, 1), (4, 1)] : Array (Nat × Nat))[i]?, fun j hj => by rcases j with _ | _ | _ | _ | _ | j <;> first | rfl | omega, fun parts => by kernel_rfl⟩
theorem call_75 : CallOk Tryz.prog 75 := callOk Tryz.func75 rfl rfl
theorem call_76 : CallOk Tryz.prog 76 := callOk Tryz.func76 rfl rfl
theorem call_82 : CallOk Tryz.prog 82 := callOk Tryz.func82 rfl rfl
theorem call_54 : CallOk Tryz.prog 54 := callOk Tryz.func54 rfl rfl
theorem buildG_66 : BuildG Tryz.prog 66 := fun x y z => by kernel_rfl
theorem varC_59_sbllllll : VarC Tryz.prog 59 [.lit (.string ⟨#[]⟩), .lit (.bool false), .sl [], .sl [], .sl [], .sl [], .sl [], .sl []] := ⟨(.agg #[.string ⟨#[]⟩, .bool false, .slice none 0 0, .slice none 0 0, .slice none 0 0, .slice none 0 0, .slice none 0 0, .slice none 0 0]), fun w => by kernel_rfl, fun S w => (show RdL S w [.lit (.string ⟨#[]⟩), .lit (.bool false), .sl [], .sl [], .sl [], .sl [], .sl [], .sl []] [.string ⟨#[]⟩, .bool false, .slice none 0 0, .slice none 0 0, .slice none 0 0, .slice none 0 0, .slice none 0 0, .slice none 0 0] from ⟨.lit _ (Nat.zero_le _), .lit _ True.intro, .nil _ _ (Nat.zero_le _), .nil _ _ (Nat.zero_le _), .nil _ _ (Nat.zero_le _), .nil _ _ (Nat.zero_le _), .nil _ _ (Nat.zero_le _), .nil _ _ (Nat.zero_le _), trivial⟩)⟩
theorem size_59_8 : SizeT Tryz.prog 59 8 := fun w => by kernel_rfl
theorem call_71 : CallOk Tryz.prog 71 := callOk Tryz.func71 rfl rfl
theorem mapT_89_9_3 : MapT Tryz.prog 89 9 3 keyS.kind := ⟨by kernel_rfl, by kernel_rfl⟩
theorem zeroF_3_int : ZeroF Tryz.prog 3 (.int default) := ⟨(.int .i64 0), fun w => by kernel_rfl, fun S w => (show Rel S w (.int 0) _ from Rel.of_lit _)⟩
theorem mapT_70_3_4 : MapT Tryz.prog 70 3 4 keyI.kind := ⟨by kernel_rfl, by kernel_rfl⟩
theorem fld_66_1_3 : FieldAt Tryz.prog 66 1 3 := fun b off w => by kernel_rfl
theorem one_44 : IsOne Tryz.prog 44 := fun w => by kernel_rfl
theorem call_48 : CallOk Tryz.prog 48 := callOk Tryz.func48 rfl rfl
theorem elem_44_28_1 : ElemOf Tryz.prog 44 28 1 := ⟨by kernel_rfl, fun w => by kernel_rfl⟩
theorem zero_28 : ZeroT Tryz.prog 28 := ⟨.slice none 0 0, fun w => by kernel_rfl⟩
theorem app_44_28 : AppT Tryz.prog 44 28 1 24 := appT (.slice none 0 0) (by kernel_rfl) (by kernel_rfl) rfl (by decide) (fun w => by kernel_rfl)
theorem size_44_1 : SizeT Tryz.prog 44 1 := fun w => by kernel_rfl
theorem one_70 : IsOne Tryz.prog 70 := fun w => by kernel_rfl
theorem one_62 : IsOne Tryz.prog 62 := fun w => by kernel_rfl
theorem one_91 : IsOne Tryz.prog 91 := fun w => by kernel_rfl
theorem call_72 : CallOk Tryz.prog 72 := callOk Tryz.func72 rfl rfl
theorem varC_70_m : VarC Tryz.prog 70 [.lit (.map none)] := ⟨(.map none), fun w => by kernel_rfl, fun S w => (show RdL S w [.lit (.map none)] [.map none] from ⟨.lit _ True.intro, trivial⟩)⟩
theorem size_70_1 : SizeT Tryz.prog 70 1 := fun w => by kernel_rfl
theorem varC_91_f : VarC Tryz.prog 91 [.lit .nilFunc] := ⟨(.nilFunc), fun w => by kernel_rfl, fun S w => (show RdL S w [.lit .nilFunc] [.nilFunc] from ⟨.lit _ True.intro, trivial⟩)⟩
theorem size_91_1 : SizeT Tryz.prog 91 1 := fun w => by kernel_rfl
theorem call_26 : CallOk Tryz.prog 26 := callOk Tryz.func26 rfl rfl
theorem call_43 : CallOk Tryz.prog 43 := callOk Tryz.func43 rfl rfl
theorem unds_44_28 : Tryz.prog.underlying 44 = some (.slice 28) := by kernel_rfl
theorem call_24 : CallOk Tryz.prog 24 := callOk Tryz.func24 rfl rfl
theorem makeT_28_3 : MakeT Tryz.prog 28 3 8 (.int .i64 0) := makeT (by kernel_rfl) (by kernel_rfl) rfl True.intro
theorem call_52 : CallOk Tryz.prog 52 := callOk Tryz.func52 rfl rfl
theorem call_47 : CallOk Tryz.prog 47 := callOk Tryz.func47 rfl rfl
theorem call_51 : CallOk Tryz.prog 51 := callOk Tryz.func51 rfl rfl
theorem call_15 : CallOk Tryz.prog 15 := callOk Tryz.func15 rfl rfl
theorem call_50 : CallOk Tryz.prog 50 := callOk Tryz.func50 rfl rfl
theorem makeT_96_4 : MakeT Tryz.prog 96 4 1 (.bool false) := makeT (by kernel_rfl) (by kernel_rfl) rfl True.intro
theorem elem_96_4_1 : ElemOf Tryz.prog 96 4 1 := ⟨by kernel_rfl, fun w => by kernel_rfl⟩
theorem size_4_1 : SizeT Tryz.prog 4 1 := fun w => by kernel_rfl
theorem call_49 : CallOk Tryz.prog 49 := callOk Tryz.func49 rfl rfl
theorem call_53 : CallOk Tryz.prog 53 := callOk Tryz.func53 rfl rfl
theorem fld_66_0_0 : FieldAt Tryz.prog 66 0 0 := fun b off w => by kernel_rfl
theorem call_56 : CallOk Tryz.prog 56 := callOk Tryz.func56 rfl rfl
theorem buildG2_66 : BuildG2 Tryz.prog 66 := fun x y z ad k cap => by kernel_rfl
theorem size_28_1 : SizeT Tryz.prog 28 1 := fun w => by kernel_rfl
theorem zeroK_9_1 : ZeroK Tryz.prog 9 1 := ⟨(.string ⟨#[]⟩), fun w => by kernel_rfl, rfl, by simp [Value.cells, Value.oneCell']⟩
theorem buildFr_59 : BuildFr Tryz.prog 59 := fun s b ad ad' k c k' c' => by kernel_rfl
theorem call_70 : CallOk Tryz.prog 70 := callOk Tryz.func70 rfl rfl
theorem varC_25_lll : VarC Tryz.prog 25 [.sl [], .sl [], .sl []] := ⟨(.agg #[.slice none 0 0, .slice none 0 0, .slice none 0 0]), fun w => by kernel_rfl, fun S w => (show RdL S w [.sl [], .sl [], .sl []] [.slice none 0 0, .slice none 0 0, .slice none 0 0] from ⟨.nil _ _ (Nat.zero_le _), .nil _ _ (Nat.zero_le _), .nil _ _ (Nat.zero_le _), trivial⟩)⟩
theorem buildDb_25 : BuildDb Tryz.prog 25 := fun ad ad' k c k' c' => by kernel_rfl
theorem size_25_3 : SizeT Tryz.prog 25 3 := fun w => by kernel_rfl
theorem call_42 : CallOk Tryz.prog 42 := callOk Tryz.func42 rfl rfl
theorem var_25_3 : VarZ Tryz.prog 25 3 := ⟨(#[.slice none 0 0, .slice none 0 0, .slice none 0 0]), rfl, by kernel_rfl⟩
theorem call_23 : CallOk Tryz.prog 23 := callOk Tryz.func23 rfl rfl
theorem call_14 : CallOk Tryz.prog 14 := callOk Tryz.func14 rfl rfl
theorem call_41 : CallOk Tryz.prog 41 := callOk Tryz.func41 rfl rfl
theorem call_40 : CallOk Tryz.prog 40 := callOk Tryz.func40 rfl rfl
theorem call_8 : CallOk Tryz.prog 8 := callOk Tryz.func8 rfl rfl
theorem call_9 : CallOk Tryz.prog 9 := callOk Tryz.func9 rfl rfl
theorem call_10 : CallOk Tryz.prog 10 := callOk Tryz.func10 rfl rfl
theorem call_11 : CallOk Tryz.prog 11 := callOk Tryz.func11 rfl rfl
theorem call_12 : CallOk Tryz.prog 12 := callOk Tryz.func12 rfl rfl
theorem call_13 : CallOk Tryz.prog 13 := callOk Tryz.func13 rfl rfl
theorem call_16 : CallOk Tryz.prog 16 := callOk Tryz.func16 rfl rfl
theorem call_17 : CallOk Tryz.prog 17 := callOk Tryz.func17 rfl rfl
theorem call_18 : CallOk Tryz.prog 18 := callOk Tryz.func18 rfl rfl
theorem call_19 : CallOk Tryz.prog 19 := callOk Tryz.func19 rfl rfl
theorem call_20 : CallOk Tryz.prog 20 := callOk Tryz.func20 rfl rfl
set_option maxRecDepth 100000 in
theorem tb_one : ∀ t ∈ [3, 4, 5, 9, 22, 23, 28, 44, 56, 57, 62, 70, 91, 97, 99, 100, 101, 107], IsOne Tryz.prog t := by
  intro t h
  simp only [List.mem_cons, List.not_mem_nil, or_false] at h
  rcases h with rfl | rfl | rfl | rfl | rfl | rfl | rfl | rfl | rfl | rfl | rfl | rfl | rfl | rfl | rfl | rfl | rfl | rfl <;> exact fun w => by kernel_rfl
set_option maxRecDepth 100000 in
theorem tb_agg : ∀ q ∈ [(25, 3), (59, 8), (109, 3), (112, 2), (148, 2), (156, 4), (198, 4)], IsAggN Tryz.prog q.1 q.2 := by
  intro q h
  simp only [List.mem_cons, List.not_mem_nil, or_false] at h
  rcases h with rfl | rfl | rfl | rfl | rfl | rfl | rfl <;> exact ⟨fun w => by kernel_rfl, fun w => by kernel_rfl⟩
set_option maxRecDepth 100000 in
theorem tb_fld : ∀ q ∈ [(25, 0, 0), (25, 1, 1), (25, 2, 2), (59, 0, 0), (59, 1, 1), (59, 2, 2), (59, 3, 3), (59, 4, 4), (59, 5, 5), (59, 6, 6), (59, 7, 7), (66, 0, 0), (66, 1, 3), (103, 0, 0), (103, 1, 1), (103, 2, 2), (103, 3, 3), (103, 4, 4), (109, 0, 0), (109, 1, 1), (109, 2, 2), (112, 0, 0), (112, 1, 1), (148, 0, 0), (148, 1, 1), (156, 0, 0), (156, 1, 1), (156, 2, 2), (156, 3, 3), (198, 0, 0), (198, 1, 1), (198, 2, 2), (198, 3, 3)], FieldAt Tryz.prog q.1 q.2.1 q.2.2 := by
  intro q h
  simp only [List.mem_cons, List.not_mem_nil, or_false] at h
  rcases h with rfl | rfl | rfl | rfl | rfl | rfl | rfl | rfl | rfl | rfl | rfl | rfl | rfl | rfl | rfl | rfl | rfl | rfl | rfl | rfl | rfl | rfl | rfl | rfl | rfl | rfl | rfl | rfl | rfl | rfl | rfl | rfl | rfl <;> exact fun b off w => by kernel_rfl
def tb : Tbl Tryz.prog where
  one := hasN [3, 4, 5, 9, 22, 23, 28, 44, 56, 57, 62, 70, 91, 97, 99, 100, 101, 107]
  agg := lk1 [(25, 3), (59, 8), (109, 3), (112, 2), (148, 2), (156, 4), (198, 4)]
  fld := lk2 [(25, 0, 0), (25, 1, 1), (25, 2, 2), (59, 0, 0), (59, 1, 1), (59, 2, 2), (59, 3, 3), (59, 4, 4), (59, 5, 5), (59, 6, 6), (59, 7, 7), (66, 0, 0), (66, 1, 3), (103, 0, 0), (103, 1, 1), (103, 2, 2), (103, 3, 3), (103, 4, 4), (109, 0, 0), (109, 1, 1), (109, 2, 2), (112, 0, 0), (112, 1, 1), (148, 0, 0), (148, 1, 1), (156, 0, 0), (156, 1, 1), (156, 2, 2), (156, 3, 3), (198, 0, 0), (198, 1, 1), (198, 2, 2), (198, 3, 3)]
  h1 := fun t h => tb_one t (hasN_mem h)
  h2 := fun t k h => tb_agg (t, k + 1) (lk1_mem h)
  h3 := fun s f d h => tb_fld (s, f, d) (lk2_mem h)
  mix := mixedE

end Go.Proofs.YtnpgmdffjemnbaaGreatDoor
set_option maxHeartbeats 8000000
set_option maxRecDepth 100000
namespace Go.Proofs.YtnpgmdffjemnbaaGreatDoor
open Go.RowKit

theorem c_Has {J : World → Prop} (hJ : Stab J) (xs : List ByteArray) (s : ByteArray)  : Fn Tryz.prog J 105 [.rd (strsC xs), .str s] (.bool (decide (s ∈ xs))) := by
 refine fn_enter (N := 18) Tryz.func105 rfl rfl (lb rfl) fun S w0 hS hJ0 => ?_
 clear hJ0
 refine tr_fact (fun a w h => len_le h 0 rfl) fun hl1 => k_seq (rg tb hJ [0, 1] [_] [] [(_, _), (_, _)] rfl rfl rfl rfl trivial (nx (k_seq (k_seq (rg tb hJ [0, 1, 1000] [_] [] [(_, _), (_, _), (_, .int (0 : Int))] rfl rfl rfl rfl trivial (nx (tr_block (tr_loop (ι := Nat) (fun (k : Nat) a w => ((k ≤ xs.length) ∧ (∀ j, j < k → ge xs j ≠ s)) ∧ St All S w0 18 [(0, .rd (strsC xs)), (1, .str s), (5, .int (((k : Nat) : Int)))] J a w) (fun (k : Nat) => (xs.length - k : Nat)) ?_ ?_))))))))
 ·
  intro a w h
  exact ⟨0, (show (0 ≤ xs.length) ∧ (∀ j, j < 0 → ge xs j ≠ s) from by first | trivial | grind), lz [0, 1, 2] rfl h⟩
 ·
  rintro k
  refine tr_and fun hF => ?_
  obtain ⟨f1_1, f1_2⟩ := hF
  refine k_seq (k_seq (rg tb hJ [0, 1, 2, 1003] [_, _, .int (((xs.length : Nat) : Int)), _] [2] [(_, _), (_, _), (_, _), (_, .bool (decide (((k : Nat) : Int) < ((xs.length : Nat) : Int))))] rfl rfl rfl rfl ⟨hLen unds_22_9 rfl rfl rfl rfl, trivial⟩ (nx (tc 3 rfl rfl (fun hb1 => ?_) (fun hb1 => ?_)))))
  ·
   try simp at hb1
   refine tr_skip (nx (k_seq (tr_block (k_seq (rg tb hJ [0, 1, 2, 1005] [_, _, .ptr [.lit (.string (ge xs k))], _, _, _] [2] [(_, _), (_, _), (_, _), (_, .bool (decide ((ge xs k) = s)))] rfl rfl rfl rfl ⟨hIx elem_22_9_1 (by first | omega | (simp; omega) | grind [ge_mem]) rfl rfl rfl rfl rfl rfl, trivial⟩ (nx (tc 3 rfl rfl (fun hb2 => ?_) (fun hb2 => ?_))))))))
   ·
    try simp at hb2
    refine k_seq (rg tb hJ [1000] [_] [] [(_, .bool true)] rfl rfl rfl rfl trivial (nx (tr_ret (fun a w h => leave1' (m := 0) rfl h rfl (congrArg AV.bool (show true = (decide (s ∈ xs)) from by grind [ge_mem]))))))
   ·
    try simp at hb2
    refine tr_skip (nx (rg tb hJ [0, 1, 1002] [_, .int (((k + 1 : Nat) : Int)), _] [1] [(_, _), (_, _), (_, .int (((k + 1 : Nat) : Int)))] rfl rfl rfl rfl ⟨hAdd (by first | omega | (simp; omega) | grind [ge_mem]) rfl rfl rfl rfl rfl, trivial⟩ ?_))
    intro a w h; change ∃ j, _ ∧ _
    exact ⟨k + 1, ⟨⟨(show (k + 1) ≤ xs.length from by first | omega | (simp; omega) | grind [ge_mem]), (show ∀ j, j < (k + 1) → ge xs j ≠ s from by first | omega | (simp; omega) | grind [ge_mem])⟩, lz [0, 1, 2] rfl h⟩, (show xs.length - (k + 1) < xs.length - k from by first | omega | (simp; omega))⟩
  ·
   try simp at hb1
   refine tr_exit (nx (k_seq (rg tb hJ [1000] [_] [] [(_, .bool false)] rfl rfl rfl rfl trivial (nx (tr_ret (fun a w h => leave1' (m := 0) rfl h rfl (congrArg AV.bool (show false = (decide (s ∈ xs)) from by grind [mem_ge]))))))))

theorem c_in {J : World → Prop} (hJ : Stab J) (xs : List Int) (n : Int)  : Fn Tryz.prog J 46 [.rd (intsC xs), .int n] (.bool (decide (n ∈ xs))) := by
 refine fn_enter (N := 18) Tryz.func46 rfl rfl (lb rfl) fun S w0 hS hJ0 => ?_
 clear hJ0
 refine tr_fact (fun a w h => len_le h 0 rfl) fun hl1 => k_seq (rg tb hJ [0, 1] [_] [] [(_, _), (_, _)] rfl rfl rfl rfl trivial (nx (k_seq (k_seq (rg tb hJ [0, 1, 1000] [_] [] [(_, _), (_, _), (_, .int (0 : Int))] rfl rfl rfl rfl trivial (nx (tr_block (tr_loop (ι := Nat) (fun (k : Nat) a w => ((k ≤ xs.length) ∧ (∀ j, j < k → ge xs j ≠ n)) ∧ St All S w0 18 [(0, .rd (intsC xs)), (1, .int n), (5, .int (((k : Nat) : Int)))] J a w) (fun (k : Nat) => (xs.length - k : Nat)) ?_ ?_))))))))
 ·
  intro a w h
  exact ⟨0, (show (0 ≤ xs.length) ∧ (∀ j, j < 0 → ge xs j ≠ n) from by first | trivial | grind), lz [0, 1, 2] rfl h⟩
 ·
  rintro k
  refine tr_and fun hF => ?_
  obtain ⟨f1_1, f1_2⟩ := hF
  refine k_seq (k_seq (rg tb hJ [0, 1, 2, 1003] [_, _, .int (((xs.length : Nat) : Int)), _] [2] [(_, _), (_, _), (_, _), (_, .bool (decide (((k : Nat) : Int) < ((xs.length : Nat) : Int))))] rfl rfl rfl rfl ⟨hLen unds_28_3 rfl rfl rfl rfl, trivial⟩ (nx (tc 3 rfl rfl (fun hb1 => ?_) (fun hb1 => ?_)))))
  ·
   try simp at hb1
   refine tr_skip (nx (k_seq (tr_block (k_seq (rg tb hJ [0, 1, 2, 1005] [_, _, .ptr [.lit (.int .i64 (ge xs k))], _, _, _] [2] [(_, _), (_, _), (_, _), (_, .bool (decide ((ge xs k) = n)))] rfl rfl rfl rfl ⟨hIx elem_28_3_1 (by first | omega | (simp; omega) | grind [ge_mem]) rfl rfl rfl rfl rfl rfl, trivial⟩ (nx (tc 3 rfl rfl (fun hb2 => ?_) (fun hb2 => ?_))))))))
   ·
    try simp at hb2
    refine k_seq (rg tb hJ [1000] [_] [] [(_, .bool true)] rfl rfl rfl rfl trivial (nx (tr_ret (fun a w h => leave1' (m := 0) rfl h rfl (congrArg AV.bool (show true = (decide (n ∈ xs)) from by grind [ge_mem]))))))
   ·
    try simp at hb2
    refine tr_skip (nx (rg tb hJ [0, 1, 1002] [_, .int (((k + 1 : Nat) : Int)), _] [1] [(_, _), (_, _), (_, .int (((k + 1 : Nat) : Int)))] rfl rfl rfl rfl ⟨hAdd (by first | omega | (simp; omega) | grind [ge_mem]) rfl rfl rfl rfl rfl, trivial⟩ ?_))
    intro a w h; change ∃ j, _ ∧ _
    exact ⟨k + 1, ⟨⟨(show (k + 1) ≤ xs.length from by first | omega | (simp; omega) | grind [ge_mem]), (show ∀ j, j < (k + 1) → ge xs j ≠ n from by first | omega | (simp; omega) | grind [ge_mem])⟩, lz [0, 1, 2] rfl h⟩, (show xs.length - (k + 1) < xs.length - k from by first | omega | (simp; omega))⟩
  ·
   try simp at hb1
   refine tr_exit (nx (k_seq (rg tb hJ [1000] [_] [] [(_, .bool false)] rfl rfl rfl rfl trivial (nx (tr_ret (fun a w h => leave1' (m := 0) rfl h rfl (congrArg AV.bool (show false = (decide (n ∈ xs)) from by grind [mem_ge]))))))))

theorem c_sameWords {J : World → Prop} (hJ : Stab J) (xs : List ByteArray) (ys : List ByteArray)  : Fn Tryz.prog J 164 [.rd (strsC xs), .rd (strsC ys)] (.bool (decide (xs = ys))) := by
 refine fn_enter (N := 26) Tryz.func164 rfl rfl (lb rfl) fun S w0 hS hJ0 => ?_
 clear hJ0
 refine tr_fact (fun a w h => len_le h 0 rfl) fun hl1 => tr_fact (fun a w h => len_le h 1 rfl) fun hl2 => k_seq (rg tb hJ [0, 1] [_] [] [(_, _), (_, _)] rfl rfl rfl rfl trivial (nx (k_seq (k_seq (rg tb hJ [0, 1, 1004] [_, .int (((xs.length : Nat) : Int)), _, .int (((ys.length : Nat) : Int)), _] [1, 3] [(_, _), (_, _), (_, .bool (!decide (((xs.length : Nat) : Int) = ((ys.length : Nat) : Int))))] rfl rfl rfl rfl ⟨hLen unds_22_9 rfl rfl rfl rfl, hLen unds_22_9 rfl rfl rfl rfl, trivial⟩ (nx (tc 2 rfl rfl (fun hb1 => ?_) (fun hb1 => ?_))))))))
 ·
  try simp at hb1
  refine k_seq (rg tb hJ [1000] [_] [] [(_, .bool false)] rfl rfl rfl rfl trivial (nx (tr_ret (fun a w h => leave1' (m := 0) rfl h rfl (congrArg AV.bool (show false = (decide (xs = ys)) from by first | rfl | grind [ge_mem]))))))
 ·
  try simp at hb1
  refine tr_skip (nx (k_seq (k_seq (rg tb hJ [0, 1, 1000] [_] [] [(_, _), (_, _), (_, .int (0 : Int))] rfl rfl rfl rfl trivial (nx (tr_block (tr_loop (ι := Nat) (fun (k : Nat) a w => ((k ≤ xs.length) ∧ (∀ j, j < k → ge xs j = ge ys j)) ∧ St All S w0 26 [(0, .rd (strsC xs)), (1, .rd (strsC ys)), (5, .int (((k : Nat) : Int)))] J a w) (fun (k : Nat) => (xs.length - k : Nat)) ?_ ?_)))))))
  ·
   intro a w h
   exact ⟨0, (show (0 ≤ xs.length) ∧ (∀ j, j < 0 → ge xs j = ge ys j) from by first | trivial | grind), lz [0, 1, 2] rfl h⟩
  ·
   rintro k
   refine tr_and fun hF => ?_
   obtain ⟨f1_1, f1_2⟩ := hF
   refine k_seq (k_seq (rg tb hJ [0, 1, 2, 1003] [_, _, .int (((xs.length : Nat) : Int)), _] [2] [(_, _), (_, _), (_, _), (_, .bool (decide (((k : Nat) : Int) < ((xs.length : Nat) : Int))))] rfl rfl rfl rfl ⟨hLen unds_22_9 rfl rfl rfl rfl, trivial⟩ (nx (tc 3 rfl rfl (fun hb2 => ?_) (fun hb2 => ?_)))))
   ·
    try simp at hb2
    refine tr_skip (nx (k_seq (tr_block (k_seq (rg tb hJ [0, 1, 2, 1008] [_, _, .ptr [.lit (.string (ge xs k))], _, _, _, .ptr [.lit (.string (ge ys k))], _, _] [2, 6] [(_, _), (_, _), (_, _), (_, .bool (!decide ((ge xs k) = (ge ys k))))] rfl rfl rfl rfl ⟨hIx elem_22_9_1 (by first | omega | (simp; omega) | grind [ge_mem]) rfl rfl rfl rfl rfl rfl, hIx elem_22_9_1 (by first | omega | (simp; omega) | grind [ge_mem]) rfl rfl rfl rfl rfl rfl, trivial⟩ (nx (tc 3 rfl rfl (fun hb3 => ?_) (fun hb3 => ?_))))))))
    ·
     try simp at hb3
     refine k_seq (rg tb hJ [1000] [_] [] [(_, .bool false)] rfl rfl rfl rfl trivial (nx (tr_ret (fun a w h => leave1' (m := 0) rfl h rfl (congrArg AV.bool (show false = (decide (xs = ys)) from by first | rfl | grind [ge_mem]))))))
    ·
     try simp at hb3
     refine tr_skip (nx (rg tb hJ [0, 1, 1002] [_, .int (((k + 1 : Nat) : Int)), _] [1] [(_, _), (_, _), (_, .int (((k + 1 : Nat) : Int)))] rfl rfl rfl rfl ⟨hAdd (by first | omega | (simp; omega) | grind [ge_mem]) rfl rfl rfl rfl rfl, trivial⟩ ?_))
     intro a w h; change ∃ j, _ ∧ _
     exact ⟨k + 1, ⟨⟨(show (k + 1) ≤ xs.length from by first | omega | (simp; omega) | grind [ge_mem]), (show ∀ j, j < (k + 1) → ge xs j = ge ys j from by first | omega | (simp; omega) | grind [ge_mem])⟩, lz [0, 1, 2] rfl h⟩, (show xs.length - (k + 1) < xs.length - k from by first | omega | (simp; omega))⟩
   ·
    try simp at hb2
    refine tr_exit (nx (k_seq (rg tb hJ [1000] [_] [] [(_, .bool true)] rfl rfl rfl rfl trivial (nx (tr_ret (fun a w h => leave1' (m := 0) rfl h rfl (congrArg AV.bool (show true = (decide (xs = ys)) from by have := ext_ge (xs := xs) (ys := ys) (by omega) (fun j hj => f1_2 j (by omega)); simp [this]))))))))

theorem c_samePairs {J : World → Prop} (hJ : Stab J) (xs : List Pr) (ys : List Pr)  : Fn Tryz.prog J 138 [.rd (prsC xs), .rd (prsC ys)] (.bool (decide (xs = ys))) := by
 refine fn_enter (N := 26) Tryz.func138 rfl rfl (lb rfl) fun S w0 hS hJ0 => ?_
 clear hJ0
 refine tr_fact (fun a w h => len_le h 0 rfl) fun hl1 => tr_fact (fun a w h => len_le h 1 rfl) fun hl2 => k_seq (rg tb hJ [0, 1] [_] [] [(_, _), (_, _)] rfl rfl rfl rfl trivial (nx (k_seq (k_seq (rg tb hJ [0, 1, 1004] [_, .int (((xs.length : Nat) : Int)), _, .int (((ys.length : Nat) : Int)), _] [1, 3] [(_, _), (_, _), (_, .bool (!decide (((xs.length : Nat) : Int) = ((ys.length : Nat) : Int))))] rfl rfl rfl rfl ⟨hLen unds_57_148 rfl rfl rfl rfl, hLen unds_57_148 rfl rfl rfl rfl, trivial⟩ (nx (tc 2 rfl rfl (fun hb1 => ?_) (fun hb1 => ?_))))))))
 ·
  try simp at hb1
  refine k_seq (rg tb hJ [1000] [_] [] [(_, .bool false)] rfl rfl rfl rfl trivial (nx (tr_ret (fun a w h => leave1' (m := 0) rfl h rfl (congrArg AV.bool (show false = (decide (xs = ys)) from by first | rfl | grind [ge_mem]))))))
 ·
  try simp at hb1
  refine tr_skip (nx (k_seq (k_seq (rg tb hJ [0, 1, 1000] [_] [] [(_, _), (_, _), (_, .int (0 : Int))] rfl rfl rfl rfl trivial (nx (tr_block (tr_loop (ι := Nat) (fun (k : Nat) a w => ((k ≤ xs.length) ∧ (∀ j, j < k → prEq (ge xs j) (ge ys j) = true)) ∧ St All S w0 26 [(0, .rd (prsC xs)), (1, .rd (prsC ys)), (5, .int (((k : Nat) : Int)))] J a w) (fun (k : Nat) => (xs.length - k : Nat)) ?_ ?_)))))))
  ·
   intro a w h
   exact ⟨0, (show (0 ≤ xs.length) ∧ (∀ j, j < 0 → prEq (ge xs j) (ge ys j) = true) from by first | trivial | grind), lz [0, 1, 2] rfl h⟩
  ·
   rintro k
   refine tr_and fun hF => ?_
   obtain ⟨f1_1, f1_2⟩ := hF
   refine k_seq (k_seq (rg tb hJ [0, 1, 2, 1003] [_, _, .int (((xs.length : Nat) : Int)), _] [2] [(_, _), (_, _), (_, _), (_, .bool (decide (((k : Nat) : Int) < ((xs.length : Nat) : Int))))] rfl rfl rfl rfl ⟨hLen unds_57_148 rfl rfl rfl rfl, trivial⟩ (nx (tc 3 rfl rfl (fun hb2 => ?_) (fun hb2 => ?_)))))
   ·
    try simp at hb2
    refine tr_skip (nx (k_seq (tr_block (k_seq (rg tb hJ [0, 1, 2, 1008] [_, _, .ptr (prC (ge xs k)), _, _, _, .ptr (prC (ge ys k)), _, _] [2, 6, 8] [(_, _), (_, _), (_, _), (_, .bool (!(decide ((ge xs k).a = (ge ys k).a) && decide ((ge xs k).b = (ge ys k).b))))] rfl rfl rfl rfl ⟨hIx elem_57_148_2 (by first | omega | (simp; omega) | grind [ge_mem]) rfl rfl rfl rfl rfl rfl, hIx elem_57_148_2 (by first | omega | (simp; omega) | grind [ge_mem]) rfl rfl rfl rfl rfl rfl, fun _ _ _ hx hl _ => r_neqP eqPair rfl (hl.dep 3 20 _ rfl rfl rfl rfl) (hl.dep 7 24 _ rfl rfl rfl rfl) hx, trivial⟩ (nx (tc 3 rfl rfl (fun hb3 => ?_) (fun hb3 => ?_))))))))
    ·
     try simp at hb3
     refine k_seq (rg tb hJ [1000] [_] [] [(_, .bool false)] rfl rfl rfl rfl trivial (nx (tr_ret (fun a w h => leave1' (m := 0) rfl h rfl (congrArg AV.bool (show false = (decide (xs = ys)) from by symm; rw [decide_eq_false_iff_not]; intro e; subst e; simp at hb3))))))
    ·
     try simp at hb3
     refine tr_skip (nx (rg tb hJ [0, 1, 1002] [_, .int (((k + 1 : Nat) : Int)), _] [1] [(_, _), (_, _), (_, .int (((k + 1 : Nat) : Int)))] rfl rfl rfl rfl ⟨hAdd (by first | omega | (simp; omega) | grind [ge_mem]) rfl rfl rfl rfl rfl, trivial⟩ ?_))
     intro a w h; change ∃ j, _ ∧ _
     exact ⟨k + 1, ⟨⟨(show (k + 1) ≤ xs.length from by first | omega | (intro j hj; by_cases e : j = k; (subst e; simp [prEq, hb3]); exact f1_2 j (by omega))), (show ∀ j, j < (k + 1) → prEq (ge xs j) (ge ys j) = true from by first | omega | (intro j hj; by_cases e : j = k; (subst e; simp [prEq, hb3]); exact f1_2 j (by omega)))⟩, lz [0, 1, 2] rfl h⟩, (show xs.length - (k + 1) < xs.length - k from by first | omega | (simp; omega))⟩
   ·
    try simp at hb2
    refine tr_exit (nx (k_seq (rg tb hJ [1000] [_] [] [(_, .bool true)] rfl rfl rfl rfl trivial (nx (tr_ret (fun a w h => leave1' (m := 0) rfl h rfl (congrArg AV.bool (show true = (decide (xs = ys)) from by have := ext_ge (xs := xs) (ys := ys) (by omega) (fun j hj => prEq_iff.1 (f1_2 j (by omega))); simp [this]))))))))

theorem c_Printable {J : World → Prop} (hJ : Stab J) (c : UInt8)  : Fn Tryz.prog J 163 [.rd (.lit (.int .u8 (c.toNat : Int)))] (.bool (printB c)) := by
 refine fn_enter (N := 9) Tryz.func163 rfl rfl (lb rfl) fun S w0 hS hJ0 => ?_
 clear hJ0
 refine k_seq (rg tb hJ [0] [_] [] [(_, _)] rfl rfl rfl rfl trivial (nx (k_seq (rg tb hJ [1006] [_, _, _, _, _, _, _] [] [(_, .bool ((decide ((33 : Int) ≤ (c.toNat : Int))) && (decide ((c.toNat : Int) ≤ (126 : Int)))))] rfl rfl rfl rfl trivial (nx (tr_ret (fun a w h => leave1' (m := 0) rfl h rfl (congrArg AV.bool (show ((decide ((33 : Int) ≤ (c.toNat : Int))) && (decide ((c.toNat : Int) ≤ (126 : Int)))) = (printB c) from by first | rfl | grind [ge_mem])))))))))

theorem c_IsWord {J : World → Prop} (hJ : Stab J) (s : ByteArray)  : Fn Tryz.prog J 133 [.str s] (.bool (wordB s)) := by
 refine fn_enter (N := 17) Tryz.func133 rfl rfl (lb rfl) fun S w0 hS hJ0 => ?_
 clear hJ0
 refine tr_fact (fun a w h => str_le h 0 rfl) fun hl1 => k_seq (rg tb hJ [0] [_] [] [(_, _)] rfl rfl rfl rfl trivial (nx (k_seq (k_seq (rg tb hJ [0, 1000] [_] [] [(_, _), (_, .int (0 : Int))] rfl rfl rfl rfl trivial (nx (tr_block (tr_loop (ι := Nat) (fun (k : Nat) a w => ((k ≤ s.size) ∧ (∀ j, j < k → printB (bt s j) = true)) ∧ St All S w0 17 [(0, .str s), (3, .int (((k : Nat) : Int)))] J a w) (fun (k : Nat) => (s.size - k : Nat)) ?_ ?_))))))))
 ·
  intro a w h
  exact ⟨0, (show (0 ≤ s.size) ∧ (∀ j, j < 0 → printB (bt s j) = true) from by first | trivial | grind), lz [0, 1] rfl h⟩
 ·
  rintro k
  refine tr_and fun hF => ?_
  obtain ⟨f1_1, f1_2⟩ := hF
  refine k_seq (k_seq (rg tb hJ [0, 1, 1003] [_, _, .int (((s.size : Nat) : Int)), _] [2] [(_, _), (_, _), (_, .bool (decide (((k : Nat) : Int) < ((s.size : Nat) : Int))))] rfl rfl rfl rfl ⟨fun _ _ _ hx hl _ => r_lenS und_9_string rfl (hl.dep 1 5 _ rfl rfl rfl rfl) hx, trivial⟩ (nx (tc 2 rfl rfl (fun hb1 => ?_) (fun hb1 => ?_)))))
  ·
   try simp at hb1
   refine tr_skip (nx (k_seq (tr_block (k_seq (rg tb hJ [0, 1, 1004] [_, _, .rd (.lit (.int .u8 (((ge s.data.toList k).toNat : Int)))), .bool (printB (ge s.data.toList k)), _] [2, 3] [(_, _), (_, _), (_, .bool (!(printB (ge s.data.toList k))))] rfl rfl rfl rfl ⟨fun _ _ _ hx hl _ => r_idxS (i := ((k : Nat) : Int)) und_9_string rfl (hl.dep 0 10 _ rfl rfl rfl rfl) (hl.dep 1 11 _ rfl rfl rfl rfl) (Int.natCast_nonneg _) (byte_nat (s := s) (k := k) (by first | omega | (simp; omega) | grind [ge_mem])) hx, hFn hS hJ (c_Printable hJ (c := (ge s.data.toList k)) ) call_163 rfl rfl rfl rfl, trivial⟩ (nx (tc 2 rfl rfl (fun hb2 => ?_) (fun hb2 => ?_))))))))
   ·
    try simp at hb2
    refine k_seq (rg tb hJ [1000] [_] [] [(_, .bool false)] rfl rfl rfl rfl trivial (nx (tr_ret (fun a w h => leave1' (m := 0) rfl h rfl (congrArg AV.bool (show false = (wordB s) from (wordB_no hb1 hb2).symm))))))
   ·
    try simp at hb2
    refine tr_skip (nx (rg tb hJ [0, 1002] [_, .int (((k + 1 : Nat) : Int)), _] [1] [(_, _), (_, .int (((k + 1 : Nat) : Int)))] rfl rfl rfl rfl ⟨hAdd (by first | omega | (simp; omega) | grind [ge_mem]) rfl rfl rfl rfl rfl, trivial⟩ ?_))
    intro a w h; change ∃ j, _ ∧ _
    exact ⟨k + 1, ⟨⟨(show (k + 1) ≤ s.size from by omega), (show ∀ j, j < (k + 1) → printB (bt s j) = true from step_all f1_2 hb2)⟩, lz [0, 1] rfl h⟩, (show s.size - (k + 1) < s.size - k from by first | omega | (simp; omega))⟩
  ·
   try simp at hb1
   refine tr_exit (nx (k_seq (rg tb hJ [1002] [_, _, _] [] [(_, .bool (!decide (s = (⟨#[]⟩ : ByteArray))))] rfl rfl rfl rfl trivial (nx (tr_ret (fun a w h => leave1' (m := 0) rfl h rfl (congrArg AV.bool (show (!decide (s = (⟨#[]⟩ : ByteArray))) = (wordB s) from (wordB_end fun j hj => f1_2 j (by omega)).symm))))))))

theorem c_IsSymbol {J : World → Prop} (hJ : Stab J) (s : ByteArray)  : Fn Tryz.prog J 104 [.str s] (.bool (symB s)) := by
 refine fn_enter (N := 21) Tryz.func104 rfl rfl (lb rfl) fun S w0 hS hJ0 => ?_
 clear hJ0
 refine tr_fact (fun a w h => str_le h 0 rfl) fun hl1 => k_seq (rg tb hJ [0] [_] [] [(_, _)] rfl rfl rfl rfl trivial (nx (k_seq (k_seq (rg tb hJ [0, 1000] [_] [] [(_, _), (_, .int (0 : Int))] rfl rfl rfl rfl trivial (nx (tr_block (tr_loop (ι := Nat) (fun (k : Nat) a w => ((k ≤ s.size) ∧ (∀ j, j < k → ¬ ((bt s j).toNat : Int) = 36)) ∧ St All S w0 21 [(0, .str s), (3, .int (((k : Nat) : Int)))] J a w) (fun (k : Nat) => (s.size - k : Nat)) ?_ ?_))))))))
 ·
  intro a w h
  exact ⟨0, (show (0 ≤ s.size) ∧ (∀ j, j < 0 → ¬ ((bt s j).toNat : Int) = 36) from by first | trivial | grind), lz [0, 1] rfl h⟩
 ·
  rintro k
  refine tr_and fun hF => ?_
  obtain ⟨f1_1, f1_2⟩ := hF
  refine k_seq (k_seq (rg tb hJ [0, 1, 1003] [_, _, .int (((s.size : Nat) : Int)), _] [2] [(_, _), (_, _), (_, .bool (decide (((k : Nat) : Int) < ((s.size : Nat) : Int))))] rfl rfl rfl rfl ⟨fun _ _ _ hx hl _ => r_lenS und_9_string rfl (hl.dep 1 5 _ rfl rfl rfl rfl) hx, trivial⟩ (nx (tc 2 rfl rfl (fun hb1 => ?_) (fun hb1 => ?_)))))
  ·
   try simp at hb1
   refine tr_skip (nx (k_seq (tr_block (k_seq (rg tb hJ [0, 1, 1003] [_, _, .rd (.lit (.int .u8 (((ge s.data.toList k).toNat : Int)))), _] [2] [(_, _), (_, _), (_, .bool (decide (((ge s.data.toList k).toNat : Int) = (36 : Int))))] rfl rfl rfl rfl ⟨fun _ _ _ hx hl _ => r_idxS (i := ((k : Nat) : Int)) und_9_string rfl (hl.dep 0 10 _ rfl rfl rfl rfl) (hl.dep 1 11 _ rfl rfl rfl rfl) (Int.natCast_nonneg _) (byte_nat (s := s) (k := k) (by first | omega | (simp; omega) | grind [ge_mem])) hx, trivial⟩ (nx (tc 2 rfl rfl (fun hb2 => ?_) (fun hb2 => ?_))))))))
   ·
    try simp at hb2
    refine k_seq (rg tb hJ [1000] [_] [] [(_, .bool false)] rfl rfl rfl rfl trivial (nx (tr_ret (fun a w h => leave1' (m := 0) rfl h rfl (congrArg AV.bool (show false = (symB s) from (symB_no hb1 hb2).symm))))))
   ·
    try simp at hb2
    refine tr_skip (nx (rg tb hJ [0, 1002] [_, .int (((k + 1 : Nat) : Int)), _] [1] [(_, _), (_, .int (((k + 1 : Nat) : Int)))] rfl rfl rfl rfl ⟨hAdd (by first | omega | (simp; omega) | grind [ge_mem]) rfl rfl rfl rfl rfl, trivial⟩ ?_))
    intro a w h; change ∃ j, _ ∧ _
    exact ⟨k + 1, ⟨⟨(show (k + 1) ≤ s.size from by omega), (show ∀ j, j < (k + 1) → ¬ ((bt s j).toNat : Int) = 36 from step_all f1_2 hb2)⟩, lz [0, 1] rfl h⟩, (show s.size - (k + 1) < s.size - k from by first | omega | (simp; omega))⟩
  ·
   try simp at hb1
   refine tr_exit (nx (k_seq (rg tb hJ [1007] [_, .bool (wordB s), _, _, .int (((s.size : Nat) : Int)), _, _, _] [1, 4] [(_, .bool ((wordB s) && (decide (((s.size : Nat) : Int) ≤ (60 : Int)))))] rfl rfl rfl rfl ⟨hFn hS hJ (c_IsWord hJ (s := s) ) call_133 rfl rfl rfl rfl, fun _ _ _ hx hl hc => r_lenS und_9_string rfl (hl.dep 3 17 _ rfl rfl rfl hc) hx, trivial⟩ (nx (tr_ret (fun a w h => leave1' (m := 0) rfl h rfl (congrArg AV.bool (show ((wordB s) && (decide (((s.size : Nat) : Int) ≤ (60 : Int)))) = (symB s) from (symB_end fun j hj => f1_2 j (by omega)).symm))))))))

theorem c_IsLabel {J : World → Prop} (hJ : Stab J) (s : ByteArray)  : Fn Tryz.prog J 106 [.str s] (.bool (labB s)) := by
 refine fn_enter (N := 58) Tryz.func106 rfl rfl (lb rfl) fun S w0 hS hJ0 => ?_
 clear hJ0
 refine tr_fact (fun a w h => str_le h 0 rfl) fun hl1 => k_seq (rg tb hJ [0] [_] [] [(_, _)] rfl rfl rfl rfl trivial (nx (k_seq (k_seq (rg tb hJ [0, 1000] [_] [] [(_, _), (_, .int (0 : Int))] rfl rfl rfl rfl trivial (nx (tr_block (tr_loop (ι := Nat) (fun (k : Nat) a w => ((k ≤ s.size) ∧ (∀ j, j < k → badB (bt s j) = false)) ∧ St All S w0 58 [(0, .str s), (3, .int (((k : Nat) : Int)))] J a w) (fun (k : Nat) => (s.size - k : Nat)) ?_ ?_))))))))
 ·
  intro a w h
  exact ⟨0, (show (0 ≤ s.size) ∧ (∀ j, j < 0 → badB (bt s j) = false) from by first | trivial | grind), lz [0, 1] rfl h⟩
 ·
  rintro k
  refine tr_and fun hF => ?_
  obtain ⟨f1_1, f1_2⟩ := hF
  refine k_seq (k_seq (rg tb hJ [0, 1, 1003] [_, _, .int (((s.size : Nat) : Int)), _] [2] [(_, _), (_, _), (_, .bool (decide (((k : Nat) : Int) < ((s.size : Nat) : Int))))] rfl rfl rfl rfl ⟨fun _ _ _ hx hl _ => r_lenS und_9_string rfl (hl.dep 1 7 _ rfl rfl rfl rfl) hx, trivial⟩ (nx (tc 2 rfl rfl (fun hb1 => ?_) (fun hb1 => ?_)))))
  ·
   try simp at hb1
   refine tr_skip (nx (k_seq (tr_block (k_seq (rg tb hJ [0, 1, 1003] [_, _, .rd (.lit (.int .u8 (((ge s.data.toList k).toNat : Int)))), _] [2] [(_, _), (_, _), (_, .rd (.lit (.int .u8 (((ge s.data.toList k).toNat : Int)))))] rfl rfl rfl rfl ⟨fun _ _ _ hx hl _ => r_idxS (i := ((k : Nat) : Int)) und_9_string rfl (hl.dep 0 12 _ rfl rfl rfl rfl) (hl.dep 1 13 _ rfl rfl rfl rfl) (Int.natCast_nonneg _) (byte_nat (s := s) (k := k) (by first | omega | (simp; omega) | grind [ge_mem])) hx, trivial⟩ (nx (k_seq (rg tb hJ [0, 1, 2, 1014] [_, _, _, _, _, _, _, _, _, _, _, _, _, _, _] [] [(_, _), (_, _), (_, _), (_, .bool (((decide ((97 : Int) ≤ ((ge s.data.toList k).toNat : Int))) && (decide (((ge s.data.toList k).toNat : Int) ≤ (122 : Int)))) || ((decide ((65 : Int) ≤ ((ge s.data.toList k).toNat : Int))) && (decide (((ge s.data.toList k).toNat : Int) ≤ (90 : Int))))))] rfl rfl rfl rfl trivial (nx (k_seq (rg tb hJ [0, 1, 1021] [_, _, _, _, _, _, _, _, _, _, _, _, _, _, _, _, _, _, _, _, _, _] [] [(_, _), (_, _), (_, .bool (((((!(((decide ((97 : Int) ≤ ((ge s.data.toList k).toNat : Int))) && (decide (((ge s.data.toList k).toNat : Int) ≤ (122 : Int)))) || ((decide ((65 : Int) ≤ ((ge s.data.toList k).toNat : Int))) && (decide (((ge s.data.toList k).toNat : Int) ≤ (90 : Int)))))) && ((decide (((ge s.data.toList k).toNat : Int) < (48 : Int))) || (decide ((57 : Int) < ((ge s.data.toList k).toNat : Int))))) && (!decide (((ge s.data.toList k).toNat : Int) = (45 : Int)))) && (!decide (((ge s.data.toList k).toNat : Int) = (95 : Int)))) && (!decide (((ge s.data.toList k).toNat : Int) = (46 : Int)))))] rfl rfl rfl rfl trivial (nx ?_))))))))))))
   refine tc 2 rfl rfl (fun hb2 => ?_) (fun hb2 => ?_)
   ·
    refine k_seq (rg tb hJ [1000] [_] [] [(_, .bool false)] rfl rfl rfl rfl trivial (nx (tr_ret (fun a w h => leave1' (m := 0) rfl h rfl (congrArg AV.bool (show false = (labB s) from (labB_no hb1 hb2).symm))))))
   ·
    refine tr_skip (nx (rg tb hJ [0, 1002] [_, .int (((k + 1 : Nat) : Int)), _] [1] [(_, _), (_, .int (((k + 1 : Nat) : Int)))] rfl rfl rfl rfl ⟨hAdd (by first | omega | (simp; omega) | grind [ge_mem]) rfl rfl rfl rfl rfl, trivial⟩ ?_))
    intro a w h; change ∃ j, _ ∧ _
    exact ⟨k + 1, ⟨⟨(show (k + 1) ≤ s.size from by omega), (show ∀ j, j < (k + 1) → badB (bt s j) = false from step_all f1_2 hb2)⟩, lz [0, 1] rfl h⟩, (show s.size - (k + 1) < s.size - k from by first | omega | (simp; omega))⟩
  ·
   try simp at hb1
   refine tr_exit (nx (k_seq (rg tb hJ [1007] [_, _, _, _, .int (((s.size : Nat) : Int)), _, _, _] [4] [(_, .bool ((!decide (s = (⟨#[]⟩ : ByteArray))) && (decide (((s.size : Nat) : Int) ≤ (60 : Int)))))] rfl rfl rfl rfl ⟨fun _ _ _ hx hl hc => r_lenS und_9_string rfl (hl.dep 3 54 _ rfl rfl rfl hc) hx, trivial⟩ (nx (tr_ret (fun a w h => leave1' (m := 0) rfl h rfl (congrArg AV.bool (show ((!decide (s = (⟨#[]⟩ : ByteArray))) && (decide (((s.size : Nat) : Int) ≤ (60 : Int)))) = (labB s) from (labB_end fun j hj => f1_2 j (by omega)).symm))))))))

end Go.Proofs.YtnpgmdffjemnbaaGreatDoor
set_option maxHeartbeats 8000000
set_option maxRecDepth 100000
namespace Go.Proofs.YtnpgmdffjemnbaaGreatDoor
open Go.RowKit

theorem c_All {J : World → Prop} (hJ : Stab J) (f : Fr) (b : (f.hyps.length + f.dummies.length) * 48 ≤ 140737488351232) : Fn Tryz.prog J 109 [.agg (frC f)] (.rd (hysC (f.hyps ++ f.dummies))) := by
 refine fn_enter (N := 10) Tryz.func109 rfl rfl (lb rfl) fun S w0 hS hJ0 => ?_
 refine tw st_own ?_
 refine k_seq (rgo tb hJ [1000] [_, _] [0] [(_, .ptr (frC f))] rfl rfl rfl rfl ⟨fun _ _ hk hx hl _ => r_box rfl (hl.env 0 0 _ rfl rfl) (xo_new hS _ hk hx _ (Nat.le_refl _)) (jo hJ hx), trivial⟩ (nx (k_seq ?_)))
 refine fun a w h => region_C (id := 1) (t := 56) (e := 109) (size := 3) (bytes := 48) (i0 := 0) (fol := 7) (d := 2) (ch := [(3, (f.hyps.map hyC)), (6, (f.dummies.map hyC))]) (fun ix' => ([.any, .ptr [hysC f.hyps, prsC f.apart, strsC f.text, hysC f.dummies, prsC f.wide, strsC f.proof], .rd (hysC f.hyps), .any, .ptr [hysC f.dummies, prsC f.wide, strsC f.proof], .rd (hysC f.dummies), .any, .any] : List AV).getD ix' .any) (fun ix' => ([true, true, true, true, true, true, true, true] : List Bool).getD ix' true) [] ((f.hyps ++ f.dummies).map hyC) (by simp) ?r1_1 hJ hJ0 h mixedE rfl rfl rfl rfl ⟨?o1_1_0, ⟨?o1_1_1, ⟨?o1_1_2, ⟨?o1_1_3, ⟨?o1_1_4, ⟨?o1_1_5, ⟨?o1_1_6, ⟨?o1_1_7, trivial⟩⟩⟩⟩⟩⟩⟩⟩ trivial (fun v1 => ?n1_1)
 case r1_1 =>
  refine Row.mk' app_56_109 ⟨_, rfl, rfl, rfl, rfl, rfl⟩ ⟨?x1_1_0, ⟨?x1_1_1, trivial⟩⟩ ⟨_, _, _, _, rfl, rfl, rfl, rfl, rfl, rfl, rfl, rfl, rfl⟩ rfl rfl rfl
  case x1_1_0 => exact ⟨_, _, _, _, rfl, rfl, rfl, rfl, rfl, rfl, rfl, rfl, len_map (f := hyC) (fun _ => rfl), (by have hm : maxLen = 9223372036854775807 := rfl; simp [upto]; first | omega | (simp; omega) | grind [ge_mem]), (by have hm : maxLen = 9223372036854775807 := rfl; simp [upto]; first | omega | (simp; omega) | grind [ge_mem]), fun _ _ _ _ _ hl => (hl.dep 2 5 _ rfl rfl rfl rfl)⟩
  case x1_1_1 => exact ⟨_, _, _, _, rfl, rfl, rfl, rfl, rfl, rfl, rfl, rfl, len_map (f := hyC) (fun _ => rfl), (by have hm : maxLen = 9223372036854775807 := rfl; simp [upto]; first | omega | (simp; omega) | grind [ge_mem]), (by have hm : maxLen = 9223372036854775807 := rfl; simp [upto]; first | omega | (simp; omega) | grind [ge_mem]), fun _ _ _ _ _ hl => (hl.dep 5 8 _ rfl rfl rfl rfl)⟩
 case o1_1_0 => exact fun h => not_in_row rfl h
 case o1_1_1 => exact fun _ _ => ⟨rfl, fun _ _ _ hx hl _ => r_field fld_59_2_2 rfl (hl.env 0 1 _ rfl rfl) hx⟩
 case o1_1_2 => exact fun _ _ => ⟨rfl, fun _ _ _ hx hl _ => r_load1 one_56 rfl (hl.dep 1 4 _ rfl rfl rfl rfl) hx⟩
 case o1_1_3 => exact fun h => not_in_row rfl h
 case o1_1_4 => exact fun _ _ => ⟨rfl, fun _ _ _ hx hl _ => r_field fld_59_5_5 rfl (hl.env 0 1 _ rfl rfl) hx⟩
 case o1_1_5 => exact fun _ _ => ⟨rfl, fun _ _ _ hx hl _ => r_load1 one_56 rfl (hl.dep 4 7 _ rfl rfl rfl rfl) hx⟩
 case o1_1_6 => exact fun h => not_in_row rfl h
 case o1_1_7 => exact fun h => not_in_row rfl h
 clear a w h
 refine nx ?_
 refine tw (fun h => st_freeze hS h (m := 0) (s := 2) rfl) ?_
 refine tr_ret (fun a w h => leave1' (m := 0) rfl (st_disown h) rfl rfl)

theorem c_IsProof {J : World → Prop} (hJ : Stab J) (s : ByteArray)  : Fn Tryz.prog J 113 [.str s] (.bool (proofB s)) := by
 refine fn_enter (N := 31) Tryz.func113 rfl rfl (lb rfl) fun S w0 hS hJ0 => ?_
 clear hJ0
 refine tr_fact (fun a w h => str_le h 0 rfl) fun hl1 => k_seq (rg tb hJ [0] [_] [] [(_, _)] rfl rfl rfl rfl trivial (nx (k_seq (k_seq (rg tb hJ [0, 1005] [_, _, _, _, _, _] [] [(_, _), (_, .bool ((decide (s = (⟨#[40]⟩ : ByteArray))) || (decide (s = (⟨#[41]⟩ : ByteArray)))))] rfl rfl rfl rfl trivial (nx (tc 1 rfl rfl (fun hb1 => ?_) (fun hb1 => ?_))))))))
 ·
  try simp at hb1
  refine k_seq (rg tb hJ [1000] [_] [] [(_, .bool true)] rfl rfl rfl rfl trivial (nx (tr_ret (fun a w h => leave1' (m := 0) rfl h rfl (congrArg AV.bool (show true = (proofB s) from (proofB_one hb1).symm))))))
 ·
  try simp at hb1
  refine tr_skip (nx (k_seq (k_seq (rg tb hJ [0, 1000] [_] [] [(_, _), (_, .int (0 : Int))] rfl rfl rfl rfl trivial (nx (tr_block (tr_loop (ι := Nat) (fun (k : Nat) a w => ((k ≤ s.size) ∧ (∀ j, j < k → badP s j = false)) ∧ St All S w0 31 [(0, .str s), (3, .int (((k : Nat) : Int)))] J a w) (fun (k : Nat) => (s.size - k : Nat)) ?_ ?_)))))))
  ·
   intro a w h
   exact ⟨0, (show (0 ≤ s.size) ∧ (∀ j, j < 0 → badP s j = false) from by first | trivial | grind), lz [0, 1] rfl h⟩
  ·
   rintro k
   refine tr_and fun hF => ?_
   obtain ⟨f1_1, f1_2⟩ := hF
   refine k_seq (k_seq (rg tb hJ [0, 1, 1003] [_, _, .int (((s.size : Nat) : Int)), _] [2] [(_, _), (_, _), (_, .bool (decide (((k : Nat) : Int) < ((s.size : Nat) : Int))))] rfl rfl rfl rfl ⟨fun _ _ _ hx hl _ => r_lenS und_9_string rfl (hl.dep 1 11 _ rfl rfl rfl rfl) hx, trivial⟩ (nx (tc 2 rfl rfl (fun hb2 => ?_) (fun hb2 => ?_)))))
   ·
    try simp at hb2
    refine tr_skip (nx (k_seq (tr_block (k_seq (rg tb hJ [0, 1, 1012] [_, _, .rd (.lit (.int .u8 (((ge s.data.toList k).toNat : Int)))), _, _, _, _, _, .int (((k + 1 : Nat) : Int)), .str (s.extract k (k + 1)), .bool (labB (s.extract k (k + 1))), _, _] [2, 8, 9, 10] [(_, _), (_, _), (_, .bool ((!decide (((ge s.data.toList k).toNat : Int) = (63 : Int))) && (!(labB (s.extract k (k + 1))))))] rfl rfl rfl rfl ⟨fun _ _ _ hx hl _ => r_idxS (i := ((k : Nat) : Int)) und_9_string rfl (hl.dep 0 16 _ rfl rfl rfl rfl) (hl.dep 1 17 _ rfl rfl rfl rfl) (Int.natCast_nonneg _) (byte_nat (s := s) (k := k) (by first | omega | (simp; omega) | grind [ge_mem])) hx, fun _ _ _ hx hl hc => r_add (i := ((k : Nat) : Int)) (j := (1 : Int)) rfl (hl.dep 7 23 _ rfl rfl rfl hc) (Rel.of_lit (Go.Value.int Go.IntKind.i64 1)) (by have hc' : (((!decide (((ge s.data.toList k).toNat : Int) = (63 : Int))) == true)) = true := hc; (try simp at hc'); (first | omega | (simp; omega) | grind [ge_mem])) (by have hc' : (((!decide (((ge s.data.toList k).toNat : Int) = (63 : Int))) == true)) = true := hc; (try simp at hc'); (first | omega | (simp; omega) | grind [ge_mem])) hx, fun _ _ _ hx hl hc => r_sliceS (lo := k) (hi := k + 1) und_9_string rfl (hl.dep 5 21 _ rfl rfl rfl hc) (hl.dep 6 22 _ rfl rfl rfl hc) (hl.dep 8 24 _ rfl rfl rfl hc) (by have hc' : (((!decide (((ge s.data.toList k).toNat : Int) = (63 : Int))) == true)) = true := hc; (try simp at hc'); (first | omega | (simp; omega) | grind [ge_mem])) (by have hc' : (((!decide (((ge s.data.toList k).toNat : Int) = (63 : Int))) == true)) = true := hc; (try simp at hc'); (first | omega | (simp; omega) | grind [ge_mem])) hx, fun _ _ hk hx hl hc => r_fn (c_IsLabel hJ (s := (s.extract k (k + 1))) ) call_106 rfl (nm hS hk) (hx) (relL_cons (hl.dep 9 25 _ rfl rfl rfl hc) relL_nil) (js hJ hx), trivial⟩ (nx (tc 2 rfl rfl (fun hb3 => ?_) (fun hb3 => ?_))))))))
    ·
     refine k_seq (rg tb hJ [1000] [_] [] [(_, .bool false)] rfl rfl rfl rfl trivial (nx (tr_ret (fun a w h => leave1' (m := 0) rfl h rfl (congrArg AV.bool (show false = (proofB s) from (proofB_no hb1 hb2 hb3).symm))))))
    ·
     refine tr_skip (nx (rg tb hJ [0, 1002] [_, .int (((k + 1 : Nat) : Int)), _] [1] [(_, _), (_, .int (((k + 1 : Nat) : Int)))] rfl rfl rfl rfl ⟨hAdd (by first | omega | (simp; omega) | grind [ge_mem]) rfl rfl rfl rfl rfl, trivial⟩ ?_))
     intro a w h; change ∃ j, _ ∧ _
     exact ⟨k + 1, ⟨⟨(show (k + 1) ≤ s.size from by omega), (show ∀ j, j < (k + 1) → badP s j = false from step_all f1_2 hb3)⟩, lz [0, 1] rfl h⟩, (show s.size - (k + 1) < s.size - k from by first | omega | (simp; omega))⟩
   ·
    try simp at hb2
    refine tr_exit (nx (k_seq (rg tb hJ [1002] [_, _, _] [] [(_, .bool (!decide (s = (⟨#[]⟩ : ByteArray))))] rfl rfl rfl rfl trivial (nx (tr_ret (fun a w h => leave1' (m := 0) rfl h rfl (congrArg AV.bool (show (!decide (s = (⟨#[]⟩ : ByteArray))) = (proofB s) from (proofB_end hb1 fun j hj => f1_2 j (by omega)).symm))))))))

theorem c_of {J : World → Prop} (hJ : Stab J) (y : Hy) (vs : List ByteArray)  : Fn Tryz.prog J 134 [.agg (hyC y), .rd (strsC vs)] (.bool (ofB y vs)) := by
 refine fn_enter (N := 21) Tryz.func134 rfl rfl (lb rfl) fun S w0 hS hJ0 => ?_
 clear hJ0
 refine tr_fact (fun a w h => len_le h 1 rfl) fun hl1 => k_seq (rg tb hJ [1, 1000] [_, _] [0] [(_, _), (_, .ptr (hyC y))] rfl rfl rfl rfl ⟨fun _ _ hk hx hl _ => r_box rfl (hl.env 0 0 _ rfl rfl) (hS _ hk.size) (js hJ hx), trivial⟩ (nx (k_seq (rg tb hJ [1016] [_, _, _, _, _, .int (((y.text.length : Nat) : Int)), _, _, _, _, _, _, .ptr [.lit (.string (ge y.text 1))], _, .bool (decide ((ge y.text 1) ∈ vs)), _, _] [5, 12, 14] [(_, .bool ((y.floating && (decide (((y.text.length : Nat) : Int) = (2 : Int)))) && (decide ((ge y.text 1) ∈ vs))))] rfl rfl rfl rfl ⟨fun _ _ _ hx hl hc => r_lenM unds_22_9 rfl (hl.dep 4 9 _ rfl rfl rfl hc) hx, fun _ _ _ hx hl hc => r_index (i := ((1 : Nat) : Int)) elem_22_9_1 rfl (hl.dep 11 16 _ rfl rfl rfl hc) (Rel.of_lit (Go.Value.int Go.IntKind.i64 1)) (Int.natCast_nonneg _) (row_nat (xs := y.text) (k := 1) (by have hc' : (((y.floating && (decide (((y.text.length : Nat) : Int) = (2 : Int)))) == true)) = true := hc; (try simp at hc'); (first | omega | (simp; omega) | grind [ge_mem]))) rfl hx, fun _ _ hk hx hl hc => r_fn (c_Has hJ (xs := vs) (s := (ge y.text 1)) ) call_105 rfl (nm hS hk) (hx) (relL_cons (hl.dep 9 14 _ rfl rfl rfl hc) (relL_cons (hl.dep 13 18 _ rfl rfl rfl hc) relL_nil)) (js hJ hx), trivial⟩ (nx (tr_ret (fun a w h => leave1' (m := 0) rfl h rfl (congrArg AV.bool (show ((y.floating && (decide (((y.text.length : Nat) : Int) = (2 : Int)))) && (decide ((ge y.text 1) ∈ vs))) = (ofB y vs) from by first | rfl | grind [ge_mem])))))))))

theorem c_SameHyp {J : World → Prop} (hJ : Stab J) (x : Hy) (y : Hy)  : Fn Tryz.prog J 135 [.agg (hyC x), .agg (hyC y)] (.bool (hyEq x y)) := by
 refine fn_enter (N := 24) Tryz.func135 rfl rfl (lb rfl) fun S w0 hS hJ0 => ?_
 clear hJ0
 refine k_seq (rg tb hJ [1000, 1001] [_, _, _] [0, 1] [(_, .ptr (hyC x)), (_, .ptr (hyC y))] rfl rfl rfl rfl ⟨fun _ _ hk hx hl _ => r_box rfl (hl.env 0 0 _ rfl rfl) (hS _ hk.size) (js hJ hx), fun _ _ hk hx hl _ => r_box rfl (hl.env 1 1 _ rfl rfl) (hS _ hk.size) (js hJ hx), trivial⟩ (nx (k_seq (rg tb hJ [1019] [_, _, _, _, _, _, _, _, _, _, .bool (x.floating == y.floating), _, _, _, _, _, _, .bool (decide (x.text = y.text)), _, _] [10, 17] [(_, .bool (((decide (x.label = y.label)) && (x.floating == y.floating)) && (decide (x.text = y.text))))] rfl rfl rfl rfl ⟨fun _ _ _ hx hl hc => r_eqlB undb_4 rfl (hl.dep 7 12 _ rfl rfl rfl hc) (hl.dep 9 14 _ rfl rfl rfl hc) hx, fun _ _ hk hx hl hc => r_fn (c_sameWords hJ (xs := x.text) (ys := y.text) ) call_164 rfl (nm hS hk) (hx) (relL_cons (hl.dep 14 19 _ rfl rfl rfl hc) (relL_cons (hl.dep 16 21 _ rfl rfl rfl hc) relL_nil)) (js hJ hx), trivial⟩ (nx (tr_ret (fun a w h => leave1' (m := 0) rfl h rfl (congrArg AV.bool (show (((decide (x.label = y.label)) && (x.floating == y.floating)) && (decide (x.text = y.text))) = (hyEq x y) from by first | rfl | grind [ge_mem])))))))))

theorem c_symbol {J : World → Prop} (hJ : Stab J) (d : Db) (s : ByteArray)  : Fn Tryz.prog J 108 [.agg (dbC d), .str s] (.bool (symD d s)) := by
 refine fn_enter (N := 15) Tryz.func108 rfl rfl (lb rfl) fun S w0 hS hJ0 => ?_
 clear hJ0
 refine k_seq (rg tb hJ [1, 1000] [_, _] [0] [(_, _), (_, .ptr (dbC d))] rfl rfl rfl rfl ⟨fun _ _ hk hx hl _ => r_box rfl (hl.env 0 0 _ rfl rfl) (hS _ hk.size) (js hJ hx), trivial⟩ (nx (k_seq (rg tb hJ [1001, 1010] [_, _, _, .bool (decide (s ∈ d.consts)), _, _, _, _, .bool (decide (s ∈ d.vars)), _, _] [3, 8] [(_, .rd (strsC d.consts)), (_, .bool ((decide (s ∈ d.consts)) || (decide (s ∈ d.vars))))] rfl rfl rfl rfl ⟨hFn hS hJ (c_Has hJ (xs := d.consts) (s := s) ) call_105 rfl rfl rfl rfl, fun _ _ hk hx hl hc => r_fn (c_Has hJ (xs := d.vars) (s := s) ) call_105 rfl (nm hS hk) (hx) (relL_cons (hl.dep 6 11 _ rfl rfl rfl hc) (relL_cons (hl.dep 7 12 _ rfl rfl rfl hc) relL_nil)) (js hJ hx), trivial⟩ (nx (tr_fact (fun a w h => len_le h 0 rfl) fun hl1 => tr_ret (fun a w h => leave1' (m := 1) rfl h rfl (congrArg AV.bool (show ((decide (s ∈ d.consts)) || (decide (s ∈ d.vars))) = (symD d s) from by first | rfl | grind [ge_mem])))))))))

theorem c_formula {J : World → Prop} (hJ : Stab J) (d : Db) (l : List ByteArray) (h0 : 0 < l.length) : Fn Tryz.prog J 111 [.agg (dbC d), .rd (strsC l)] (.int (formE d l)) := by
 refine fn_enter (N := 26) Tryz.func111 rfl rfl (lb rfl) fun S w0 hS hJ0 => ?_
 clear hJ0
 refine tr_fact (fun a w h => len_le h 1 rfl) fun hl1 => k_seq (rg tb hJ [1, 1000] [_, _] [0] [(_, _), (_, .ptr (dbC d))] rfl rfl rfl rfl ⟨fun _ _ hk hx hl _ => r_box rfl (hl.env 0 0 _ rfl rfl) (hS _ hk.size) (js hJ hx), trivial⟩ (nx (k_seq (k_seq (rg tb hJ [0, 1, 1001, 1006] [_, _, _, .ptr [.lit (.string (ge l 0))], _, .bool (decide ((ge l 0) ∈ d.consts)), _] [3, 5] [(_, _), (_, _), (_, .rd (strsC d.consts)), (_, .bool (!(decide ((ge l 0) ∈ d.consts))))] rfl rfl rfl rfl ⟨hIx (k := 0) elem_22_9_1 (by first | omega | (simp; omega) | grind [ge_mem]) rfl rfl rfl rfl rfl rfl, hFn hS hJ (c_Has hJ (xs := d.consts) (s := (ge l 0)) ) call_105 rfl rfl rfl rfl, trivial⟩ (nx (tr_fact (fun a w h => len_le h 2 rfl) fun hl2 => tc 3 rfl rfl (fun hb1 => ?_) (fun hb1 => ?_))))))))
 ·
  try simp at hb1
  refine k_seq (rg tb hJ [1000] [_] [] [(_, .int (12 : Int))] rfl rfl rfl rfl trivial (nx (tr_ret (fun a w h => leave1' (m := 0) rfl h rfl (congrArg AV.int (show (12 : Int) = (formE d l) from (formE_c hb1).symm))))))
 ·
  try simp at hb1
  refine tr_skip (nx (k_seq (k_seq (rg tb hJ [0, 1, 1000] [_] [] [(_, _), (_, _), (_, .int (1 : Int))] rfl rfl rfl rfl trivial (nx (tr_block (tr_loop (ι := Nat) (fun (k : Nat) a w => ((1 ≤ k) ∧ (k ≤ l.length) ∧ (∀ j, 0 < j → j < k → symD d (ge l j) = true)) ∧ St All S w0 26 [(1, .rd (strsC l)), (2, .ptr (dbC d)), (5, .int (((k : Nat) : Int)))] J a w) (fun (k : Nat) => (l.length - k : Nat)) ?_ ?_)))))))
  ·
   intro a w h
   exact ⟨1, (show (1 ≤ 1) ∧ (1 ≤ l.length) ∧ (∀ j, 0 < j → j < 1 → symD d (ge l j) = true) from by first | trivial | grind), lz [0, 1, 2] rfl h⟩
  ·
   rintro k
   refine tr_and fun hF => ?_
   obtain ⟨f1_1, f1_2, f1_3⟩ := hF
   refine k_seq (k_seq (rg tb hJ [0, 1, 2, 1003] [_, _, .int (((l.length : Nat) : Int)), _] [2] [(_, _), (_, _), (_, _), (_, .bool (decide (((k : Nat) : Int) < ((l.length : Nat) : Int))))] rfl rfl rfl rfl ⟨hLen unds_22_9 rfl rfl rfl rfl, trivial⟩ (nx (tc 3 rfl rfl (fun hb2 => ?_) (fun hb2 => ?_)))))
   ·
    try simp at hb2
    refine tr_skip (nx (k_seq (tr_block (k_seq (rg tb hJ [0, 1, 2, 1006] [_, _, _, .ptr [.lit (.string (ge l k))], _, .bool (symD d (ge l k)), _] [3, 5] [(_, _), (_, _), (_, _), (_, .bool (!(symD d (ge l k))))] rfl rfl rfl rfl ⟨hIx elem_22_9_1 (by first | omega | (simp; omega) | grind [ge_mem]) rfl rfl rfl rfl rfl rfl, hFn hS hJ (c_symbol hJ (d := d) (s := (ge l k)) ) call_108 rfl rfl rfl rfl, trivial⟩ (nx (tc 3 rfl rfl (fun hb3 => ?_) (fun hb3 => ?_))))))))
    ·
     try simp at hb3
     refine k_seq (rg tb hJ [1000] [_] [] [(_, .int (12 : Int))] rfl rfl rfl rfl trivial (nx (tr_ret (fun a w h => leave1' (m := 0) rfl h rfl (congrArg AV.int (show (12 : Int) = (formE d l) from (formE_no (by omega) (by omega) hb3).symm))))))
    ·
     try simp at hb3
     refine tr_skip (nx (rg tb hJ [0, 1, 1002] [_, .int (((k + 1 : Nat) : Int)), _] [1] [(_, _), (_, _), (_, .int (((k + 1 : Nat) : Int)))] rfl rfl rfl rfl ⟨hAdd (by first | omega | (simp; omega) | grind [ge_mem]) rfl rfl rfl rfl rfl, trivial⟩ ?_))
     intro a w h; change ∃ j, _ ∧ _
     exact ⟨k + 1, ⟨⟨(show 1 ≤ (k + 1) from by first | omega | (simp; omega) | grind [ge_mem]), (show (k + 1) ≤ l.length from by first | omega | (simp; omega) | grind [ge_mem]), (show ∀ j, 0 < j → j < (k + 1) → symD d (ge l j) = true from by first | omega | (simp; omega) | grind [ge_mem])⟩, lz [0, 1, 2] rfl h⟩, (show l.length - (k + 1) < l.length - k from by first | omega | (simp; omega))⟩
   ·
    try simp at hb2
    refine tr_exit (nx (k_seq (rg tb hJ [1000] [_] [] [(_, .int (0 : Int))] rfl rfl rfl rfl trivial (nx (tr_ret (fun a w h => leave1' (m := 0) rfl h rfl (congrArg AV.int (show (0 : Int) = (formE d l) from (formE_ok hb1 fun j h1 h2 => f1_3 j h1 (by omega)).symm))))))))

theorem c_common {J : World → Prop} (hJ : Stab J) (xs : List ByteArray) (ys : List ByteArray)  : Fn Tryz.prog J 115 [.rd (strsC xs), .rd (strsC ys)] (.int (((comL xs ys : Nat) : Int))) := by
 refine fn_enter (N := 30) Tryz.func115 rfl rfl (lb rfl) fun S w0 hS hJ0 => ?_
 clear hJ0
 refine tr_fact (fun a w h => len_le h 0 rfl) fun hl1 => tr_fact (fun a w h => len_le h 1 rfl) fun hl2 => k_seq (rg tb hJ [0, 1] [_] [] [(_, _), (_, _)] rfl rfl rfl rfl trivial (nx (k_seq (rg tb hJ [0, 1, 1000] [_] [] [(_, _), (_, _), (_, .int (0 : Int))] rfl rfl rfl rfl trivial (nx (k_seq (tr_block (tr_loop (ι := Nat) (fun (k : Nat) a w => ((k ≤ xs.length) ∧ (k ≤ ys.length) ∧ (∀ j, j < k → ge xs j = ge ys j)) ∧ St All S w0 30 [(0, .rd (strsC xs)), (1, .rd (strsC ys)), (5, .int (((k : Nat) : Int)))] J a w) (fun (k : Nat) => (xs.length - k : Nat)) ?_ ?_))))))))
 ·
  intro a w h
  exact ⟨0, (show (0 ≤ xs.length) ∧ (0 ≤ ys.length) ∧ (∀ j, j < 0 → ge xs j = ge ys j) from by first | trivial | grind), lz [0, 1, 2] rfl h⟩
 ·
  rintro k
  refine tr_and fun hF => ?_
  obtain ⟨f1_1, f1_2, f1_3⟩ := hF
  refine k_seq (k_seq (rg tb hJ [0, 1, 2, 1020] [_, _, .int (((xs.length : Nat) : Int)), _, _, _, _, .int (((ys.length : Nat) : Int)), _, _, _, _, _, .ptr [.lit (.string (ge xs k))], _, _, _, .ptr [.lit (.string (ge ys k))], _, _, _] [2, 7, 13, 17] [(_, _), (_, _), (_, _), (_, .bool (((decide (((k : Nat) : Int) < ((xs.length : Nat) : Int))) && (decide (((k : Nat) : Int) < ((ys.length : Nat) : Int)))) && (decide ((ge xs k) = (ge ys k)))))] rfl rfl rfl rfl ⟨hLen unds_22_9 rfl rfl rfl rfl, fun _ _ _ hx hl hc => r_lenM unds_22_9 rfl (hl.dep 6 12 _ rfl rfl rfl hc) hx, fun _ _ _ hx hl hc => r_index (i := ((k : Nat) : Int)) elem_22_9_1 rfl (hl.dep 11 17 _ rfl rfl rfl hc) (hl.dep 12 18 _ rfl rfl rfl hc) (Int.natCast_nonneg _) (row_nat (xs := xs) (k := k) (by have hc' : ((((decide (((k : Nat) : Int) < ((xs.length : Nat) : Int))) && (decide (((k : Nat) : Int) < ((ys.length : Nat) : Int)))) == true)) = true := hc; (try simp at hc'); (first | omega | (simp; omega) | grind [ge_mem]))) rfl hx, fun _ _ _ hx hl hc => r_index (i := ((k : Nat) : Int)) elem_22_9_1 rfl (hl.dep 15 21 _ rfl rfl rfl hc) (hl.dep 16 22 _ rfl rfl rfl hc) (Int.natCast_nonneg _) (row_nat (xs := ys) (k := k) (by have hc' : ((((decide (((k : Nat) : Int) < ((xs.length : Nat) : Int))) && (decide (((k : Nat) : Int) < ((ys.length : Nat) : Int)))) == true)) = true := hc; (try simp at hc'); (first | omega | (simp; omega) | grind [ge_mem]))) rfl hx, trivial⟩ (nx (tc 3 rfl rfl (fun hb1 => ?_) (fun hb1 => ?_)))))
  ·
   try simp at hb1
   refine tr_skip (nx (tr_block (rg tb hJ [0, 1, 1002] [_, .int (((k + 1 : Nat) : Int)), _] [1] [(_, _), (_, _), (_, .int (((k + 1 : Nat) : Int)))] rfl rfl rfl rfl ⟨hAdd (by first | omega | (simp; omega) | grind [ge_mem]) rfl rfl rfl rfl rfl, trivial⟩ ?_)))
   intro a w h; change ∃ j, _ ∧ _
   exact ⟨k + 1, ⟨⟨(show (k + 1) ≤ xs.length from by first | omega | (simp; omega) | grind [ge_mem]), (show (k + 1) ≤ ys.length from by first | omega | (simp; omega) | grind [ge_mem]), (show ∀ j, j < (k + 1) → ge xs j = ge ys j from by first | omega | (simp; omega) | grind [ge_mem])⟩, lz [0, 1, 2] rfl h⟩, (show xs.length - (k + 1) < xs.length - k from by first | omega | (simp; omega))⟩
  ·
   try simp at hb1
   refine tr_exit (nx (k_seq (rg tb hJ [1001] [_, _] [] [(_, .int (((k : Nat) : Int)))] rfl rfl rfl rfl trivial (nx (tr_ret (fun a w h => leave1' (m := 0) rfl h rfl (congrArg AV.int (show (((k : Nat) : Int)) = (((comL xs ys : Nat) : Int)) from by rw [comL_eq xs ys k f1_1 f1_2 f1_3 (by grind)]))))))))

theorem c_within {J : World → Prop} (hJ : Stab J) (l : List Pr) (vs : List ByteArray) (b : l.length * 32 ≤ 140737488351232) : Fn Tryz.prog J 140 [.rd (prsC l), .rd (strsC vs)] (.rd (prsC (l.filter (inV vs)))) := by
 refine fn_enter (N := 38) Tryz.func140 rfl rfl (lb rfl) fun S w0 hS hJ0 => ?_
 refine tw st_own ?_
 refine tr_fact (fun a w h => len_le h 0 rfl) fun hl1 => tr_fact (fun a w h => len_le h 1 rfl) fun hl2 => k_seq (rgo tb hJ [0, 1] [_] [] [(_, _), (_, _)] rfl rfl rfl rfl trivial (nx (k_seq (tr_text (sq_own0 elem_57_148_2 hJ rfl rfl rfl (lb rfl) fun v1 => ?_)))))
 refine sv tb rfl rfl rfl rfl (sq_end ?_)
 refine kw (lz [0, 2, 3] (env' := [(_, _), (_, _), (_, _)]) rfl) ?_
 refine nx (k_seq (k_seq (rgo tb hJ [0, 1, 2, 1000] [_] [] [(_, _), (_, _), (_, _), (_, .int (0 : Int))] rfl rfl rfl rfl trivial (nx (tr_block (tr_loop (ι := Nat × Value × (List Pr)) (fun (ii' : Nat × Value × (List Pr)) a w => match ii' with | (k, v, out) => ((k ≤ l.length) ∧ (out = (l.take k).filter (inV vs)) ∧ (out.length ≤ k)) ∧ St All (SO S [OB.row v 148 2 (out.map prC)]) w0 38 [(0, .rd (prsC l)), (1, .rd (strsC vs)), (6, .int (((k : Nat) : Int))), (5, .lit v)] (XO J S w0.heap.size [OB.row v 148 2 (out.map prC)]) a w) (fun (ii' : Nat × Value × (List Pr)) => match ii' with | (k, _, _) => (l.length - k : Nat)) ?_ ?_))))))
 ·
  intro a w h
  exact ⟨(0, v1, ([] : List Pr)), (show (0 ≤ l.length) ∧ (([] : List Pr) = (l.take 0).filter (inV vs)) ∧ (([] : List Pr).length ≤ 0) from ⟨Nat.zero_le _, by simp, by simp⟩), lz [1, 2, 3, 0] rfl h⟩
 ·
  rintro ⟨k, v, out⟩
  refine tr_and fun hF => ?_
  obtain ⟨f1_1, f1_2, f1_3⟩ := hF
  refine k_seq (k_seq (rgo tb hJ [0, 1, 2, 3, 1003] [_, _, .int (((l.length : Nat) : Int)), _] [2] [(_, _), (_, _), (_, _), (_, _), (_, .bool (decide (((k : Nat) : Int) < ((l.length : Nat) : Int))))] rfl rfl rfl rfl ⟨hLen unds_57_148 rfl rfl rfl rfl, trivial⟩ (nx (tc 4 rfl rfl (fun hb1 => ?_) (fun hb1 => ?_)))))
  ·
   try simp at hb1
   refine tr_skip (nx (k_seq (tr_block (k_seq (rgo tb hJ [0, 1, 2, 3, 1015] [_, _, _, .ptr (prC (ge l k)), _, _, .bool (decide (((ge l k).a) ∈ vs)), _, _, _, _, .ptr (prC (ge l k)), _, _, .bool (decide (((ge l k).b) ∈ vs)), _] [3, 6, 11, 14] [(_, _), (_, _), (_, _), (_, _), (_, .bool ((decide (((ge l k).a) ∈ vs)) && (decide (((ge l k).b) ∈ vs))))] rfl rfl rfl rfl ⟨hIx elem_57_148_2 (by first | omega | (simp; omega) | grind [ge_mem]) rfl rfl rfl rfl rfl rfl, hFo hS hJ (c_Has hJ (xs := vs) (s := ((ge l k).a)) ) call_105 rfl rfl rfl rfl, fun a _ _ hx hl hc => r_index (i := ((k : Nat) : Int)) elem_57_148_2 rfl (hl.dep 9 23 _ rfl rfl rfl hc) (hl.dep 10 24 _ rfl rfl rfl hc) (Int.natCast_nonneg _) (row_nat (xs := l) (k := k) (by have hc' : (((decide (((ge l k).a) ∈ vs)) == true)) = true := hc; (try simp at hc'); (first | omega | (simp; omega) | grind [ge_mem]))) rfl hx, fun _ _ hk hx hl hc => r_fn (c_Has hJ (xs := vs) (s := ((ge l k).b)) ) call_105 rfl (xo_new hS _ hk hx) (hx.1) (relL_cons (hl.dep 8 22 _ rfl rfl rfl hc) (relL_cons (hl.dep 13 27 _ rfl rfl rfl hc) relL_nil)) (jo hJ hx), trivial⟩ (nx (tc 4 rfl rfl (fun hb2 => ?_) (fun hb2 => ?_))))))))
   ·
    try simp at hb2
    refine tr_text (sv tb rfl rfl rfl rfl (sv tb rfl rfl rfl rfl (sv tb rfl rfl rfl rfl (sq (.ptr (prC (ge l k))) rfl rfl (lb rfl) (fun _ _ h => r_index (i := ((k : Nat) : Int)) elem_57_148_2 rfl (h.get 1 rfl) (h.get 0 rfl) (Int.natCast_nonneg _) (row_nat (xs := l) (k := k) (by first | omega | (simp; omega) | grind [ge_mem])) rfl h.x) (sv (av := .agg (prC (ge l k))) tb rfl rfl rfl rfl (sq (.rd (prsC ([(ge l k)]))) rfl rfl (lb rfl) (fun _ _ h => r_build1s elem_57_148_2 zero_148 (by decide) rfl rfl (h.get 0 rfl) (xo_new hS _ h.keep h.x _ (Nat.le_refl _)) (jo hJ h.x)) (sq_appendM (f := prC) (m := 5) (s := 30) out ([(ge l k)]) (fun _ => rfl) app_57_148 hJ hJ0 rfl rfl rfl (lb rfl) rfl rfl (fun a w h => (h.get 0 rfl)) (by first | omega | (simp; omega) | grind [ge_mem]) (by first | omega | (simp; omega) | grind [ge_mem]) fun v2 => ?_)))))))
    refine sv tb rfl rfl rfl rfl (sq_end ?_)
    refine kw (lz [0, 2, 8, 9, 10] (env' := [(_, _), (_, _), (_, _), (_, _), (_, _)]) rfl) ?_
    refine nx (tr_fact (fun a w h => len_le h 1 rfl) fun hl3 => rgo tb hJ [0, 2, 3, 1002] [_, .int (((k + 1 : Nat) : Int)), _] [1] [(_, _), (_, _), (_, _), (_, .int (((k + 1 : Nat) : Int)))] rfl rfl rfl rfl ⟨hAdd (by first | omega | (simp; omega) | grind [ge_mem]) rfl rfl rfl rfl rfl, trivial⟩ ?_)
    intro a w h; change ∃ j, _ ∧ _
    exact ⟨(k + 1, v2, out ++ ([(ge l k)])), ⟨⟨(show (k + 1) ≤ l.length from by omega), (show (out ++ ([(ge l k)])) = (l.take (k + 1)).filter (inV vs) from by rw [filter_take_succ (by omega), f1_2]; simp [inV, hb2]), (show (out ++ ([(ge l k)])).length ≤ (k + 1) from by simp; omega)⟩, lz [1, 2, 3, 0] rfl h⟩, (show l.length - (k + 1) < l.length - k from by first | omega | (simp; omega))⟩
   ·
    try simp at hb2
    refine tr_skip (nx (rgo tb hJ [0, 1, 3, 1002] [_, .int (((k + 1 : Nat) : Int)), _] [1] [(_, _), (_, _), (_, _), (_, .int (((k + 1 : Nat) : Int)))] rfl rfl rfl rfl ⟨hAdd (by first | omega | (simp; omega) | grind [ge_mem]) rfl rfl rfl rfl rfl, trivial⟩ ?_))
    intro a w h; change ∃ j, _ ∧ _
    exact ⟨(k + 1, v, out), ⟨⟨(show (k + 1) ≤ l.length from by omega), (show out = (l.take (k + 1)).filter (inV vs) from by rw [filter_take_succ (by omega), f1_2]; simp [inV]; grind), (show out.length ≤ (k + 1) from by omega)⟩, lz [0, 1, 3, 2] rfl h⟩, (show l.length - (k + 1) < l.length - k from by first | omega | (simp; omega))⟩
  ·
   try simp at hb1
   refine tr_exit (nx (k_seq (rgo tb hJ [1001] [_, _] [] [(_, .lit v)] rfl rfl rfl rfl trivial (nx ?_))))
   refine tw (fun h => st_freeze hS h (m := 0) (s := 4) rfl) ?_
   refine tr_ret (fun a w h => leave1' (m := 0) rfl (st_disown h) rfl (congrArg (fun z => AV.rd (prsC z)) (show out = (l.filter (inV vs)) from by rw [f1_2, take_all (by omega)])))

theorem c_occurring {J : World → Prop} (hJ : Stab J) (l : List (List ByteArray)) (vs : List ByteArray) (b : vs.length ≤ 8000) : Fn Tryz.prog J 136 [.rd (strssC l), .rd (strsC vs)] (.rd (strsC (occF vs l.flatten))) := by
 refine fn_enter (N := 46) Tryz.func136 rfl rfl (lb rfl) fun S w0 hS hJ0 => ?_
 refine tw st_own ?_
 refine tr_fact (fun a w h => len_le h 0 rfl) fun hl1 => tr_fact (fun a w h => len_le h 1 rfl) fun hl2 => k_seq (rgo tb hJ [0, 1] [_] [] [(_, _), (_, _)] rfl rfl rfl rfl trivial (nx (k_seq (tr_text (sq_own0 elem_22_9_1 hJ rfl rfl rfl (lb rfl) fun v1 => ?_)))))
 refine sv tb rfl rfl rfl rfl (sq_end ?_)
 refine kw (lz [0, 2, 3] (env' := [(_, _), (_, _), (_, _)]) rfl) ?_
 refine nx (k_seq (k_seq (rgo tb hJ [0, 1, 2, 1000] [_] [] [(_, _), (_, _), (_, _), (_, .int (0 : Int))] rfl rfl rfl rfl trivial (nx (tr_block (tr_loop (ι := Nat × Value × (List ByteArray)) (fun (ii' : Nat × Value × (List ByteArray)) a w => match ii' with | (k, v, out) => ((k ≤ l.length) ∧ (out = occF vs (l.take k).flatten)) ∧ St All (SO S [OB.row v 9 1 (out.map strC)]) w0 46 [(0, .rd (strssC l)), (1, .rd (strsC vs)), (6, .int (((k : Nat) : Int))), (5, .lit v)] (XO J S w0.heap.size [OB.row v 9 1 (out.map strC)]) a w) (fun (ii' : Nat × Value × (List ByteArray)) => match ii' with | (k, _, _) => (l.length - k : Nat)) ?_ ?_))))))
 ·
  intro a w h
  exact ⟨(0, v1, ([] : List ByteArray)), (show (0 ≤ l.length) ∧ (([] : List ByteArray) = occF vs (l.take 0).flatten) from ⟨Nat.zero_le _, by simp [occF]⟩), lz [1, 2, 3, 0] rfl h⟩
 ·
  rintro ⟨k, v, out⟩
  refine tr_and fun hF => ?_
  obtain ⟨f1_1, f1_2⟩ := hF
  refine k_seq (k_seq (rgo tb hJ [0, 1, 2, 3, 1003] [_, _, .int (((l.length : Nat) : Int)), _] [2] [(_, _), (_, _), (_, _), (_, _), (_, .bool (decide (((k : Nat) : Int) < ((l.length : Nat) : Int))))] rfl rfl rfl rfl ⟨hLen unds_145_22 rfl rfl rfl rfl, trivial⟩ (nx (tc 4 rfl rfl (fun hb1 => ?_) (fun hb1 => ?_)))))
  ·
   try simp at hb1
   refine tr_skip (nx (k_seq (tr_block (k_seq (rgo tb hJ [0, 1, 2, 3, 1000] [_] [] [(_, _), (_, _), (_, _), (_, _), (_, .int (0 : Int))] rfl rfl rfl rfl trivial (nx (tr_block (tr_loop (ι := Nat × Value × (List ByteArray)) (fun (ii' : Nat × Value × (List ByteArray)) a w => match ii' with | (j, vb, out2) => ((j ≤ (ge l k).length) ∧ (out2 = occF vs ((l.take k).flatten ++ (ge l k).take j))) ∧ St All (SO S [OB.row vb 9 1 (out2.map strC)]) w0 46 [(0, .rd (strssC l)), (1, .rd (strsC vs)), (6, .int (((k : Nat) : Int))), (7, .int (((j : Nat) : Int))), (5, .lit vb)] (XO J S w0.heap.size [OB.row vb 9 1 (out2.map strC)]) a w) (fun (ii' : Nat × Value × (List ByteArray)) => match ii' with | (j, _, _) => ((ge l k).length - j : Nat)) ?_ ?_))))))))
   ·
    intro a w h
    exact ⟨(0, v, out), (show (0 ≤ (ge l k).length) ∧ (out = occF vs ((l.take k).flatten ++ (ge l k).take 0)) from ⟨Nat.zero_le _, by simp [f1_2]⟩), lz [0, 1, 2, 4, 3] rfl h⟩
   ·
    rintro ⟨j, vb, out2⟩
    refine tr_and fun hF => ?_
    obtain ⟨f2_1, f2_2⟩ := hF
    refine k_seq (k_seq (rgo tb hJ [0, 1, 2, 3, 4, 1004, 1006] [_, _, _, .ptr [strsC (ge l k)], _, .int ((((ge l k).length : Nat) : Int)), _] [3, 5] [(_, _), (_, _), (_, _), (_, _), (_, _), (_, .rd (strsC (ge l k))), (_, .bool (decide (((j : Nat) : Int) < (((ge l k).length : Nat) : Int))))] rfl rfl rfl rfl ⟨hIx elem_145_22_1 (by first | omega | (simp; omega) | grind [ge_mem]) rfl rfl rfl rfl rfl rfl, hLen unds_22_9 rfl rfl rfl rfl, trivial⟩ (nx (tr_fact (fun a w h => len_le h 5 rfl) fun hl3 => tc 6 rfl rfl (fun hb2 => ?_) (fun hb2 => ?_)))))
    ·
     try simp at hb2
     refine tr_skip (nx (k_seq (tr_block (k_seq (rgo tb hJ [0, 1, 2, 3, 4, 1007] [_, _, .ptr [strsC (ge l k)], _, _, .ptr [.lit (.string ((ge (ge l k) j)))], _, _] [2, 5] [(_, _), (_, _), (_, _), (_, _), (_, _), (_, .str ((ge (ge l k) j)))] rfl rfl rfl rfl ⟨hIx elem_145_22_1 (by first | omega | (simp; omega) | grind [ge_mem]) rfl rfl rfl rfl rfl rfl, hIx elem_22_9_1 (by first | omega | (simp; omega) | grind [ge_mem]) rfl rfl rfl rfl rfl rfl, trivial⟩ (nx (k_seq (rgr tb hJ [0, 1, 2, 3, 4, 5, 1008] [_, _, .bool (decide (((ge (ge l k) j)) ∈ vs)), _, _, _, .bool (decide (((ge (ge l k) j)) ∈ out2)), _, _] [2, 6] [(_, _), (_, _), (_, _), (_, _), (_, _), (_, _), (_, .bool ((decide (((ge (ge l k) j)) ∈ vs)) && (!(decide (((ge (ge l k) j)) ∈ out2)))))] rfl rfl rfl rfl ⟨hFr hS hJ (c_Has hJ (xs := vs) (s := ((ge (ge l k) j))) ) call_105 rfl rfl rfl rfl, fun _ _ hk hx hl hc => r_fn (c_Has hJ (xs := out2) (s := ((ge (ge l k) j))) ) call_105 rfl (nm hS hk) (hx.1) (relL_cons (own_view hS hx (mo 0 rfl) (hl.dep 4 36 _ rfl rfl rfl hc)) (relL_cons (hl.dep 5 37 _ rfl rfl rfl hc) relL_nil)) (jo hJ hx), trivial⟩ (nx (tc 6 rfl rfl (fun hb3 => ?_) (fun hb3 => ?_)))))))))))
     ·
      try simp at hb3
      refine tr_text (sv tb rfl rfl rfl rfl (sv tb rfl rfl rfl rfl (sq (.rd (strsC ([(ge (ge l k) j)]))) rfl rfl (lb rfl) (fun _ _ h => r_build1 elem_22_9_1 zero_9 rfl (h.get 0 rfl) (xo_new hS _ h.keep h.x _ (Nat.le_refl _)) (jo hJ h.x)) (sq_appendM (f := strC) (m := 2) (s := 41) out2 ([(ge (ge l k) j)]) (fun _ => rfl) app_22_9 hJ hJ0 rfl rfl rfl (lb rfl) rfl rfl (fun a w h => (h.get 0 rfl)) (by have := occF_le vs ((l.take k).flatten ++ (ge l k).take j); simp [f2_2]; omega) (by have := occF_le vs ((l.take k).flatten ++ (ge l k).take j); simp [f2_2]; omega) fun v2 => ?_))))
      refine sv tb rfl rfl rfl rfl (sq_end ?_)
      refine kw (lz [0, 2, 5, 6, 7, 8] (env' := [(_, _), (_, _), (_, _), (_, _), (_, _), (_, _)]) rfl) ?_
      refine nx (tr_fact (fun a w h => len_le h 1 rfl) fun hl4 => rgo tb hJ [0, 2, 3, 4, 1002] [_, .int (((j + 1 : Nat) : Int)), _] [1] [(_, _), (_, _), (_, _), (_, _), (_, .int (((j + 1 : Nat) : Int)))] rfl rfl rfl rfl ⟨hAdd (by first | omega | (simp; omega) | grind [ge_mem]) rfl rfl rfl rfl rfl, trivial⟩ ?_)
      intro a w h; change ∃ j, _ ∧ _
      exact ⟨(j + 1, v2, out2 ++ ([(ge (ge l k) j)])), ⟨⟨(show (j + 1) ≤ (ge l k).length from by omega), (show (out2 ++ ([(ge (ge l k) j)])) = occF vs ((l.take k).flatten ++ (ge l k).take (j + 1)) from by rw [take_ge (by omega), ← List.append_assoc, occF_snoc, ← f2_2]; simp [hb3])⟩, lz [1, 2, 3, 4, 0] rfl h⟩, (show (ge l k).length - (j + 1) < (ge l k).length - j from by first | omega | (simp; omega))⟩
     ·
      try simp at hb3
      refine tr_skip (nx (rgo tb hJ [0, 1, 2, 4, 1002] [_, .int (((j + 1 : Nat) : Int)), _] [1] [(_, _), (_, _), (_, _), (_, _), (_, .int (((j + 1 : Nat) : Int)))] rfl rfl rfl rfl ⟨hAdd (by first | omega | (simp; omega) | grind [ge_mem]) rfl rfl rfl rfl rfl, trivial⟩ ?_))
      intro a w h; change ∃ j, _ ∧ _
      exact ⟨(j + 1, vb, out2), ⟨⟨(show (j + 1) ≤ (ge l k).length from by omega), (show out2 = occF vs ((l.take k).flatten ++ (ge l k).take (j + 1)) from by rw [take_ge (by omega), ← List.append_assoc, occF_snoc, ← f2_2]; simp; grind)⟩, lz [0, 1, 2, 4, 3] rfl h⟩, (show (ge l k).length - (j + 1) < (ge l k).length - j from by first | omega | (simp; omega))⟩
    ·
     try simp at hb2
     refine tr_exit (nx (rgo tb hJ [0, 1, 4, 1002] [_, .int (((k + 1 : Nat) : Int)), _] [1] [(_, _), (_, _), (_, _), (_, .int (((k + 1 : Nat) : Int)))] rfl rfl rfl rfl ⟨hAdd (by first | omega | (simp; omega) | grind [ge_mem]) rfl rfl rfl rfl rfl, trivial⟩ ?_))
     intro a w h; change ∃ j, _ ∧ _
     exact ⟨(k + 1, vb, out2), ⟨⟨(show (k + 1) ≤ l.length from by omega), (show out2 = occF vs (l.take (k + 1)).flatten from by rw [f2_2, take_all (xs := ge l k) (by omega), take_ge (by omega)]; simp)⟩, lz [0, 1, 3, 2] rfl h⟩, (show l.length - (k + 1) < l.length - k from by first | omega | (simp; omega))⟩
  ·
   try simp at hb1
   refine tr_exit (nx (k_seq (rgo tb hJ [1001] [_, _] [] [(_, .lit v)] rfl rfl rfl rfl trivial (nx ?_))))
   refine tw (fun h => st_freeze hS h (m := 0) (s := 4) rfl) ?_
   refine tr_ret (fun a w h => leave1' (m := 0) rfl (st_disown h) rfl (congrArg (fun z => AV.rd (strsC z)) (show out = (occF vs l.flatten) from by rw [f1_2, take_all (by omega)])))

theorem c_Essentials {J : World → Prop} (hJ : Stab J) (f : Fr) (b : f.hyps.length * 48 ≤ 140737488351232) : Fn Tryz.prog J 114 [.agg (frC f)] (.rd (strsC ((essF f.hyps).map Hy.label))) := by
 refine fn_enter (N := 30) Tryz.func114 rfl rfl (lb rfl) fun S w0 hS hJ0 => ?_
 refine tw st_own ?_
 refine k_seq (rgo tb hJ [1000] [_, _] [0] [(_, .ptr (frC f))] rfl rfl rfl rfl ⟨fun _ _ hk hx hl _ => r_box rfl (hl.env 0 0 _ rfl rfl) (xo_new hS _ hk hx _ (Nat.le_refl _)) (jo hJ hx), trivial⟩ (nx (k_seq (tr_text (sq_own0 elem_22_9_1 hJ rfl rfl rfl (lb rfl) fun v1 => ?_)))))
 refine sv tb rfl rfl rfl rfl (sq_end ?_)
 refine kw (lz [0, 2] (env' := [(_, _), (_, _)]) rfl) ?_
 refine nx (k_seq (k_seq (rgo tb hJ [0, 1, 1000] [_] [] [(_, _), (_, _), (_, .int (0 : Int))] rfl rfl rfl rfl trivial (nx (tr_block (tr_loop (ι := Nat × Value × (List ByteArray)) (fun (ii' : Nat × Value × (List ByteArray)) a w => match ii' with | (k, v, out) => ((k ≤ f.hyps.length) ∧ (out = (essF (f.hyps.take k)).map Hy.label) ∧ (out.length ≤ k)) ∧ St All (SO S [OB.row v 9 1 (out.map strC)]) w0 30 [(1, .ptr (frC f)), (4, .int (((k : Nat) : Int))), (3, .lit v)] (XO J S w0.heap.size [OB.row v 9 1 (out.map strC)]) a w) (fun (ii' : Nat × Value × (List ByteArray)) => match ii' with | (k, _, _) => (f.hyps.length - k : Nat)) ?_ ?_))))))
 ·
  intro a w h
  exact ⟨(0, v1, ([] : List ByteArray)), (show (0 ≤ f.hyps.length) ∧ (([] : List ByteArray) = (essF (f.hyps.take 0)).map Hy.label) ∧ (([] : List ByteArray).length ≤ 0) from ⟨Nat.zero_le _, by simp [essF], by simp⟩), lz [1, 2, 0] rfl h⟩
 ·
  rintro ⟨k, v, out⟩
  refine tr_and fun hF => ?_
  obtain ⟨f1_1, f1_2, f1_3⟩ := hF
  refine k_seq (k_seq (rgo tb hJ [0, 1, 2, 1002, 1004] [_, _, _, .int (((f.hyps.length : Nat) : Int)), _] [3] [(_, _), (_, _), (_, _), (_, .rd (hysC f.hyps)), (_, .bool (decide (((k : Nat) : Int) < ((f.hyps.length : Nat) : Int))))] rfl rfl rfl rfl ⟨hLen unds_56_109 rfl rfl rfl rfl, trivial⟩ (nx (tr_fact (fun a w h => len_le h 3 rfl) fun hl1 => tc 4 rfl rfl (fun hb1 => ?_) (fun hb1 => ?_)))))
  ·
   try simp at hb1
   refine tr_skip (nx (k_seq (tr_block (k_seq (rgo tb hJ [0, 1, 2, 1006] [_, _, _, .ptr (hyC (ge f.hyps k)), _, _, _] [3] [(_, _), (_, _), (_, _), (_, .bool (!((ge f.hyps k).floating)))] rfl rfl rfl rfl ⟨hIx elem_56_109_3 (by first | omega | (simp; omega) | grind [ge_mem]) rfl rfl rfl rfl rfl rfl, trivial⟩ (nx (tc 3 rfl rfl (fun hb2 => ?_) (fun hb2 => ?_))))))))
   ·
    try simp at hb2
    refine tr_text (sv tb rfl rfl rfl rfl (sv (av := .ptr [hysC f.hyps, prsC f.apart, strsC f.text, hysC f.dummies, prsC f.wide, strsC f.proof]) tb rfl rfl rfl rfl (sv (av := .rd (hysC f.hyps)) tb rfl rfl rfl rfl (sv tb rfl rfl rfl rfl (sq (.ptr (hyC (ge f.hyps k))) rfl rfl (lb rfl) (fun _ _ h => r_index (i := ((k : Nat) : Int)) elem_56_109_3 rfl (h.get 1 rfl) (h.get 0 rfl) (Int.natCast_nonneg _) (row_nat (xs := f.hyps) (k := k) (by first | omega | (simp; omega) | grind [ge_mem])) rfl h.x) (sv (av := .ptr (hyC (ge f.hyps k))) tb rfl rfl rfl rfl (sv (av := .str ((ge f.hyps k).label)) tb rfl rfl rfl rfl (sq (.rd (strsC ([(ge f.hyps k).label]))) rfl rfl (lb rfl) (fun _ _ h => r_build1 elem_22_9_1 zero_9 rfl (h.get 0 rfl) (xo_new hS _ h.keep h.x _ (Nat.le_refl _)) (jo hJ h.x)) (sq_appendM (f := strC) (m := 7) (s := 20) out ([(ge f.hyps k).label]) (fun _ => rfl) app_22_9 hJ hJ0 rfl rfl rfl (lb rfl) rfl rfl (fun a w h => (h.get 0 rfl)) (by first | omega | (simp; omega) | grind [ge_mem]) (by first | omega | (simp; omega) | grind [ge_mem]) fun v2 => ?_)))))))))
    refine sv tb rfl rfl rfl rfl (sq_end ?_)
    refine kw (lz [0, 2, 10, 11] (env' := [(_, _), (_, _), (_, _), (_, _)]) rfl) ?_
    refine nx (tr_fact (fun a w h => len_le h 1 rfl) fun hl2 => rgo tb hJ [0, 2, 1002] [_, .int (((k + 1 : Nat) : Int)), _] [1] [(_, _), (_, _), (_, .int (((k + 1 : Nat) : Int)))] rfl rfl rfl rfl ⟨hAdd (by first | omega | (simp; omega) | grind [ge_mem]) rfl rfl rfl rfl rfl, trivial⟩ ?_)
    intro a w h; change ∃ j, _ ∧ _
    exact ⟨(k + 1, v2, out ++ ([(ge f.hyps k).label])), ⟨⟨(show (k + 1) ≤ f.hyps.length from by omega), (show (out ++ ([(ge f.hyps k).label])) = (essF (f.hyps.take (k + 1))).map Hy.label from by rw [essF, filter_take_succ (by omega), f1_2]; simp [essF, hb2]), (show (out ++ ([(ge f.hyps k).label])).length ≤ (k + 1) from by simp; omega)⟩, lz [1, 2, 0] rfl h⟩, (show f.hyps.length - (k + 1) < f.hyps.length - k from by first | omega | (simp; omega))⟩
   ·
    try simp at hb2
    refine tr_skip (nx (rgo tb hJ [0, 2, 1002] [_, .int (((k + 1 : Nat) : Int)), _] [1] [(_, _), (_, _), (_, .int (((k + 1 : Nat) : Int)))] rfl rfl rfl rfl ⟨hAdd (by first | omega | (simp; omega) | grind [ge_mem]) rfl rfl rfl rfl rfl, trivial⟩ ?_))
    intro a w h; change ∃ j, _ ∧ _
    exact ⟨(k + 1, v, out), ⟨⟨(show (k + 1) ≤ f.hyps.length from by omega), (show out = (essF (f.hyps.take (k + 1))).map Hy.label from by rw [essF, filter_take_succ (by omega), f1_2]; simp [essF, hb2]), (show out.length ≤ (k + 1) from by omega)⟩, lz [0, 2, 1] rfl h⟩, (show f.hyps.length - (k + 1) < f.hyps.length - k from by first | omega | (simp; omega))⟩
  ·
   try simp at hb1
   refine tr_exit (nx (k_seq (rgo tb hJ [1001] [_, _] [] [(_, .lit v)] rfl rfl rfl rfl trivial (nx ?_))))
   refine tw (fun h => st_freeze hS h (m := 0) (s := 2) rfl) ?_
   refine tr_ret (fun a w h => leave1' (m := 0) rfl (st_disown h) rfl (congrArg (fun z => AV.rd (strsC z)) (show out = ((essF f.hyps).map Hy.label) from by rw [f1_2, take_all (by omega)])))

theorem c_formulas {J : World → Prop} (hJ : Stab J) (hs : List Hy) (t : List ByteArray) (b : hs.length ≤ 40) : Fn Tryz.prog J 137 [.rd (hysC hs), .rd (strsC t)] (.rd (strssC (t :: (essF hs).map Hy.text))) := by
 refine fn_enter (N := 30) Tryz.func137 rfl rfl (lb rfl) fun S w0 hS hJ0 => ?_
 refine tw st_own ?_
 refine tr_fact (fun a w h => len_le h 0 rfl) fun hl1 => tr_fact (fun a w h => len_le h 1 rfl) fun hl2 => k_seq (rgo tb hJ [0, 1] [_] [] [(_, _), (_, _)] rfl rfl rfl rfl trivial (nx (k_seq (tr_text (sv tb rfl rfl rfl rfl (sq_own1 elem_145_22_1 zero_22 hJ rfl rfl rfl (lb rfl) (fun _ _ h => (h.get 0 rfl)) fun v1 => ?_))))))
 refine sv tb rfl rfl rfl rfl (sq_end ?_)
 refine kw (lz [0, 3] (env' := [(_, _), (_, _)]) rfl) ?_
 refine nx (k_seq (k_seq (rgo tb hJ [0, 1, 1000] [_] [] [(_, _), (_, _), (_, .int (0 : Int))] rfl rfl rfl rfl trivial (nx (tr_block (tr_loop (ι := Nat × Value × (List (List ByteArray))) (fun (ii' : Nat × Value × (List (List ByteArray))) a w => match ii' with | (k, v, out) => ((k ≤ hs.length) ∧ (out = t :: (essF (hs.take k)).map Hy.text) ∧ (out.length ≤ k + 1)) ∧ St All (SO S [OB.row v 22 1 (out.map strs1C)]) w0 30 [(0, .rd (hysC hs)), (6, .int (((k : Nat) : Int))), (5, .lit v)] (XO J S w0.heap.size [OB.row v 22 1 (out.map strs1C)]) a w) (fun (ii' : Nat × Value × (List (List ByteArray))) => match ii' with | (k, _, _) => (hs.length - k : Nat)) ?_ ?_))))))
 ·
  intro a w h
  exact ⟨(0, v1, [t]), (show (0 ≤ hs.length) ∧ (([t]) = t :: (essF (hs.take 0)).map Hy.text) ∧ (([t]).length ≤ 0 + 1) from ⟨Nat.zero_le _, by simp [essF], by simp⟩), lz [1, 2, 0] rfl h⟩
 ·
  rintro ⟨k, v, out⟩
  refine tr_and fun hF => ?_
  obtain ⟨f1_1, f1_2, f1_3⟩ := hF
  refine k_seq (k_seq (rgo tb hJ [0, 1, 2, 1003] [_, _, .int (((hs.length : Nat) : Int)), _] [2] [(_, _), (_, _), (_, _), (_, .bool (decide (((k : Nat) : Int) < ((hs.length : Nat) : Int))))] rfl rfl rfl rfl ⟨hLen unds_56_109 rfl rfl rfl rfl, trivial⟩ (nx (tc 3 rfl rfl (fun hb1 => ?_) (fun hb1 => ?_)))))
  ·
   try simp at hb1
   refine tr_skip (nx (k_seq (tr_block (k_seq (rgo tb hJ [0, 1, 2, 1005] [_, _, .ptr (hyC (ge hs k)), _, _, _] [2] [(_, _), (_, _), (_, _), (_, .bool (!((ge hs k).floating)))] rfl rfl rfl rfl ⟨hIx elem_56_109_3 (by first | omega | (simp; omega) | grind [ge_mem]) rfl rfl rfl rfl rfl rfl, trivial⟩ (nx (tc 3 rfl rfl (fun hb2 => ?_) (fun hb2 => ?_))))))))
   ·
    try simp at hb2
    refine tr_text (sv tb rfl rfl rfl rfl (sv tb rfl rfl rfl rfl (sv tb rfl rfl rfl rfl (sq (.ptr (hyC (ge hs k))) rfl rfl (lb rfl) (fun _ _ h => r_index (i := ((k : Nat) : Int)) elem_56_109_3 rfl (h.get 1 rfl) (h.get 0 rfl) (Int.natCast_nonneg _) (row_nat (xs := hs) (k := k) (by first | omega | (simp; omega) | grind [ge_mem])) rfl h.x) (sv (av := .ptr [strsC ((ge hs k).text)]) tb rfl rfl rfl rfl (sv (av := .rd (strsC ((ge hs k).text))) tb rfl rfl rfl rfl (sq (.rd (strssC ([(ge hs k).text]))) rfl rfl (lb rfl) (fun _ _ h => r_build1 elem_145_22_1 zero_22 rfl (h.get 0 rfl) (xo_new hS _ h.keep h.x _ (Nat.le_refl _)) (jo hJ h.x)) (sq_appendM (f := strs1C) (m := 6) (s := 21) out ([(ge hs k).text]) (fun _ => rfl) app_145_22 hJ hJ0 rfl rfl rfl (lb rfl) rfl rfl (fun a w h => (h.get 0 rfl)) (by first | omega | (simp; omega) | grind [ge_mem]) (by first | omega | (simp; omega) | grind [ge_mem]) fun v2 => ?_))))))))
    refine sv tb rfl rfl rfl rfl (sq_end ?_)
    refine kw (lz [0, 2, 3, 9, 10] (env' := [(_, _), (_, _), (_, _), (_, _), (_, _)]) rfl) ?_
    refine nx (tr_fact (fun a w h => len_le h 1 rfl) fun hl3 => tr_fact (fun a w h => len_le h 2 rfl) fun hl4 => rgo tb hJ [0, 3, 1002] [_, .int (((k + 1 : Nat) : Int)), _] [1] [(_, _), (_, _), (_, .int (((k + 1 : Nat) : Int)))] rfl rfl rfl rfl ⟨hAdd (by first | omega | (simp; omega) | grind [ge_mem]) rfl rfl rfl rfl rfl, trivial⟩ ?_)
    intro a w h; change ∃ j, _ ∧ _
    exact ⟨(k + 1, v2, out ++ ([(ge hs k).text])), ⟨⟨(show (k + 1) ≤ hs.length from by omega), (show (out ++ ([(ge hs k).text])) = t :: (essF (hs.take (k + 1))).map Hy.text from by rw [essF, filter_take_succ (by omega), f1_2]; simp [essF, hb2]), (show (out ++ ([(ge hs k).text])).length ≤ (k + 1) + 1 from by simp; omega)⟩, lz [1, 2, 0] rfl h⟩, (show hs.length - (k + 1) < hs.length - k from by first | omega | (simp; omega))⟩
   ·
    try simp at hb2
    refine tr_skip (nx (rgo tb hJ [0, 2, 1002] [_, .int (((k + 1 : Nat) : Int)), _] [1] [(_, _), (_, _), (_, .int (((k + 1 : Nat) : Int)))] rfl rfl rfl rfl ⟨hAdd (by first | omega | (simp; omega) | grind [ge_mem]) rfl rfl rfl rfl rfl, trivial⟩ ?_))
    intro a w h; change ∃ j, _ ∧ _
    exact ⟨(k + 1, v, out), ⟨⟨(show (k + 1) ≤ hs.length from by omega), (show out = t :: (essF (hs.take (k + 1))).map Hy.text from by rw [essF, filter_take_succ (by omega), f1_2]; simp [essF, hb2]), (show out.length ≤ (k + 1) + 1 from by omega)⟩, lz [0, 2, 1] rfl h⟩, (show hs.length - (k + 1) < hs.length - k from by first | omega | (simp; omega))⟩
  ·
   try simp at hb1
   refine tr_exit (nx (k_seq (rgo tb hJ [1001] [_, _] [] [(_, .lit v)] rfl rfl rfl rfl trivial (nx ?_))))
   refine tw (fun h => st_freeze hS h (m := 0) (s := 4) rfl) ?_
   refine tr_ret (fun a w h => leave1' (m := 0) rfl (st_disown h) rfl (congrArg (fun z => AV.rd (strssC z)) (show out = (t :: (essF hs).map Hy.text) from by rw [f1_2, take_all (by omega)])))

end Go.Proofs.YtnpgmdffjemnbaaGreatDoor
set_option maxHeartbeats 8000000
set_option maxRecDepth 100000
namespace Go.Proofs.YtnpgmdffjemnbaaGreatDoor
open Go.RowKit

theorem c_before {J : World → Prop} (hJ : Stab J) (d : Db) (k : Nat) (hn : k ≤ d.frames.length) (hk0 : k ≤ 400) (hz : 0 < k → (ge d.frames (k - 1)).hyps.length ≤ 40) : Fn Tryz.prog J 116 [.agg (dbC d), .int (((k : Nat) : Int))] (.rd (strsC (befL d k))) := by
 refine fn_enter (N := 14) Tryz.func116 rfl rfl (lb rfl) fun S w0 hS hJ0 => ?_
 clear hJ0
 refine k_seq (rg tb hJ [1, 1000] [_, _] [0] [(_, _), (_, .ptr (dbC d))] rfl rfl rfl rfl ⟨fun _ _ hk hx hl _ => r_box rfl (hl.env 0 0 _ rfl rfl) (hS _ hk.size) (js hJ hx), trivial⟩ (nx (k_seq (k_seq (rg tb hJ [0, 1, 1001] [_, _] [] [(_, _), (_, _), (_, .bool (decide (((k : Nat) : Int) = (0 : Int))))] rfl rfl rfl rfl trivial (nx (tc 2 rfl rfl (fun hb1 => ?_) (fun hb1 => ?_))))))))
 ·
  try simp at hb1
  refine k_seq (rg tb hJ [1000] [_] [] [(_, .lit (.slice none 0 0))] rfl rfl rfl rfl trivial (nx ?_))
  refine tw (fun h => st_nilrd h (m := 0) (s := 4) rfl) ?_
  refine tr_ret (fun a w h => leave1' (m := 0) rfl h rfl (congrArg (fun z => AV.rd (strsC z)) (show ([] : List ByteArray) = (befL d k) from by simp [befL, hb1])))
 ·
  try simp at hb1
  refine tr_skip (nx (k_seq (rg tb hJ [1001, 1006, 1007] [_, _, _, .int (((k : Nat) : Int) - (1 : Int)), .ptr (frC ((ge d.frames (((k : Nat) : Int) - (1 : Int)).toNat))), _, _, _] [3, 4, 6] [(_, .rd (frsC d.frames)), (_, .rd (strsC (((essF ((ge d.frames (((k : Nat) : Int) - (1 : Int)).toNat)).hyps).map Hy.label)))), (_, .rd (strsC (((essF ((ge d.frames (((k : Nat) : Int) - (1 : Int)).toNat)).hyps).map Hy.label))))] rfl rfl rfl rfl ⟨hSub (by first | omega | (simp; omega) | grind [ge_mem]) rfl rfl rfl rfl rfl, hIz elem_23_59_8 (by first | omega | (simp; omega) | grind [ge_mem]) (by first | omega | (simp; omega) | grind [ge_mem]) rfl rfl rfl rfl rfl rfl, hFn hS hJ (c_Essentials hJ (f := ((ge d.frames (((k : Nat) : Int) - (1 : Int)).toNat))) (by have := hz (by omega); rw [show ((k : Int) - 1).toNat = k - 1 by omega]; omega)) call_114 rfl rfl rfl rfl, trivial⟩ (nx (tr_fact (fun a w h => len_le h 0 rfl) fun hl1 => tr_fact (fun a w h => len_le h 1 rfl) fun hl2 => tr_ret (fun a w h => leave1' (m := 2) rfl h rfl (congrArg (fun z => AV.rd (strsC z)) (show (((essF ((ge d.frames (((k : Nat) : Int) - (1 : Int)).toNat)).hyps).map Hy.label)) = (befL d k) from by rw [befL, if_neg hb1, show ((k : Int) - 1).toNat = k - 1 by omega]))))))))

theorem c_label {J : World → Prop} (hJ : Stab J) (d : Db) (n : Nat) (s : ByteArray) (hn : n ≤ d.frames.length) (hz : ∀ i, i < n → (ge d.frames i).hyps.length ≤ 40 ∧ (ge d.frames i).dummies.length ≤ 40) : Fn Tryz.prog J 107 [.agg (dbC d), .int (((n : Nat) : Int)), .str s] (.tup [.bool (frL d n s), .bool (hyL d n s)]) := by
 refine fn_enter (N := 51) Tryz.func107 rfl rfl (lb rfl) fun S w0 hS hJ0 => ?_
 clear hJ0
 refine k_seq (rg tb hJ [1, 2, 1000, 1001, 1002] [_, _, _] [0] [(_, _), (_, _), (_, .ptr (dbC d)), (_, .bool false), (_, .bool false)] rfl rfl rfl rfl ⟨fun _ _ hk hx hl _ => r_box rfl (hl.env 0 0 _ rfl rfl) (hS _ hk.size) (js hJ hx), trivial⟩ (nx (k_seq (k_seq (rg tb hJ [0, 1, 2, 3, 4, 1000] [_] [] [(_, _), (_, _), (_, _), (_, _), (_, _), (_, .int (0 : Int))] rfl rfl rfl rfl trivial (nx (tr_block (tr_loop (ι := Nat × Bool × Bool) (fun (ii' : Nat × Bool × Bool) a w => match ii' with | (k, p, q) => ((k ≤ n) ∧ (p = frL d k s) ∧ (q = hyL d k s)) ∧ St All S w0 51 [(1, .int (((n : Nat) : Int))), (2, .str s), (3, .ptr (dbC d)), (8, .int (((k : Nat) : Int))), (6, .bool p), (7, .bool q)] J a w) (fun (ii' : Nat × Bool × Bool) => match ii' with | (k, _, _) => (n - k : Nat)) ?_ ?_))))))))
 ·
  intro a w h
  exact ⟨(0, false, false), (show (0 ≤ n) ∧ (false = frL d 0 s) ∧ (false = hyL d 0 s) from ⟨Nat.zero_le _, by simp [frL], by simp [hyL]⟩), lz [0, 1, 2, 5, 3, 4] rfl h⟩
 ·
  rintro ⟨k, p, q⟩
  refine tr_and fun hF => ?_
  obtain ⟨f1_1, f1_2, f1_3⟩ := hF
  refine k_seq (k_seq (rg tb hJ [0, 1, 2, 3, 4, 5, 1002] [_, _, _] [] [(_, _), (_, _), (_, _), (_, _), (_, _), (_, _), (_, .bool (decide (((k : Nat) : Int) < ((n : Nat) : Int))))] rfl rfl rfl rfl trivial (nx (tc 6 rfl rfl (fun hb1 => ?_) (fun hb1 => ?_)))))
  ·
   try simp at hb1
   refine tr_skip (nx (k_seq (tr_block (k_seq (rg tb hJ [0, 1, 2, 3, 5, 1011] [_, _, _, _, _, .ptr (frC (ge d.frames k)), _, _, _, _, _, _] [5] [(_, _), (_, _), (_, _), (_, _), (_, _), (_, .bool (p || (decide (((ge d.frames k).label) = s))))] rfl rfl rfl rfl ⟨fun _ _ _ hx hl hc => r_index (i := ((k : Nat) : Int)) elem_23_59_8 rfl (hl.dep 3 19 _ rfl rfl rfl hc) (hl.dep 4 20 _ rfl rfl rfl hc) (Int.natCast_nonneg _) (row_nat (xs := d.frames) (k := k) (by have hc' : ((p == false)) = true := hc; (try simp at hc'); (first | omega | (simp; omega) | grind [ge_mem]))) rfl hx, trivial⟩ (nx (k_seq (rg tb hJ [0, 1, 2, 3, 4, 5, 1001, 1005, 1006] [_, _, _, .ptr (frC (ge d.frames k)), _, _, _] [3, 5] [(_, _), (_, _), (_, _), (_, _), (_, _), (_, _), (_, .rd (frsC d.frames)), (_, .rd (hysC (((ge d.frames k).hyps ++ (ge d.frames k).dummies)))), (_, .rd (hysC (((ge d.frames k).hyps ++ (ge d.frames k).dummies))))] rfl rfl rfl rfl ⟨hIx elem_23_59_8 (by first | omega | (simp; omega) | grind [ge_mem]) rfl rfl rfl rfl rfl rfl, hFn hS hJ (c_All hJ (f := (ge d.frames k)) (by have := hz k (by omega); omega)) call_109 rfl rfl rfl rfl, trivial⟩ (nx (tr_fact (fun a w h => len_le h 6 rfl) fun hl1 => tr_fact (fun a w h => len_le h 7 rfl) fun hl2 => k_seq ?_))))))))))
   refine rg tb hJ [0, 1, 2, 3, 4, 5, 8, 1000] [_] [] [(_, _), (_, _), (_, _), (_, _), (_, _), (_, _), (_, _), (_, .int (0 : Int))] rfl rfl rfl rfl trivial (nx (tr_block (tr_loop (ι := Nat × Bool) (fun (ii' : Nat × Bool) a w => match ii' with | (j, q2) => ((j ≤ ((ge d.frames k).hyps ++ (ge d.frames k).dummies).length) ∧ (q2 = (hyL d k s || (((ge d.frames k).hyps ++ (ge d.frames k).dummies).take j).any fun h => decide (h.label = s)))) ∧ St All S w0 51 [(1, .int (((n : Nat) : Int))), (2, .str s), (3, .ptr (dbC d)), (8, .int (((k : Nat) : Int))), (6, .bool (p || (decide (((ge d.frames k).label) = s)))), (9, .rd (hysC (((ge d.frames k).hyps ++ (ge d.frames k).dummies)))), (10, .int (((j : Nat) : Int))), (7, .bool q2)] J a w) (fun (ii' : Nat × Bool) => match ii' with | (j, _) => (((ge d.frames k).hyps ++ (ge d.frames k).dummies).length - j : Nat)) ?_ ?_)))
   ·
    intro a w h
    exact ⟨(0, q), (show (0 ≤ ((ge d.frames k).hyps ++ (ge d.frames k).dummies).length) ∧ (q = (hyL d k s || (((ge d.frames k).hyps ++ (ge d.frames k).dummies).take 0).any fun h => decide (h.label = s))) from ⟨Nat.zero_le _, by simp [f1_3]⟩), lz [0, 1, 2, 3, 5, 6, 7, 4] rfl h⟩
   ·
    rintro ⟨j, q2⟩
    refine tr_and fun hF => ?_
    obtain ⟨f2_1, f2_2⟩ := hF
    refine k_seq (k_seq (rg tb hJ [0, 1, 2, 3, 4, 5, 6, 7, 1003] [_, _, .int ((((((ge d.frames k).hyps ++ (ge d.frames k).dummies)).length : Nat) : Int)), _] [2] [(_, _), (_, _), (_, _), (_, _), (_, _), (_, _), (_, _), (_, _), (_, .bool (decide (((j : Nat) : Int) < (((((ge d.frames k).hyps ++ (ge d.frames k).dummies)).length : Nat) : Int))))] rfl rfl rfl rfl ⟨hLen unds_56_109 rfl rfl rfl rfl, trivial⟩ (nx (tc 8 rfl rfl (fun hb2 => ?_) (fun hb2 => ?_)))))
    ·
     try simp at hb2
     refine tr_skip (nx (k_seq (tr_block (rg tb hJ [0, 1, 2, 3, 4, 5, 6, 1010] [_, _, _, _, .ptr (hyC ((ge (((ge d.frames k).hyps ++ (ge d.frames k).dummies)) j))), _, _, _, _, _, _] [4] [(_, _), (_, _), (_, _), (_, _), (_, _), (_, _), (_, _), (_, .bool (q2 || (decide ((((ge (((ge d.frames k).hyps ++ (ge d.frames k).dummies)) j)).label) = s))))] rfl rfl rfl rfl ⟨fun _ _ _ hx hl hc => r_index (i := ((j : Nat) : Int)) elem_56_109_3 rfl (hl.dep 2 41 _ rfl rfl rfl hc) (hl.dep 3 42 _ rfl rfl rfl hc) (Int.natCast_nonneg _) (row_nat (xs := ((ge d.frames k).hyps ++ (ge d.frames k).dummies)) (k := j) (by have hc' : ((q2 == false)) = true := hc; (try simp at hc'); (first | omega | (simp; omega) | grind [ge_mem]))) rfl hx, trivial⟩ (nx (rg tb hJ [0, 1, 2, 3, 4, 5, 7, 1002] [_, .int (((j + 1 : Nat) : Int)), _] [1] [(_, _), (_, _), (_, _), (_, _), (_, _), (_, _), (_, _), (_, .int (((j + 1 : Nat) : Int)))] rfl rfl rfl rfl ⟨hAdd (by first | omega | (simp; omega) | grind [ge_mem]) rfl rfl rfl rfl rfl, trivial⟩ ?_))))))
     intro a w h; change ∃ j, _ ∧ _
     exact ⟨(j + 1, q2 || (decide ((((ge (((ge d.frames k).hyps ++ (ge d.frames k).dummies)) j)).label) = s))), ⟨⟨(show (j + 1) ≤ ((ge d.frames k).hyps ++ (ge d.frames k).dummies).length from by simp; omega), (show (q2 || (decide ((((ge (((ge d.frames k).hyps ++ (ge d.frames k).dummies)) j)).label) = s))) = (hyL d k s || (((ge d.frames k).hyps ++ (ge d.frames k).dummies).take (j + 1)).any fun h => decide (h.label = s)) from by rw [any_take_succ (by simp; omega), ← Bool.or_assoc, ← f2_2])⟩, lz [0, 1, 2, 3, 4, 5, 7, 6] rfl h⟩, (show ((ge d.frames k).hyps ++ (ge d.frames k).dummies).length - (j + 1) < ((ge d.frames k).hyps ++ (ge d.frames k).dummies).length - j from by first | omega | (simp; omega))⟩
    ·
     try simp at hb2
     refine tr_exit (nx (rg tb hJ [0, 1, 2, 4, 7, 1002] [_, .int (((k + 1 : Nat) : Int)), _] [1] [(_, _), (_, _), (_, _), (_, _), (_, _), (_, .int (((k + 1 : Nat) : Int)))] rfl rfl rfl rfl ⟨hAdd (by first | omega | (simp; omega) | grind [ge_mem]) rfl rfl rfl rfl rfl, trivial⟩ ?_))
     intro a w h; change ∃ j, _ ∧ _
     exact ⟨(k + 1, p || (decide (((ge d.frames k).label) = s)), q2), ⟨⟨(show (k + 1) ≤ n from by omega), (show (p || (decide (((ge d.frames k).label) = s))) = frL d (k + 1) s from by rw [f1_2, frL, frL, any_take_succ (by omega)]), (show q2 = hyL d (k + 1) s from by rw [f2_2, take_all (xs := ((ge d.frames k).hyps ++ (ge d.frames k).dummies)) (by simp; omega), hyL, hyL, any_take_succ (by omega)])⟩, lz [0, 1, 2, 5, 3, 4] rfl h⟩, (show n - (k + 1) < n - k from by first | omega | (simp; omega))⟩
  ·
   try simp at hb1
   refine tr_exit (nx (k_seq (rg tb hJ [1002, 1003] [_, _, _, _] [] [(_, .bool p), (_, .bool q)] rfl rfl rfl rfl trivial (nx (tr_ret (fun a w h => leave2' (m := 0) (k := 1) rfl h rfl rfl (congrArg AV.bool (show p = (frL d n s) from by rw [f1_2, show k = n by omega])) (congrArg AV.bool (show q = (hyL d n s) from by rw [f1_3, show k = n by omega]))))))))

theorem c_less {J : World → Prop} (hJ : Stab J) (x : Pr) (y : Pr)  : Fn Tryz.prog J 179 [.agg (prC x), .agg (prC y)] (.bool (ltP x y)) := by
 refine fn_enter (N := 24) Tryz.func179 rfl rfl (lb rfl) fun S w0 hS hJ0 => ?_
 clear hJ0
 refine k_seq (rg tb hJ [1000, 1001] [_, _, _] [0, 1] [(_, .ptr (prC x)), (_, .ptr (prC y))] rfl rfl rfl rfl ⟨fun _ _ hk hx hl _ => r_box rfl (hl.env 0 0 _ rfl rfl) (hS _ hk.size) (js hJ hx), fun _ _ hk hx hl _ => r_box rfl (hl.env 1 1 _ rfl rfl) (hS _ hk.size) (js hJ hx), trivial⟩ (nx (k_seq (rg tb hJ [1019] [_, _, _, _, _, _, _, _, _, _, _, _, _, _, _, _, _, _, _, _] [] [(_, .bool ((Op.bytesLess x.a.toList y.a.toList) || ((decide (x.a = y.a)) && (Op.bytesLess x.b.toList y.b.toList))))] rfl rfl rfl rfl trivial (nx (tr_ret (fun a w h => leave1' (m := 0) rfl h rfl (congrArg AV.bool (show ((Op.bytesLess x.a.toList y.a.toList) || ((decide (x.a = y.a)) && (Op.bytesLess x.b.toList y.b.toList))) = (ltP x y) from by first | rfl | grind [ge_mem])))))))))

theorem c_put {J : World → Prop} (hJ : Stab J) (l : List Pr) (p : Pr) (b : (l.length + 1) * 32 ≤ 140737488351264) : Fn Tryz.prog J 165 [.rd (prsC l), .agg (prC p)] (.rd (prsC (putF l p))) := by
 refine fn_enter (N := 45) Tryz.func165 rfl rfl (lb rfl) fun S w0 hS hJ0 => ?_
 refine tw st_own ?_
 refine tr_fact (fun a w h => len_le h 0 rfl) fun hl1 => k_seq (rgo tb hJ [0, 1000] [_, _] [0] [(_, _), (_, .ptr (prC p))] rfl rfl rfl rfl ⟨fun _ _ hk hx hl _ => r_box rfl (hl.env 1 1 _ rfl rfl) (xo_new hS _ hk hx _ (Nat.le_refl _)) (jo hJ hx), trivial⟩ (nx (k_seq (rgo tb hJ [0, 1, 1000] [_] [] [(_, _), (_, _), (_, .int (0 : Int))] rfl rfl rfl rfl trivial (nx (k_seq (tr_block (tr_loop (ι := Nat) (fun (k : Nat) a w => ((k ≤ l.length) ∧ (∀ j, j < k → ltP (ge l j) p = true)) ∧ St All (SO S []) w0 45 [(0, .rd (prsC l)), (3, .ptr (prC p)), (5, .int (((k : Nat) : Int)))] (XO J S w0.heap.size []) a w) (fun (k : Nat) => (l.length - k : Nat)) ?_ ?_))))))))
 ·
  intro a w h
  exact ⟨0, (show (0 ≤ l.length) ∧ (∀ j, j < 0 → ltP (ge l j) p = true) from by first | trivial | grind), lz [0, 1, 2] rfl h⟩
 ·
  rintro k
  refine tr_and fun hF => ?_
  obtain ⟨f1_1, f1_2⟩ := hF
  refine k_seq (k_seq (rgo tb hJ [0, 1, 2, 1011] [_, _, .int (((l.length : Nat) : Int)), _, _, _, _, .ptr (prC (ge l k)), _, _, .bool (ltP (ge l k) p), _] [2, 7, 10] [(_, _), (_, _), (_, _), (_, .bool ((decide (((k : Nat) : Int) < ((l.length : Nat) : Int))) && (ltP (ge l k) p)))] rfl rfl rfl rfl ⟨hLen unds_57_148 rfl rfl rfl rfl, fun _ _ _ hx hl hc => r_index (i := ((k : Nat) : Int)) elem_57_148_2 rfl (hl.dep 5 11 _ rfl rfl rfl hc) (hl.dep 6 12 _ rfl rfl rfl hc) (Int.natCast_nonneg _) (row_nat (xs := l) (k := k) (by have hc' : (((decide (((k : Nat) : Int) < ((l.length : Nat) : Int))) == true)) = true := hc; (try simp at hc'); (first | omega | (simp; omega) | grind [ge_mem]))) rfl hx, fun _ _ hk hx hl hc => r_fn (c_less hJ (x := (ge l k)) (y := p) ) call_179 rfl (xo_new hS _ hk hx) (hx.1) (relL_cons (hl.dep 8 14 _ rfl rfl rfl hc) (relL_cons (hl.dep 9 15 _ rfl rfl rfl hc) relL_nil)) (jo hJ hx), trivial⟩ (nx (tc 3 rfl rfl (fun hb1 => ?_) (fun hb1 => ?_)))))
  ·
   try simp at hb1
   refine tr_skip (nx (tr_block (rgo tb hJ [0, 1, 1002] [_, .int (((k + 1 : Nat) : Int)), _] [1] [(_, _), (_, _), (_, .int (((k + 1 : Nat) : Int)))] rfl rfl rfl rfl ⟨hAdd (by first | omega | (simp; omega) | grind [ge_mem]) rfl rfl rfl rfl rfl, trivial⟩ ?_)))
   intro a w h; change ∃ j, _ ∧ _
   exact ⟨k + 1, ⟨⟨(show (k + 1) ≤ l.length from by omega), (show ∀ j, j < (k + 1) → ltP (ge l j) p = true from step_all f1_2 (by simp_all))⟩, lz [0, 1, 2] rfl h⟩, (show l.length - (k + 1) < l.length - k from by first | omega | (simp; omega))⟩
  ·
   try simp at hb1
   refine tr_exit (nx (k_seq (k_seq (rgo tb hJ [0, 1, 2, 1011] [_, _, .int (((l.length : Nat) : Int)), _, _, _, _, .ptr (prC (ge l k)), _, _, .bool (decide ((ge l k).a = p.a) && decide ((ge l k).b = p.b)), _] [2, 7, 10] [(_, _), (_, _), (_, _), (_, .bool ((decide (((k : Nat) : Int) < ((l.length : Nat) : Int))) && (decide ((ge l k).a = p.a) && decide ((ge l k).b = p.b))))] rfl rfl rfl rfl ⟨hLen unds_57_148 rfl rfl rfl rfl, fun _ _ _ hx hl hc => r_index (i := ((k : Nat) : Int)) elem_57_148_2 rfl (hl.dep 5 25 _ rfl rfl rfl hc) (hl.dep 6 26 _ rfl rfl rfl hc) (Int.natCast_nonneg _) (row_nat (xs := l) (k := k) (by have hc' : (((decide (((k : Nat) : Int) < ((l.length : Nat) : Int))) == true)) = true := hc; (try simp at hc'); (first | omega | (simp; omega) | grind [ge_mem]))) rfl hx, fun _ _ _ hx hl hc => r_eqlP eqPair rfl (hl.dep 8 28 _ rfl rfl rfl hc) (hl.dep 9 29 _ rfl rfl rfl hc) hx, trivial⟩ (nx (tc 3 rfl rfl (fun hb2 => ?_) (fun hb2 => ?_)))))))
   ·
    try simp at hb2
    refine k_seq (rgo tb hJ [1001] [_, _] [] [(_, .rd (prsC l))] rfl rfl rfl rfl trivial (nx (tr_ret (fun a w h => leave1' (m := 0) rfl (st_disown h) rfl (congrArg (fun z => AV.rd (prsC z)) (show l = (putF l p) from by rw [putF_at l p k f1_1 f1_2 (by grind), if_pos ⟨hb2.1, by simp [prEq, hb2]⟩]))))))
   ·
    try simp at hb2
    refine tr_skip (nx (k_seq ?_))
    refine fun a w h => region_C (id := 6) (t := 57) (e := 148) (size := 2) (bytes := 32) (i0 := 0) (fol := 12) (d := 4) (ch := [(4, ((l.take k).map prC)), (7, (([p]).map prC)), (11, ((l.drop k).map prC))]) (fun ix' => ([.any, .rd (prsC l), .int (((k : Nat) : Int)), .rd (prsC (l.take k)), .any, .agg (prC p), .rd (prsC ([p])), .any, .rd (prsC l), .int (((k : Nat) : Int)), .rd (prsC (l.drop k)), .any, .any] : List AV).getD ix' .any) (fun ix' => ([true, true, true, true, true, true, true, true, true, true, true, true, true] : List Bool).getD ix' true) [] (((l.take k) ++ ([p]) ++ (l.drop k)).map prC) (by simp) ?r6_1 hJ hJ0 h mixedE rfl rfl rfl rfl ⟨?o6_1_0, ⟨?o6_1_1, ⟨?o6_1_2, ⟨?o6_1_3, ⟨?o6_1_4, ⟨?o6_1_5, ⟨?o6_1_6, ⟨?o6_1_7, ⟨?o6_1_8, ⟨?o6_1_9, ⟨?o6_1_10, ⟨?o6_1_11, ⟨?o6_1_12, trivial⟩⟩⟩⟩⟩⟩⟩⟩⟩⟩⟩⟩⟩ trivial (fun v1 => ?n6_1)
    case r6_1 =>
     refine Row.mk' app_57_148 ⟨_, rfl, rfl, rfl, rfl, rfl⟩ ⟨?x6_1_0, ⟨?x6_1_1, ⟨?x6_1_2, trivial⟩⟩⟩ ⟨_, _, _, _, rfl, rfl, rfl, rfl, rfl, rfl, rfl, rfl, rfl⟩ rfl rfl rfl
     case x6_1_0 => exact ⟨_, _, _, _, rfl, rfl, rfl, rfl, rfl, rfl, rfl, rfl, len_map (f := prC) (fun _ => rfl), (by have hm : maxLen = 9223372036854775807 := rfl; simp [upto]; first | omega | (simp; omega) | grind [ge_mem]), (by have hm : maxLen = 9223372036854775807 := rfl; simp [upto]; first | omega | (simp; omega) | grind [ge_mem]), fun _ _ _ _ _ hl => (hl.dep 3 36 _ rfl rfl rfl rfl)⟩
     case x6_1_1 => exact ⟨_, _, _, _, rfl, rfl, rfl, rfl, rfl, rfl, rfl, rfl, len_map (f := prC) (fun _ => rfl), (by have hm : maxLen = 9223372036854775807 := rfl; simp [upto]; first | omega | (simp; omega) | grind [ge_mem]), (by have hm : maxLen = 9223372036854775807 := rfl; simp [upto]; first | omega | (simp; omega) | grind [ge_mem]), fun _ _ _ _ _ hl => (hl.dep 6 39 _ rfl rfl rfl rfl)⟩
     case x6_1_2 => exact ⟨_, _, _, _, rfl, rfl, rfl, rfl, rfl, rfl, rfl, rfl, len_map (f := prC) (fun _ => rfl), (by have hm : maxLen = 9223372036854775807 := rfl; simp [upto]; first | omega | (simp; omega) | grind [ge_mem]), (by have hm : maxLen = 9223372036854775807 := rfl; simp [upto]; first | omega | (simp; omega) | grind [ge_mem]), fun _ _ _ _ _ hl => (hl.dep 10 43 _ rfl rfl rfl rfl)⟩
    case o6_1_0 => exact fun h => not_in_row rfl h
    case o6_1_1 => exact fun _ _ => ⟨rfl, fun _ _ _ hx hl _ => r_move rfl (hl.env 0 0 _ rfl rfl) hx⟩
    case o6_1_2 => exact fun _ _ => ⟨rfl, fun _ _ _ hx hl _ => r_move rfl (hl.env 2 5 _ rfl rfl) hx⟩
    case o6_1_3 => exact fun _ _ => ⟨rfl, fun _ _ _ hx hl _ => r_sliceE (ys := l.take k) (lo := 0) (hi := k) List.drop_zero elem_57_148_2 (fun _ => rfl) rfl (hl.dep 1 34 _ rfl rfl rfl rfl) rfl (hl.dep 2 35 _ rfl rfl rfl rfl) (by first | omega | (simp; omega) | grind [ge_mem]) (by first | omega | (simp; omega) | grind [ge_mem]) hx⟩
    case o6_1_4 => exact fun h => not_in_row rfl h
    case o6_1_5 => exact fun _ _ => ⟨rfl, fun _ _ _ hx hl _ => r_loadN agg_148_2 rfl (hl.env 1 3 _ rfl rfl) (Nat.le_refl _) hx⟩
    case o6_1_6 => exact fun _ _ => ⟨rfl, fun _ _ hk hx hl _ => r_build1s elem_57_148_2 zero_148 (by decide) rfl rfl (hl.dep 5 38 _ rfl rfl rfl rfl) (xo_new hS _ hk hx _ (Nat.le_refl _)) (jo hJ hx)⟩
    case o6_1_7 => exact fun h => not_in_row rfl h
    case o6_1_8 => exact fun _ _ => ⟨rfl, fun _ _ _ hx hl _ => r_move rfl (hl.env 0 0 _ rfl rfl) hx⟩
    case o6_1_9 => exact fun _ _ => ⟨rfl, fun _ _ _ hx hl _ => r_move rfl (hl.env 2 5 _ rfl rfl) hx⟩
    case o6_1_10 => exact fun _ _ => ⟨rfl, fun _ _ _ hx hl _ => r_sliceE (ys := l.drop k) (lo := k) (hi := l.length) (by rw [List.take_length]) elem_57_148_2 (fun _ => rfl) rfl (hl.dep 8 41 _ rfl rfl rfl rfl) (hl.dep 9 42 _ rfl rfl rfl rfl) rfl (by first | omega | (simp; omega) | grind [ge_mem]) (by first | omega | (simp; omega) | grind [ge_mem]) hx⟩
    case o6_1_11 => exact fun h => not_in_row rfl h
    case o6_1_12 => exact fun h => not_in_row rfl h
    clear a w h
    refine nx ?_
    refine tw (fun h => st_freeze hS h (m := 0) (s := 4) rfl) ?_
    refine tr_ret (fun a w h => leave1' (m := 0) rfl (st_disown h) rfl (congrArg (fun z => AV.rd (prsC z)) (show ((l.take k) ++ ([p]) ++ (l.drop k)) = (putF l p) from by rw [putF_at l p k f1_1 f1_2 (by grind), if_neg (by simp [prEq]; grind)]; simp)))

theorem c_Join {J : World → Prop} (hJ : Stab J) (ws : List Pr) (zs : List Pr) (b : (ws.length + zs.length + 1) * 32 ≤ 140737488351264) : Fn Tryz.prog J 139 [.rd (prsC ws), .rd (prsC zs)] (.rd (prsC (joinF ws zs))) := by
 refine fn_enter (N := 34) Tryz.func139 rfl rfl (lb rfl) fun S w0 hS hJ0 => ?_
 refine tw st_own ?_
 refine tr_fact (fun a w h => len_le h 0 rfl) fun hl1 => tr_fact (fun a w h => len_le h 1 rfl) fun hl2 => k_seq (rgo tb hJ [0, 1] [_] [] [(_, _), (_, _)] rfl rfl rfl rfl trivial (nx (k_seq (tr_text (sq_own0 elem_57_148_2 hJ rfl rfl rfl (lb rfl) fun v1 => ?_)))))
 refine sv tb rfl rfl rfl rfl (sq_end ?_)
 refine kw (lz [0, 2, 3] (env' := [(_, _), (_, _), (_, _)]) rfl) ?_
 refine nx (k_seq (k_seq ?_))
 refine tw (fun h => st_freeze hS h (m := 0) (s := 5) rfl) ?_
 refine rgo tb hJ [0, 1, 2, 1000] [_] [] [(_, _), (_, _), (_, _), (_, .int (0 : Int))] rfl rfl rfl rfl trivial (nx (tr_block (tr_loop (ι := Nat × (List Pr)) (fun (ii' : Nat × (List Pr)) a w => match ii' with | (k, out) => ((k ≤ ws.length) ∧ (out = (ws.take k).foldl putF []) ∧ (out.length ≤ k)) ∧ St All (SO S []) w0 34 [(0, .rd (prsC ws)), (1, .rd (prsC zs)), (6, .int (((k : Nat) : Int))), (5, .rd (prsC out))] (XO J S w0.heap.size []) a w) (fun (ii' : Nat × (List Pr)) => match ii' with | (k, _) => (ws.length - k : Nat)) ?_ ?_)))
 ·
  intro a w h
  exact ⟨(0, []), (show (0 ≤ ws.length) ∧ (([]) = (ws.take 0).foldl putF []) ∧ (([]).length ≤ 0) from ⟨Nat.zero_le _, by simp, by simp⟩), lz [1, 2, 3, 0] rfl h⟩
 ·
  rintro ⟨k, out⟩
  refine tr_and fun hF => ?_
  obtain ⟨f1_1, f1_2, f1_3⟩ := hF
  refine k_seq (k_seq (rgo tb hJ [0, 1, 2, 3, 1003] [_, _, .int (((ws.length : Nat) : Int)), _] [2] [(_, _), (_, _), (_, _), (_, _), (_, .bool (decide (((k : Nat) : Int) < ((ws.length : Nat) : Int))))] rfl rfl rfl rfl ⟨hLen unds_57_148 rfl rfl rfl rfl, trivial⟩ (nx (tr_fact (fun a w h => len_le h 3 rfl) fun hl3 => tc 4 rfl rfl (fun hb1 => ?_) (fun hb1 => ?_)))))
  ·
   try simp at hb1
   refine tr_skip (nx (k_seq (tr_block (rgo tb hJ [0, 1, 2, 1005, 1006] [_, _, _, .ptr (prC (ge ws k)), _, _, _] [3, 5] [(_, _), (_, _), (_, _), (_, .rd (prsC ((putF out (ge ws k))))), (_, .rd (prsC ((putF out (ge ws k)))))] rfl rfl rfl rfl ⟨hIx elem_57_148_2 (by first | omega | (simp; omega) | grind [ge_mem]) rfl rfl rfl rfl rfl rfl, hFo hS hJ (c_put hJ (l := out) (p := (ge ws k)) (by exact Nat.le_trans (Nat.mul_le_mul_right 32 (by omega)) b)) call_165 rfl rfl rfl rfl, trivial⟩ (nx (tr_fact (fun a w h => len_le h 3 rfl) fun hl4 => rgo tb hJ [0, 1, 4, 1002] [_, .int (((k + 1 : Nat) : Int)), _] [1] [(_, _), (_, _), (_, _), (_, .int (((k + 1 : Nat) : Int)))] rfl rfl rfl rfl ⟨hAdd (by first | omega | (simp; omega) | grind [ge_mem]) rfl rfl rfl rfl rfl, trivial⟩ ?_))))))
   intro a w h; change ∃ j, _ ∧ _
   exact ⟨(k + 1, (putF out (ge ws k))), ⟨⟨(show (k + 1) ≤ ws.length from by omega), (show ((putF out (ge ws k))) = (ws.take (k + 1)).foldl putF [] from by rw [f1_2, foldl_take_succ (by omega)]), (show ((putF out (ge ws k))).length ≤ (k + 1) from by have := putF_len out (ge ws k); omega)⟩, lz [0, 1, 3, 2] rfl h⟩, (show ws.length - (k + 1) < ws.length - k from by first | omega | (simp; omega))⟩
  ·
   try simp at hb1
   refine tr_exit (nx (k_seq (k_seq (rgo tb hJ [1, 3, 1000] [_] [] [(_, _), (_, _), (_, .int (0 : Int))] rfl rfl rfl rfl trivial (nx (tr_block (tr_loop (ι := Nat × (List Pr)) (fun (ii' : Nat × (List Pr)) a w => match ii' with | (j, out2) => ((j ≤ zs.length) ∧ (out2 = (ws ++ zs.take j).foldl putF []) ∧ (out2.length ≤ ws.length + j)) ∧ St All (SO S []) w0 34 [(1, .rd (prsC zs)), (7, .int (((j : Nat) : Int))), (5, .rd (prsC out2))] (XO J S w0.heap.size []) a w) (fun (ii' : Nat × (List Pr)) => match ii' with | (j, _) => (zs.length - j : Nat)) ?_ ?_)))))))
   ·
    intro a w h
    exact ⟨(0, out), (show (0 ≤ zs.length) ∧ (out = (ws ++ zs.take 0).foldl putF []) ∧ (out.length ≤ ws.length + 0) from ⟨Nat.zero_le _, by rw [f1_2, take_all (by omega)]; simp, by omega⟩), lz [0, 2, 1] rfl h⟩
   ·
    rintro ⟨j, out2⟩
    refine tr_and fun hF => ?_
    obtain ⟨f2_1, f2_2, f2_3⟩ := hF
    refine k_seq (k_seq (rgo tb hJ [0, 1, 2, 1003] [_, _, .int (((zs.length : Nat) : Int)), _] [2] [(_, _), (_, _), (_, _), (_, .bool (decide (((j : Nat) : Int) < ((zs.length : Nat) : Int))))] rfl rfl rfl rfl ⟨hLen unds_57_148 rfl rfl rfl rfl, trivial⟩ (nx (tr_fact (fun a w h => len_le h 2 rfl) fun hl5 => tc 3 rfl rfl (fun hb2 => ?_) (fun hb2 => ?_)))))
    ·
     try simp at hb2
     refine tr_skip (nx (k_seq (tr_block (rgo tb hJ [0, 1, 1005, 1006] [_, _, _, .ptr (prC (ge zs j)), _, _, _] [3, 5] [(_, _), (_, _), (_, .rd (prsC ((putF out2 (ge zs j))))), (_, .rd (prsC ((putF out2 (ge zs j)))))] rfl rfl rfl rfl ⟨hIx elem_57_148_2 (by first | omega | (simp; omega) | grind [ge_mem]) rfl rfl rfl rfl rfl rfl, hFo hS hJ (c_put hJ (l := out2) (p := (ge zs j)) (by exact Nat.le_trans (Nat.mul_le_mul_right 32 (by omega)) b)) call_165 rfl rfl rfl rfl, trivial⟩ (nx (tr_fact (fun a w h => len_le h 2 rfl) fun hl6 => rgo tb hJ [0, 3, 1002] [_, .int (((j + 1 : Nat) : Int)), _] [1] [(_, _), (_, _), (_, .int (((j + 1 : Nat) : Int)))] rfl rfl rfl rfl ⟨hAdd (by first | omega | (simp; omega) | grind [ge_mem]) rfl rfl rfl rfl rfl, trivial⟩ ?_))))))
     intro a w h; change ∃ j, _ ∧ _
     exact ⟨(j + 1, (putF out2 (ge zs j))), ⟨⟨(show (j + 1) ≤ zs.length from by omega), (show ((putF out2 (ge zs j))) = (ws ++ zs.take (j + 1)).foldl putF [] from by rw [f2_2, take_ge (by omega), ← List.append_assoc]; simp only [List.foldl_append, List.foldl_cons, List.foldl_nil]), (show ((putF out2 (ge zs j))).length ≤ ws.length + (j + 1) from by have := putF_len out2 (ge zs j); omega)⟩, lz [0, 2, 1] rfl h⟩, (show zs.length - (j + 1) < zs.length - j from by first | omega | (simp; omega))⟩
    ·
     try simp at hb2
     refine tr_exit (nx (k_seq (rgo tb hJ [1001] [_, _] [] [(_, .rd (prsC out2))] rfl rfl rfl rfl trivial (nx (tr_ret (fun a w h => leave1' (m := 0) rfl (st_disown h) rfl (congrArg (fun z => AV.rd (prsC z)) (show out2 = (joinF ws zs) from by rw [f2_2, take_all (xs := zs) (by omega)]; rfl))))))))

end Go.Proofs.YtnpgmdffjemnbaaGreatDoor
set_option maxHeartbeats 8000000
set_option maxRecDepth 100000
namespace Go.Proofs.YtnpgmdffjemnbaaGreatDoor
open Go.RowKit

theorem c_hypothesis {J : World → Prop} (hJ : Stab J) (d : Db) (k : Nat) (y : Hy) (bs : List Hy) (dm : Bool) (hk0 : k < d.frames.length) (hf : d.frames.length ≤ 400) (hz : ∀ i, i < k + 1 → (ge d.frames i).hyps.length ≤ 40 ∧ (ge d.frames i).dummies.length ≤ 40) (hb : bs.length ≤ 80) : Fn Tryz.prog J 110 [.agg (dbC d), .int (((k : Nat) : Int)), .agg (hyC y), .rd (hysC bs), .bool dm] (.int (hypE d k y bs dm)) := by
 refine fn_enter (N := 206) Tryz.func110 rfl rfl (lb rfl) fun S w0 hS hJ0 => ?_
 refine tw st_own ?_
 refine tr_fact (fun a w h => len_le h 3 rfl) fun hl1 => k_seq (rgo tb hJ [1, 3, 4, 1000, 1001] [_, _, _] [0, 1] [(_, _), (_, _), (_, _), (_, .ptr (dbC d)), (_, .ptr (hyC y))] rfl rfl rfl rfl ⟨fun _ _ hk hx hl _ => r_box rfl (hl.env 0 0 _ rfl rfl) (xo_new hS _ hk hx _ (Nat.le_refl _)) (jo hJ hx), fun _ _ hk hx hl _ => r_box rfl (hl.env 2 2 _ rfl rfl) (xo_new hS _ hk hx _ (Nat.le_refl _)) (jo hJ hx), trivial⟩ (nx (k_seq (rgo tb hJ [0, 1, 2, 3, 4, 1001, 1003] [_, _, .int (((y.text.length : Nat) : Int)), _] [2] [(_, _), (_, _), (_, _), (_, _), (_, _), (_, .rd (strsC y.text)), (_, .int (((y.text.length : Nat) : Int)))] rfl rfl rfl rfl ⟨hLen unds_22_9 rfl rfl rfl rfl, trivial⟩ (nx (tr_fact (fun a w h => len_le h 5 rfl) fun hl2 => k_seq (k_seq (rgo tb hJ [0, 1, 3, 4, 1032] [_, _, .bool (labB y.label), _, _, _, _, _, _, _, _, _, _, _, _, _, _, _, _, _, _, _, _, _, _, _, _, _, _, _, _, _, _] [2] [(_, _), (_, _), (_, _), (_, _), (_, .bool ((((!(labB y.label)) || (dm && (!y.floating))) || (y.floating && (!decide (((y.text.length : Nat) : Int) = (2 : Int))))) || ((!y.floating) && ((decide (((y.text.length : Nat) : Int) = (0 : Int))) || (decide ((200 : Int) < ((y.text.length : Nat) : Int)))))))] rfl rfl rfl rfl ⟨hFo hS hJ (c_IsLabel hJ (s := y.label) ) call_106 rfl rfl rfl rfl, trivial⟩ (nx (tc 4 rfl rfl (fun hb1 => ?_) (fun hb1 => ?_)))))))))))
 ·
  replace hb1 : hForm y dm = true := hb1
  refine k_seq (rgo tb hJ [1000] [_] [] [(_, .int (2 : Int))] rfl rfl rfl rfl trivial (nx (tr_ret (fun a w h => leave1' (m := 0) rfl (st_disown h) rfl (congrArg AV.int (show (2 : Int) = (hypE d k y bs dm) from by clear h; subst_vars; grind [hypE]))))))
 ·
  replace hb1 : hForm y dm = false := hb1
  have hy1 := hForm_pos hb1
  refine tr_skip (nx (k_seq (rgo tb hJ [0, 1, 2, 3, 1009] [_, _, .int (((k + 1 : Nat) : Int)), _, _, .tup [.bool (frL d (k + 1) y.label), .bool (hyL d (k + 1) y.label)], _, _, _, _, _] [2, 5] [(_, _), (_, _), (_, _), (_, _), (_, .bool (frL d (k + 1) y.label))] rfl rfl rfl rfl ⟨hAdd (by first | omega | (simp; omega) | grind [ge_mem]) rfl rfl rfl rfl rfl, hFo hS hJ (c_label hJ (d := d) (n := (k + 1)) (s := y.label) (by first | omega | (simp; omega) | grind [ge_mem]) (hz)) call_107 rfl rfl rfl rfl, trivial⟩ (nx (k_seq (k_seq (rgo tb hJ [0, 1, 2, 3, 1006] [_, _, _, _, _, .bool (symD d y.label), _] [5] [(_, _), (_, _), (_, _), (_, _), (_, .bool ((frL d (k + 1) y.label) || (symD d y.label)))] rfl rfl rfl rfl ⟨fun _ _ hk hx hl hc => r_fn (c_symbol hJ (d := d) (s := y.label) ) call_108 rfl (xo_new hS _ hk hx) (hx.1) (relL_cons (hl.dep 2 69 _ rfl rfl rfl hc) (relL_cons (hl.dep 4 71 _ rfl rfl rfl hc) relL_nil)) (jo hJ hx), trivial⟩ (nx (tc 4 rfl rfl (fun hb2 => ?_) (fun hb2 => ?_))))))))))
  ·
   replace hb2 : (frL d (k + 1) y.label || symD d y.label) = true := hb2
   refine k_seq (rgo tb hJ [1000] [_] [] [(_, .int (6 : Int))] rfl rfl rfl rfl trivial (nx (tr_ret (fun a w h => leave1' (m := 0) rfl (st_disown h) rfl (congrArg AV.int (show (6 : Int) = (hypE d k y bs dm) from by clear h; subst_vars; grind [hypE]))))))
  ·
   replace hb2 : (frL d (k + 1) y.label || symD d y.label) = false := hb2
   refine tr_skip (nx (k_seq (k_seq (rgo tb hJ [0, 1, 2, 3, 1000] [_] [] [(_, _), (_, _), (_, _), (_, _), (_, .int (0 : Int))] rfl rfl rfl rfl trivial (nx (tr_block (tr_loop (ι := Nat) (fun (j : Nat) a w => ((j ≤ bs.length) ∧ ((bs.take j).any (hLab y) = false)) ∧ St All (SO S []) w0 206 [(1, .int (((k : Nat) : Int))), (3, .rd (hysC bs)), (5, .ptr (dbC d)), (7, .ptr (hyC y)), (14, .int (((j : Nat) : Int)))] (XO J S w0.heap.size []) a w) (fun (j : Nat) => (bs.length - j : Nat)) ?_ ?_)))))))
   ·
    intro a w h
    exact ⟨0, (show (0 ≤ bs.length) ∧ ((bs.take 0).any (hLab y) = false) from ⟨Nat.zero_le _, rfl⟩), lz [0, 1, 2, 3, 4] rfl h⟩
   ·
    rintro j
    refine tr_and fun hF => ?_
    obtain ⟨f1_1, f1_2⟩ := hF
    refine k_seq (k_seq (rgo tb hJ [0, 1, 2, 3, 4, 1003] [_, _, .int (((bs.length : Nat) : Int)), _] [2] [(_, _), (_, _), (_, _), (_, _), (_, _), (_, .bool (decide (((j : Nat) : Int) < ((bs.length : Nat) : Int))))] rfl rfl rfl rfl ⟨hLen unds_56_109 rfl rfl rfl rfl, trivial⟩ (nx (tc 5 rfl rfl (fun hb3 => ?_) (fun hb3 => ?_)))))
    ·
     try simp at hb3
     refine tr_skip (nx (k_seq (tr_block (k_seq (rgo tb hJ [0, 1, 2, 3, 4, 1007] [_, _, .ptr (hyC (ge bs j)), _, _, _, _, _] [2] [(_, _), (_, _), (_, _), (_, _), (_, _), (_, .bool (decide (((ge bs j).label) = y.label)))] rfl rfl rfl rfl ⟨hIx elem_56_109_3 (by first | omega | (simp; omega) | grind [ge_mem]) rfl rfl rfl rfl rfl rfl, trivial⟩ (nx (tc 5 rfl rfl (fun hb4 => ?_) (fun hb4 => ?_))))))))
     ·
      try simp at hb4
      have q4 := any_hit (p := hLab y) (xs := bs) (k := j) (by omega) (by simpa [hLab] using hb4)
      refine k_seq (rgo tb hJ [1000] [_] [] [(_, .int (6 : Int))] rfl rfl rfl rfl trivial (nx (tr_ret (fun a w h => leave1' (m := 0) rfl (st_disown h) rfl (congrArg AV.int (show (6 : Int) = (hypE d k y bs dm) from by clear h; subst_vars; grind [hypE]))))))
     ·
      try simp at hb4
      refine tr_skip (nx (rgo tb hJ [0, 1, 2, 3, 1002] [_, .int (((j + 1 : Nat) : Int)), _] [1] [(_, _), (_, _), (_, _), (_, _), (_, .int (((j + 1 : Nat) : Int)))] rfl rfl rfl rfl ⟨hAdd (by first | omega | (simp; omega) | grind [ge_mem]) rfl rfl rfl rfl rfl, trivial⟩ ?_))
      intro a w h; change ∃ j, _ ∧ _
      exact ⟨j + 1, ⟨⟨(show (j + 1) ≤ bs.length from by omega), (show (bs.take (j + 1)).any (hLab y) = false from any_miss (by omega) f1_2 (by simpa [hLab] using hb4))⟩, lz [0, 1, 2, 3, 4] rfl h⟩, (show bs.length - (j + 1) < bs.length - j from by first | omega | (simp; omega))⟩
    ·
     try simp at hb3
     have e3 := any_none (p := hLab y) f1_2 (by omega)
     refine tr_exit (nx (k_seq (k_seq (rgo tb hJ [0, 1, 2, 3, 1021] [_, _, _, _, _, _, _, .ptr [.lit (.string (ge y.text 0))], _, .bool (decide ((ge y.text 0) ∈ d.consts)), _, _, _, _, _, _, .ptr [.lit (.string (ge y.text 1))], _, .bool (decide ((ge y.text 1) ∈ d.vars)), _, _, _] [7, 9, 16, 18] [(_, _), (_, _), (_, _), (_, _), (_, .bool (y.floating && ((!(decide ((ge y.text 0) ∈ d.consts))) || (!(decide ((ge y.text 1) ∈ d.vars))))))] rfl rfl rfl rfl ⟨fun _ _ _ hx hl hc => r_index (i := ((0 : Nat) : Int)) elem_22_9_1 rfl (hl.dep 6 94 _ rfl rfl rfl hc) (Rel.of_lit (Go.Value.int Go.IntKind.i64 0)) (Int.natCast_nonneg _) (row_nat (xs := y.text) (k := 0) (by have hc' : ((y.floating == true)) = true := hc; (try simp at hc'); (omega))) rfl hx, fun _ _ hk hx hl hc => r_fn (c_Has hJ (xs := d.consts) (s := (ge y.text 0)) ) call_105 rfl (xo_new hS _ hk hx) (hx.1) (relL_cons (hl.dep 4 92 _ rfl rfl rfl hc) (relL_cons (hl.dep 8 96 _ rfl rfl rfl hc) relL_nil)) (jo hJ hx), fun _ _ _ hx hl hc => r_index (i := ((1 : Nat) : Int)) elem_22_9_1 rfl (hl.dep 15 103 _ rfl rfl rfl hc) (Rel.of_lit (Go.Value.int Go.IntKind.i64 1)) (Int.natCast_nonneg _) (row_nat (xs := y.text) (k := 1) (by have hc' : (((y.floating == true) && ((!(decide ((ge y.text 0) ∈ d.consts))) == false))) = true := hc; (try simp at hc'); (have := hForm_two hb1 (by simp_all); omega))) rfl hx, fun _ _ hk hx hl hc => r_fn (c_Has hJ (xs := d.vars) (s := (ge y.text 1)) ) call_105 rfl (xo_new hS _ hk hx) (hx.1) (relL_cons (hl.dep 13 101 _ rfl rfl rfl hc) (relL_cons (hl.dep 17 105 _ rfl rfl rfl hc) relL_nil)) (jo hJ hx), trivial⟩ (nx (tc 4 rfl rfl (fun hb5 => ?_) (fun hb5 => ?_)))))))
     ·
      replace hb5 : hScope d y = true := hb5
      refine k_seq (rgo tb hJ [1000] [_] [] [(_, .int (12 : Int))] rfl rfl rfl rfl trivial (nx (tr_ret (fun a w h => leave1' (m := 0) rfl (st_disown h) rfl (congrArg AV.int (show (12 : Int) = (hypE d k y bs dm) from by clear h; subst_vars; grind [hypE]))))))
     ·
      replace hb5 : hScope d y = false := hb5
      refine tr_skip (nx (k_seq (k_seq (rgo tb hJ [0, 1, 2, 3, 1002] [_, _, _] [] [(_, _), (_, _), (_, _), (_, _), (_, .bool (!y.floating))] rfl rfl rfl rfl trivial (nx (tc 4 rfl rfl (fun hb6 => ?_) (fun hb6 => ?_)))))))
      ·
       try simp at hb6
       refine k_seq (rgo tb hJ [0, 1, 2, 3, 1004] [_, _, _, .int (formE d y.text), _] [3] [(_, _), (_, _), (_, _), (_, _), (_, .int (formE d y.text))] rfl rfl rfl rfl ⟨hFo hS hJ (c_formula hJ (d := d) (l := y.text) (by first | omega | (simp; omega) | grind [ge_mem])) call_111 rfl rfl rfl rfl, trivial⟩ (nx (k_seq (rgo tb hJ [0, 1, 2, 3, 4, 1001] [_, _] [] [(_, _), (_, _), (_, _), (_, _), (_, _), (_, .bool (!decide (formE d y.text = (0 : Int))))] rfl rfl rfl rfl trivial (nx (tc 5 rfl rfl (fun hb7 => ?_) (fun hb7 => ?_)))))))
       ·
        refine k_seq (rgo tb hJ [1001] [_, _] [] [(_, .int (formE d y.text))] rfl rfl rfl rfl trivial (nx (tr_ret (fun a w h => leave1' (m := 0) rfl (st_disown h) rfl (congrArg AV.int (show (formE d y.text) = (hypE d k y bs dm) from by clear h; subst_vars; grind [hypE]))))))
       ·
        refine tr_skip (nx (k_seq (tr_text (sq_own0 elem_56_109_3 hJ rfl rfl rfl (lb rfl) fun v1 => ?_))))
        refine sv tb rfl rfl rfl rfl (sq_end ?_)
        refine kw (lz [0, 2, 3, 4, 5] (env' := [(_, _), (_, _), (_, _), (_, _), (_, _)]) rfl) ?_
        refine nx (k_seq (k_seq (rgo tb hJ [0, 1, 2, 3, 4, 1000] [_] [] [(_, _), (_, _), (_, _), (_, _), (_, _), (_, .int (0 : Int))] rfl rfl rfl rfl trivial (nx (tr_block (tr_loop (ι := Nat × Value × (List Hy)) (fun (ii' : Nat × Value × (List Hy)) a w => match ii' with | (i, vo, others) => ((i ≤ k) ∧ (others = oth d i) ∧ (others.length ≤ 80 * i)) ∧ St All (SO S [OB.row vo 109 3 (others.map hyC)]) w0 206 [(1, .int (((k : Nat) : Int))), (3, .rd (hysC bs)), (5, .ptr (dbC d)), (7, .ptr (hyC y)), (17, .int (((i : Nat) : Int))), (16, .lit vo)] (XO J S w0.heap.size [OB.row vo 109 3 (others.map hyC)]) a w) (fun (ii' : Nat × Value × (List Hy)) => match ii' with | (i, _, _) => (k - i : Nat)) ?_ ?_))))))
        ·
         intro a w h
         exact ⟨(0, v1, ([] : List Hy)), (show (0 ≤ k) ∧ (([] : List Hy) = oth d 0) ∧ (([] : List Hy).length ≤ 80 * 0) from ⟨Nat.zero_le _, rfl, Nat.zero_le _⟩), lz [1, 2, 3, 4, 5, 0] rfl h⟩
        ·
         rintro ⟨i, vo, others⟩
         refine tr_and fun hF => ?_
         obtain ⟨f2_1, f2_2, f2_3⟩ := hF
         refine k_seq (k_seq (rgo tb hJ [0, 1, 2, 3, 4, 5, 1002] [_, _, _] [] [(_, _), (_, _), (_, _), (_, _), (_, _), (_, _), (_, .bool (decide (((i : Nat) : Int) < ((k : Nat) : Int))))] rfl rfl rfl rfl trivial (nx (tc 6 rfl rfl (fun hb8 => ?_) (fun hb8 => ?_)))))
         ·
          try simp at hb8
          refine tr_skip (nx (k_seq (tr_block (tr_text (sv tb rfl rfl rfl rfl (sv (av := .ptr [frsC d.frames]) tb rfl rfl rfl rfl (sv (av := .rd (frsC d.frames)) tb rfl rfl rfl rfl (sv tb rfl rfl rfl rfl (sq (.ptr (frC (ge d.frames i))) rfl rfl (lb rfl) (fun _ _ h => r_index (i := ((i : Nat) : Int)) elem_23_59_8 rfl (h.get 1 rfl) (h.get 0 rfl) (Int.natCast_nonneg _) (row_nat (xs := d.frames) (k := i) (by first | omega | (simp; omega) | grind [ge_mem])) rfl h.x) (sv (av := .agg (frC (ge d.frames i))) tb rfl rfl rfl rfl (sq (.rd (hysC (((ge d.frames i).hyps ++ (ge d.frames i).dummies)))) rfl rfl (lb rfl) (fun _ _ h => r_fn (c_All hJ (f := (ge d.frames i)) (by have := hz i (by omega); omega)) call_109 rfl (xo_new hS _ h.keep h.x) (h.x.1) (relL_cons (h.get 0 rfl) relL_nil) (jo hJ h.x)) (sq_appendM (f := hyC) (m := 6) (s := 126) others (((ge d.frames i).hyps ++ (ge d.frames i).dummies)) (fun _ => rfl) app_56_109 hJ hJ0 rfl rfl rfl (lb rfl) rfl rfl (fun a w h => (h.get 0 rfl)) (by first | (have := hz i (by omega); simp; omega) | (have := hz i (by omega); refine small48 ?_; simp; omega)) (by first | (have := hz i (by omega); simp; omega) | (have := hz i (by omega); refine small48 ?_; simp; omega)) fun v2 => ?_))))))))))))
          refine sv tb rfl rfl rfl rfl (sq_end ?_)
          refine kw (lz [0, 2, 6, 9, 10, 11, 12, 13] (env' := [(_, _), (_, _), (_, _), (_, _), (_, _), (_, _), (_, _), (_, _)]) rfl) ?_
          refine nx (tr_fact (fun a w h => len_le h 1 rfl) fun hl3 => tr_fact (fun a w h => len_le h 2 rfl) fun hl4 => rgo tb hJ [0, 3, 4, 5, 6, 1002] [_, .int (((i + 1 : Nat) : Int)), _] [1] [(_, _), (_, _), (_, _), (_, _), (_, _), (_, .int (((i + 1 : Nat) : Int)))] rfl rfl rfl rfl ⟨hAdd (by first | omega | (simp; omega) | grind [ge_mem]) rfl rfl rfl rfl rfl, trivial⟩ ?_)
          intro a w h; change ∃ j, _ ∧ _
          exact ⟨(i + 1, v2, others ++ (((ge d.frames i).hyps ++ (ge d.frames i).dummies))), ⟨⟨(show (i + 1) ≤ k from by omega), (show (others ++ (((ge d.frames i).hyps ++ (ge d.frames i).dummies))) = oth d (i + 1) from by rw [oth_succ (by omega), f2_2]), (show (others ++ (((ge d.frames i).hyps ++ (ge d.frames i).dummies))).length ≤ 80 * (i + 1) from by have := hz i (by omega); simp; omega)⟩, lz [1, 2, 3, 4, 5, 0] rfl h⟩, (show k - (i + 1) < k - i from by first | omega | (simp; omega))⟩
         ·
          try simp at hb8
          have hik : i = k := by omega
          rw [hik] at f2_2 f2_3
          refine tr_exit (nx (k_seq (k_seq ?_)))
          refine tw (fun h => st_freeze hS h (m := 5) (s := 16) rfl) ?_
          refine rgo tb hJ [0, 2, 4, 1001] [_, _] [] [(_, _), (_, _), (_, _), (_, .bool y.floating)] rfl rfl rfl rfl trivial (nx (tr_fact (fun a w h => len_le h 0 rfl) fun hl5 => tc 3 rfl rfl (fun hb9 => ?_) (fun hb9 => ?_)))
          ·
           try simp at hb9
           have hy2 := hForm_two hb1 hb9
           refine k_seq ?_
           refine fun a w h => region_C (id := 24) (t := 56) (e := 109) (size := 3) (bytes := 48) (i0 := 0) (fol := 5) (d := 18) (ch := [(2, (others.map hyC)), (4, (bs.map hyC))]) (fun ix' => ([.any, .rd (hysC others), .any, .rd (hysC bs), .any, .any] : List AV).getD ix' .any) (fun ix' => ([true, true, true, true, true, true] : List Bool).getD ix' true) [(0, 16, .rd (hysC others)), (1, 3, .rd (hysC bs)), (2, 7, .ptr (hyC y))] ((others ++ bs).map hyC) (by simp) ?r24_1 hJ hJ0 h mixedE rfl rfl rfl rfl ⟨?o24_1_0, ⟨?o24_1_1, ⟨?o24_1_2, ⟨?o24_1_3, ⟨?o24_1_4, ⟨?o24_1_5, trivial⟩⟩⟩⟩⟩⟩ ⟨rfl, rfl, ⟨rfl, rfl, ⟨rfl, rfl, trivial⟩⟩⟩ (fun v3 => ?n24_1)
           case r24_1 =>
            refine Row.mk' app_56_109 ⟨_, rfl, rfl, rfl, rfl, rfl⟩ ⟨?x24_1_0, ⟨?x24_1_1, trivial⟩⟩ ⟨_, _, _, _, rfl, rfl, rfl, rfl, rfl, rfl, rfl, rfl, rfl⟩ rfl rfl rfl
            case x24_1_0 => exact ⟨_, _, _, _, rfl, rfl, rfl, rfl, rfl, rfl, rfl, rfl, len_map (f := hyC) (fun _ => rfl), (by have hm : maxLen = 9223372036854775807 := rfl; simp [upto]; first | (have := hz i (by omega); simp; omega) | (have := hz i (by omega); refine small48 ?_; simp; omega)), (by have hm : maxLen = 9223372036854775807 := rfl; simp [upto]; first | (have := hz i (by omega); simp; omega) | (have := hz i (by omega); refine small48 ?_; simp; omega)), fun _ _ _ _ _ hl => (hl.dep 1 137 _ rfl rfl rfl rfl)⟩
            case x24_1_1 => exact ⟨_, _, _, _, rfl, rfl, rfl, rfl, rfl, rfl, rfl, rfl, len_map (f := hyC) (fun _ => rfl), (by have hm : maxLen = 9223372036854775807 := rfl; simp [upto]; first | (have := hz i (by omega); simp; omega) | (have := hz i (by omega); refine small48 ?_; simp; omega)), (by have hm : maxLen = 9223372036854775807 := rfl; simp [upto]; first | (have := hz i (by omega); simp; omega) | (have := hz i (by omega); refine small48 ?_; simp; omega)), fun _ _ _ _ _ hl => (hl.dep 3 139 _ rfl rfl rfl rfl)⟩
           case o24_1_0 => exact fun h => not_in_row rfl h
           case o24_1_1 => exact fun _ _ => ⟨rfl, fun _ _ _ hx hl _ => r_move rfl (hl.env 0 16 _ rfl rfl) hx⟩
           case o24_1_2 => exact fun h => not_in_row rfl h
           case o24_1_3 => exact fun _ _ => ⟨rfl, fun _ _ _ hx hl _ => r_move rfl (hl.env 1 3 _ rfl rfl) hx⟩
           case o24_1_4 => exact fun h => not_in_row rfl h
           case o24_1_5 => exact fun h => not_in_row rfl h
           clear a w h
           refine nx (k_seq (k_seq ?_))
           refine tw (fun h => st_freeze hS h (m := 0) (s := 18) rfl) ?_
           refine rgo tb hJ [0, 1, 2, 3, 1000] [_] [] [(_, _), (_, _), (_, _), (_, _), (_, .int (0 : Int))] rfl rfl rfl rfl trivial (nx (tr_fact (fun a w h => len_le h 0 rfl) fun hl6 => tr_block (tr_loop (ι := Nat) (fun (j : Nat) a w => ((j ≤ (others ++ bs).length) ∧ (((others ++ bs).take j).any (hTyp y) = false)) ∧ St All (SO S []) w0 206 [(18, .rd (hysC (others ++ bs))), (16, .rd (hysC others)), (3, .rd (hysC bs)), (7, .ptr (hyC y)), (19, .int (((j : Nat) : Int)))] (XO J S w0.heap.size []) a w) (fun (j : Nat) => ((others ++ bs).length - j : Nat)) ?_ ?_)))
           ·
            intro a w h
            exact ⟨0, (show (0 ≤ (others ++ bs).length) ∧ (((others ++ bs).take 0).any (hTyp y) = false) from ⟨Nat.zero_le _, rfl⟩), lz [0, 1, 2, 3, 4] rfl h⟩
           ·
            rintro j
            refine tr_and fun hF => ?_
            obtain ⟨f3_1, f3_2⟩ := hF
            refine k_seq (k_seq (rgo tb hJ [0, 1, 2, 3, 4, 1003] [_, _, .int ((((others ++ bs).length : Nat) : Int)), _] [2] [(_, _), (_, _), (_, _), (_, _), (_, _), (_, .bool (decide (((j : Nat) : Int) < (((others ++ bs).length : Nat) : Int))))] rfl rfl rfl rfl ⟨hLen unds_56_109 rfl rfl rfl rfl, trivial⟩ (nx (tc 5 rfl rfl (fun hb10 => ?_) (fun hb10 => ?_)))))
            ·
             try simp at hb10
             refine tr_skip (nx (k_seq (tr_block (k_seq (rgo tb hJ [0, 1, 2, 3, 4, 1006, 1021] [_, _, .ptr (hyC ((ge (others ++ bs) j))), _, _, _, _, .bool (ofB ((ge (others ++ bs) j)) (y.text.drop 1)), _, _, _, .ptr (hyC ((ge (others ++ bs) j))), _, _, .ptr [.lit (.string ((ge (((ge (others ++ bs) j)).text) 0)))], _, _, _, .ptr [.lit (.string (ge y.text 0))], _, _, _] [2, 6, 7, 11, 14, 18] [(_, _), (_, _), (_, _), (_, _), (_, _), (_, .rd (strsC (y.text.drop 1))), (_, .bool ((ofB ((ge (others ++ bs) j)) (y.text.drop 1)) && (!decide (((ge (((ge (others ++ bs) j)).text) 0)) = (ge y.text 0)))))] rfl rfl rfl rfl ⟨hIx elem_56_109_3 (by first | omega | (simp; omega) | grind [ge_mem]) rfl rfl rfl rfl rfl rfl, fun _ _ _ hx hl _ => r_sliceE (ys := y.text.drop 1) (lo := 1) (hi := y.text.length) (by rw [List.take_length]) elem_22_9_1 (fun _ => rfl) rfl (hl.dep 5 152 _ rfl rfl rfl rfl) (Rel.of_lit (Go.Value.int Go.IntKind.i64 1)) rfl (by first | omega | (simp; omega) | grind [ge_mem]) (by first | omega | (simp; omega) | grind [ge_mem]) hx, hFo hS hJ (c_of hJ (y := ((ge (others ++ bs) j))) (vs := (y.text.drop 1)) ) call_134 rfl rfl rfl rfl, fun _ _ _ hx hl hc => r_index (i := ((j : Nat) : Int)) elem_56_109_3 rfl (hl.dep 9 156 _ rfl rfl rfl hc) (hl.dep 10 157 _ rfl rfl rfl hc) (Int.natCast_nonneg _) (row_nat (xs := others ++ bs) (k := j) (by have hc' : (((ofB ((ge (others ++ bs) j)) (y.text.drop 1)) == true)) = true := hc; (try simp at hc'); (first | omega | (simp; omega) | grind [ge_mem]))) rfl hx, fun _ _ _ hx hl hc => r_index (i := ((0 : Nat) : Int)) elem_22_9_1 rfl (hl.dep 13 160 _ rfl rfl rfl hc) (Rel.of_lit (Go.Value.int Go.IntKind.i64 0)) (Int.natCast_nonneg _) (row_nat (xs := ((ge (others ++ bs) j)).text) (k := 0) (by have hc' : (((ofB ((ge (others ++ bs) j)) (y.text.drop 1)) == true)) = true := hc; (try simp at hc'); (have := ofB_two hc'; omega))) rfl hx, fun _ _ _ hx hl hc => r_index (i := ((0 : Nat) : Int)) elem_22_9_1 rfl (hl.dep 17 164 _ rfl rfl rfl hc) (Rel.of_lit (Go.Value.int Go.IntKind.i64 0)) (Int.natCast_nonneg _) (row_nat (xs := y.text) (k := 0) (by have hc' : (((ofB ((ge (others ++ bs) j)) (y.text.drop 1)) == true)) = true := hc; (try simp at hc'); (first | omega | (simp; omega) | grind [ge_mem]))) rfl hx, trivial⟩ (nx (tr_fact (fun a w h => len_le h 5 rfl) fun hl7 => tc 6 rfl rfl (fun hb11 => ?_) (fun hb11 => ?_))))))))
             ·
              try simp at hb11
              have q11 := any_hit (p := hTyp y) (xs := others ++ bs) (k := j) (by simp; omega) (by simpa [hTyp] using hb11)
              refine k_seq (rgo tb hJ [1000] [_] [] [(_, .int (11 : Int))] rfl rfl rfl rfl trivial (nx (tr_ret (fun a w h => leave1' (m := 0) rfl (st_disown h) rfl (congrArg AV.int (show (11 : Int) = (hypE d k y bs dm) from by clear h; subst_vars; grind [hypE]))))))
             ·
              try simp at hb11
              refine tr_skip (nx (rgo tb hJ [0, 1, 2, 3, 1002] [_, .int (((j + 1 : Nat) : Int)), _] [1] [(_, _), (_, _), (_, _), (_, _), (_, .int (((j + 1 : Nat) : Int)))] rfl rfl rfl rfl ⟨hAdd (by first | omega | (simp; omega) | grind [ge_mem]) rfl rfl rfl rfl rfl, trivial⟩ ?_))
              intro a w h; change ∃ j, _ ∧ _
              exact ⟨j + 1, ⟨⟨(show (j + 1) ≤ (others ++ bs).length from by simp; omega), (show ((others ++ bs).take (j + 1)).any (hTyp y) = false from any_miss (by simp; omega) f3_2 (by simp [hTyp]; grind))⟩, lz [0, 1, 2, 3, 4] rfl h⟩, (show (others ++ bs).length - (j + 1) < (others ++ bs).length - j from by first | omega | (simp; omega))⟩
            ·
             try simp at hb10
             have e10 := any_none (p := hTyp y) f3_2 (by simp; omega)
             refine tr_exit (nx (k_seq (rgo tb hJ [1, 2, 3, 1000] [_] [] [(_, _), (_, _), (_, _), (_, .int (0 : Int))] rfl rfl rfl rfl trivial (nx (tr_block (tr_loop (ι := Nat) (fun (j : Nat) a w => ((j ≤ bs.length) ∧ ((bs.take j).any (hOf y) = false)) ∧ St All (SO S []) w0 206 [(16, .rd (hysC others)), (3, .rd (hysC bs)), (7, .ptr (hyC y)), (20, .int (((j : Nat) : Int)))] (XO J S w0.heap.size []) a w) (fun (j : Nat) => (bs.length - j : Nat)) ?_ ?_))))))
             ·
              intro a w h
              exact ⟨0, (show (0 ≤ bs.length) ∧ ((bs.take 0).any (hOf y) = false) from ⟨Nat.zero_le _, rfl⟩), lz [0, 1, 2, 3] rfl h⟩
             ·
              rintro j
              refine tr_and fun hF => ?_
              obtain ⟨f4_1, f4_2⟩ := hF
              refine k_seq (k_seq (rgo tb hJ [0, 1, 2, 3, 1003] [_, _, .int (((bs.length : Nat) : Int)), _] [2] [(_, _), (_, _), (_, _), (_, _), (_, .bool (decide (((j : Nat) : Int) < ((bs.length : Nat) : Int))))] rfl rfl rfl rfl ⟨hLen unds_56_109 rfl rfl rfl rfl, trivial⟩ (nx (tc 4 rfl rfl (fun hb12 => ?_) (fun hb12 => ?_)))))
              ·
               try simp at hb12
               refine tr_skip (nx (k_seq (tr_block (k_seq (rgo tb hJ [0, 1, 2, 3, 1006, 1007] [_, _, .ptr (hyC (ge bs j)), _, _, _, _, _] [2, 6, 7] [(_, _), (_, _), (_, _), (_, _), (_, .rd (strsC (y.text.drop 1))), (_, .bool (ofB (ge bs j) (y.text.drop 1)))] rfl rfl rfl rfl ⟨hIx elem_56_109_3 (by first | omega | (simp; omega) | grind [ge_mem]) rfl rfl rfl rfl rfl rfl, fun _ _ _ hx hl _ => r_sliceE (ys := y.text.drop 1) (lo := 1) (hi := y.text.length) (by rw [List.take_length]) elem_22_9_1 (fun _ => rfl) rfl (hl.dep 5 180 _ rfl rfl rfl rfl) (Rel.of_lit (Go.Value.int Go.IntKind.i64 1)) rfl (by first | omega | (simp; omega) | grind [ge_mem]) (by first | omega | (simp; omega) | grind [ge_mem]) hx, hFo hS hJ (c_of hJ (y := (ge bs j)) (vs := (y.text.drop 1)) ) call_134 rfl rfl rfl rfl, trivial⟩ (nx (tr_fact (fun a w h => len_le h 4 rfl) fun hl8 => tc 5 rfl rfl (fun hb13 => ?_) (fun hb13 => ?_))))))))
               ·
                try simp at hb13
                have q13 := any_hit (p := hOf y) (xs := bs) (k := j) (by omega) (by simpa [hOf] using hb13)
                refine k_seq (rgo tb hJ [1000] [_] [] [(_, .int (6 : Int))] rfl rfl rfl rfl trivial (nx (tr_ret (fun a w h => leave1' (m := 0) rfl (st_disown h) rfl (congrArg AV.int (show (6 : Int) = (hypE d k y bs dm) from by clear h; subst_vars; grind [hypE]))))))
               ·
                try simp at hb13
                refine tr_skip (nx (rgo tb hJ [0, 1, 2, 1002] [_, .int (((j + 1 : Nat) : Int)), _] [1] [(_, _), (_, _), (_, _), (_, .int (((j + 1 : Nat) : Int)))] rfl rfl rfl rfl ⟨hAdd (by first | omega | (simp; omega) | grind [ge_mem]) rfl rfl rfl rfl rfl, trivial⟩ ?_))
                intro a w h; change ∃ j, _ ∧ _
                exact ⟨j + 1, ⟨⟨(show (j + 1) ≤ bs.length from by omega), (show (bs.take (j + 1)).any (hOf y) = false from any_miss (by omega) f4_2 (by simpa [hOf] using hb13))⟩, lz [0, 1, 2, 3] rfl h⟩, (show bs.length - (j + 1) < bs.length - j from by first | omega | (simp; omega))⟩
              ·
               try simp at hb12
               have e12 := any_none (p := hOf y) f4_2 (by omega)
               refine tr_exit (nx (k_seq (k_seq (rgo tb hJ [0, 2, 1000] [_] [] [(_, _), (_, _), (_, .int (0 : Int))] rfl rfl rfl rfl trivial (nx (tr_block (tr_loop (ι := Nat) (fun (j : Nat) a w => ((j ≤ others.length) ∧ ((others.take j).any (hSam y) = false)) ∧ St All (SO S []) w0 206 [(16, .rd (hysC others)), (7, .ptr (hyC y)), (21, .int (((j : Nat) : Int)))] (XO J S w0.heap.size []) a w) (fun (j : Nat) => (others.length - j : Nat)) ?_ ?_)))))))
               ·
                intro a w h
                exact ⟨0, (show (0 ≤ others.length) ∧ ((others.take 0).any (hSam y) = false) from ⟨Nat.zero_le _, rfl⟩), lz [0, 1, 2] rfl h⟩
               ·
                rintro j
                refine tr_and fun hF => ?_
                obtain ⟨f5_1, f5_2⟩ := hF
                refine k_seq (k_seq (rgo tb hJ [0, 1, 2, 1003] [_, _, .int (((others.length : Nat) : Int)), _] [2] [(_, _), (_, _), (_, _), (_, .bool (decide (((j : Nat) : Int) < ((others.length : Nat) : Int))))] rfl rfl rfl rfl ⟨hLen unds_56_109 rfl rfl rfl rfl, trivial⟩ (nx (tc 3 rfl rfl (fun hb14 => ?_) (fun hb14 => ?_)))))
                ·
                 try simp at hb14
                 refine tr_skip (nx (k_seq (tr_block (k_seq (rgo tb hJ [0, 1, 2, 1016] [_, _, .ptr (hyC (ge others j)), _, _, _, _, _, _, _, _, .ptr (hyC (ge others j)), _, _, .bool (hyEq (ge others j) y), _, _] [2, 11, 14] [(_, _), (_, _), (_, _), (_, .bool ((decide (((ge others j).label) = y.label)) && (!(hyEq (ge others j) y))))] rfl rfl rfl rfl ⟨hIx elem_56_109_3 (by first | omega | (simp; omega) | grind [ge_mem]) rfl rfl rfl rfl rfl rfl, fun _ _ _ hx hl hc => r_index (i := ((j : Nat) : Int)) elem_56_109_3 rfl (hl.dep 9 198 _ rfl rfl rfl hc) (hl.dep 10 199 _ rfl rfl rfl hc) (Int.natCast_nonneg _) (row_nat (xs := others) (k := j) (by have hc' : (((decide (((ge others j).label) = y.label)) == true)) = true := hc; (try simp at hc'); (first | omega | (simp; omega) | grind [ge_mem]))) rfl hx, fun _ _ hk hx hl hc => r_fn (c_SameHyp hJ (x := (ge others j)) (y := y) ) call_135 rfl (xo_new hS _ hk hx) (hx.1) (relL_cons (hl.dep 12 201 _ rfl rfl rfl hc) (relL_cons (hl.dep 13 202 _ rfl rfl rfl hc) relL_nil)) (jo hJ hx), trivial⟩ (nx (tc 3 rfl rfl (fun hb15 => ?_) (fun hb15 => ?_))))))))
                 ·
                  try simp at hb15
                  have q15 := any_hit (p := hSam y) (xs := others) (k := j) (by omega) (by simpa [hSam] using hb15)
                  refine k_seq (rgo tb hJ [1000] [_] [] [(_, .int (6 : Int))] rfl rfl rfl rfl trivial (nx (tr_ret (fun a w h => leave1' (m := 0) rfl (st_disown h) rfl (congrArg AV.int (show (6 : Int) = (hypE d k y bs dm) from by clear h; subst_vars; grind [hypE]))))))
                 ·
                  try simp at hb15
                  refine tr_skip (nx (rgo tb hJ [0, 1, 1002] [_, .int (((j + 1 : Nat) : Int)), _] [1] [(_, _), (_, _), (_, .int (((j + 1 : Nat) : Int)))] rfl rfl rfl rfl ⟨hAdd (by first | omega | (simp; omega) | grind [ge_mem]) rfl rfl rfl rfl rfl, trivial⟩ ?_))
                  intro a w h; change ∃ j, _ ∧ _
                  exact ⟨j + 1, ⟨⟨(show (j + 1) ≤ others.length from by omega), (show (others.take (j + 1)).any (hSam y) = false from any_miss (by omega) f5_2 (by simp [hSam]; grind))⟩, lz [0, 1, 2] rfl h⟩, (show others.length - (j + 1) < others.length - j from by first | omega | (simp; omega))⟩
                ·
                 try simp at hb14
                 have e14 := any_none (p := hSam y) f5_2 (by omega)
                 refine tr_exit (nx (k_seq (rgo tb hJ [1000] [_] [] [(_, .int (0 : Int))] rfl rfl rfl rfl trivial (nx (tr_ret (fun a w h => leave1' (m := 0) rfl (st_disown h) rfl (congrArg AV.int (show (0 : Int) = (hypE d k y bs dm) from by clear h; subst_vars; grind [hypE]))))))))
          ·
           try simp at hb9
           refine tr_skip (nx (k_seq (k_seq (rgo tb hJ [0, 2, 1000] [_] [] [(_, _), (_, _), (_, .int (0 : Int))] rfl rfl rfl rfl trivial (nx (tr_block (tr_loop (ι := Nat) (fun (j : Nat) a w => ((j ≤ others.length) ∧ ((others.take j).any (hSam y) = false)) ∧ St All (SO S []) w0 206 [(16, .rd (hysC others)), (7, .ptr (hyC y)), (21, .int (((j : Nat) : Int)))] (XO J S w0.heap.size []) a w) (fun (j : Nat) => (others.length - j : Nat)) ?_ ?_)))))))
           ·
            intro a w h
            exact ⟨0, (show (0 ≤ others.length) ∧ ((others.take 0).any (hSam y) = false) from ⟨Nat.zero_le _, rfl⟩), lz [0, 1, 2] rfl h⟩
           ·
            rintro j
            refine tr_and fun hF => ?_
            obtain ⟨f5_1, f5_2⟩ := hF
            refine k_seq (k_seq (rgo tb hJ [0, 1, 2, 1003] [_, _, .int (((others.length : Nat) : Int)), _] [2] [(_, _), (_, _), (_, _), (_, .bool (decide (((j : Nat) : Int) < ((others.length : Nat) : Int))))] rfl rfl rfl rfl ⟨hLen unds_56_109 rfl rfl rfl rfl, trivial⟩ (nx (tc 3 rfl rfl (fun hb14 => ?_) (fun hb14 => ?_)))))
            ·
             try simp at hb14
             refine tr_skip (nx (k_seq (tr_block (k_seq (rgo tb hJ [0, 1, 2, 1016] [_, _, .ptr (hyC (ge others j)), _, _, _, _, _, _, _, _, .ptr (hyC (ge others j)), _, _, .bool (hyEq (ge others j) y), _, _] [2, 11, 14] [(_, _), (_, _), (_, _), (_, .bool ((decide (((ge others j).label) = y.label)) && (!(hyEq (ge others j) y))))] rfl rfl rfl rfl ⟨hIx elem_56_109_3 (by first | omega | (simp; omega) | grind [ge_mem]) rfl rfl rfl rfl rfl rfl, fun _ _ _ hx hl hc => r_index (i := ((j : Nat) : Int)) elem_56_109_3 rfl (hl.dep 9 198 _ rfl rfl rfl hc) (hl.dep 10 199 _ rfl rfl rfl hc) (Int.natCast_nonneg _) (row_nat (xs := others) (k := j) (by have hc' : (((decide (((ge others j).label) = y.label)) == true)) = true := hc; (try simp at hc'); (first | omega | (simp; omega) | grind [ge_mem]))) rfl hx, fun _ _ hk hx hl hc => r_fn (c_SameHyp hJ (x := (ge others j)) (y := y) ) call_135 rfl (xo_new hS _ hk hx) (hx.1) (relL_cons (hl.dep 12 201 _ rfl rfl rfl hc) (relL_cons (hl.dep 13 202 _ rfl rfl rfl hc) relL_nil)) (jo hJ hx), trivial⟩ (nx (tc 3 rfl rfl (fun hb15 => ?_) (fun hb15 => ?_))))))))
             ·
              try simp at hb15
              have q15 := any_hit (p := hSam y) (xs := others) (k := j) (by omega) (by simpa [hSam] using hb15)
              refine k_seq (rgo tb hJ [1000] [_] [] [(_, .int (6 : Int))] rfl rfl rfl rfl trivial (nx (tr_ret (fun a w h => leave1' (m := 0) rfl (st_disown h) rfl (congrArg AV.int (show (6 : Int) = (hypE d k y bs dm) from by clear h; subst_vars; grind [hypE]))))))
             ·
              try simp at hb15
              refine tr_skip (nx (rgo tb hJ [0, 1, 1002] [_, .int (((j + 1 : Nat) : Int)), _] [1] [(_, _), (_, _), (_, .int (((j + 1 : Nat) : Int)))] rfl rfl rfl rfl ⟨hAdd (by first | omega | (simp; omega) | grind [ge_mem]) rfl rfl rfl rfl rfl, trivial⟩ ?_))
              intro a w h; change ∃ j, _ ∧ _
              exact ⟨j + 1, ⟨⟨(show (j + 1) ≤ others.length from by omega), (show (others.take (j + 1)).any (hSam y) = false from any_miss (by omega) f5_2 (by simp [hSam]; grind))⟩, lz [0, 1, 2] rfl h⟩, (show others.length - (j + 1) < others.length - j from by first | omega | (simp; omega))⟩
            ·
             try simp at hb14
             have e14 := any_none (p := hSam y) f5_2 (by omega)
             refine tr_exit (nx (k_seq (rgo tb hJ [1000] [_] [] [(_, .int (0 : Int))] rfl rfl rfl rfl trivial (nx (tr_ret (fun a w h => leave1' (m := 0) rfl (st_disown h) rfl (congrArg AV.int (show (0 : Int) = (hypE d k y bs dm) from by clear h; subst_vars; grind [hypE]))))))))
      ·
       try simp at hb6
       refine tr_skip (nx (k_seq (tr_text (sq_own0 elem_56_109_3 hJ rfl rfl rfl (lb rfl) fun v4 => ?_))))
       refine sv tb rfl rfl rfl rfl (sq_end ?_)
       refine kw (lz [0, 2, 3, 4, 5] (env' := [(_, _), (_, _), (_, _), (_, _), (_, _)]) rfl) ?_
       refine nx (k_seq (k_seq (rgo tb hJ [0, 1, 2, 3, 4, 1000] [_] [] [(_, _), (_, _), (_, _), (_, _), (_, _), (_, .int (0 : Int))] rfl rfl rfl rfl trivial (nx (tr_block (tr_loop (ι := Nat × Value × (List Hy)) (fun (ii' : Nat × Value × (List Hy)) a w => match ii' with | (i, vo, others) => ((i ≤ k) ∧ (others = oth d i) ∧ (others.length ≤ 80 * i)) ∧ St All (SO S [OB.row vo 109 3 (others.map hyC)]) w0 206 [(1, .int (((k : Nat) : Int))), (3, .rd (hysC bs)), (5, .ptr (dbC d)), (7, .ptr (hyC y)), (17, .int (((i : Nat) : Int))), (16, .lit vo)] (XO J S w0.heap.size [OB.row vo 109 3 (others.map hyC)]) a w) (fun (ii' : Nat × Value × (List Hy)) => match ii' with | (i, _, _) => (k - i : Nat)) ?_ ?_))))))
       ·
        intro a w h
        exact ⟨(0, v4, ([] : List Hy)), (show (0 ≤ k) ∧ (([] : List Hy) = oth d 0) ∧ (([] : List Hy).length ≤ 80 * 0) from ⟨Nat.zero_le _, rfl, Nat.zero_le _⟩), lz [1, 2, 3, 4, 5, 0] rfl h⟩
       ·
        rintro ⟨i, vo, others⟩
        refine tr_and fun hF => ?_
        obtain ⟨f2_1, f2_2, f2_3⟩ := hF
        refine k_seq (k_seq (rgo tb hJ [0, 1, 2, 3, 4, 5, 1002] [_, _, _] [] [(_, _), (_, _), (_, _), (_, _), (_, _), (_, _), (_, .bool (decide (((i : Nat) : Int) < ((k : Nat) : Int))))] rfl rfl rfl rfl trivial (nx (tc 6 rfl rfl (fun hb8 => ?_) (fun hb8 => ?_)))))
        ·
         try simp at hb8
         refine tr_skip (nx (k_seq (tr_block (tr_text (sv tb rfl rfl rfl rfl (sv (av := .ptr [frsC d.frames]) tb rfl rfl rfl rfl (sv (av := .rd (frsC d.frames)) tb rfl rfl rfl rfl (sv tb rfl rfl rfl rfl (sq (.ptr (frC (ge d.frames i))) rfl rfl (lb rfl) (fun _ _ h => r_index (i := ((i : Nat) : Int)) elem_23_59_8 rfl (h.get 1 rfl) (h.get 0 rfl) (Int.natCast_nonneg _) (row_nat (xs := d.frames) (k := i) (by first | omega | (simp; omega) | grind [ge_mem])) rfl h.x) (sv (av := .agg (frC (ge d.frames i))) tb rfl rfl rfl rfl (sq (.rd (hysC (((ge d.frames i).hyps ++ (ge d.frames i).dummies)))) rfl rfl (lb rfl) (fun _ _ h => r_fn (c_All hJ (f := (ge d.frames i)) (by have := hz i (by omega); omega)) call_109 rfl (xo_new hS _ h.keep h.x) (h.x.1) (relL_cons (h.get 0 rfl) relL_nil) (jo hJ h.x)) (sq_appendM (f := hyC) (m := 6) (s := 126) others (((ge d.frames i).hyps ++ (ge d.frames i).dummies)) (fun _ => rfl) app_56_109 hJ hJ0 rfl rfl rfl (lb rfl) rfl rfl (fun a w h => (h.get 0 rfl)) (by first | (have := hz i (by omega); simp; omega) | (have := hz i (by omega); refine small48 ?_; simp; omega)) (by first | (have := hz i (by omega); simp; omega) | (have := hz i (by omega); refine small48 ?_; simp; omega)) fun v5 => ?_))))))))))))
         refine sv tb rfl rfl rfl rfl (sq_end ?_)
         refine kw (lz [0, 2, 6, 9, 10, 11, 12, 13] (env' := [(_, _), (_, _), (_, _), (_, _), (_, _), (_, _), (_, _), (_, _)]) rfl) ?_
         refine nx (tr_fact (fun a w h => len_le h 1 rfl) fun hl9 => tr_fact (fun a w h => len_le h 2 rfl) fun hl10 => rgo tb hJ [0, 3, 4, 5, 6, 1002] [_, .int (((i + 1 : Nat) : Int)), _] [1] [(_, _), (_, _), (_, _), (_, _), (_, _), (_, .int (((i + 1 : Nat) : Int)))] rfl rfl rfl rfl ⟨hAdd (by first | omega | (simp; omega) | grind [ge_mem]) rfl rfl rfl rfl rfl, trivial⟩ ?_)
         intro a w h; change ∃ j, _ ∧ _
         exact ⟨(i + 1, v5, others ++ (((ge d.frames i).hyps ++ (ge d.frames i).dummies))), ⟨⟨(show (i + 1) ≤ k from by omega), (show (others ++ (((ge d.frames i).hyps ++ (ge d.frames i).dummies))) = oth d (i + 1) from by rw [oth_succ (by omega), f2_2]), (show (others ++ (((ge d.frames i).hyps ++ (ge d.frames i).dummies))).length ≤ 80 * (i + 1) from by have := hz i (by omega); simp; omega)⟩, lz [1, 2, 3, 4, 5, 0] rfl h⟩, (show k - (i + 1) < k - i from by first | omega | (simp; omega))⟩
        ·
         try simp at hb8
         have hik : i = k := by omega
         rw [hik] at f2_2 f2_3
         refine tr_exit (nx (k_seq (k_seq ?_)))
         refine tw (fun h => st_freeze hS h (m := 5) (s := 16) rfl) ?_
         refine rgo tb hJ [0, 2, 4, 1001] [_, _] [] [(_, _), (_, _), (_, _), (_, .bool y.floating)] rfl rfl rfl rfl trivial (nx (tr_fact (fun a w h => len_le h 0 rfl) fun hl11 => tc 3 rfl rfl (fun hb9 => ?_) (fun hb9 => ?_)))
         ·
          try simp at hb9
          have hy2 := hForm_two hb1 hb9
          refine k_seq ?_
          refine fun a w h => region_C (id := 24) (t := 56) (e := 109) (size := 3) (bytes := 48) (i0 := 0) (fol := 5) (d := 18) (ch := [(2, (others.map hyC)), (4, (bs.map hyC))]) (fun ix' => ([.any, .rd (hysC others), .any, .rd (hysC bs), .any, .any] : List AV).getD ix' .any) (fun ix' => ([true, true, true, true, true, true] : List Bool).getD ix' true) [(0, 16, .rd (hysC others)), (1, 3, .rd (hysC bs)), (2, 7, .ptr (hyC y))] ((others ++ bs).map hyC) (by simp) ?r24_2 hJ hJ0 h mixedE rfl rfl rfl rfl ⟨?o24_2_0, ⟨?o24_2_1, ⟨?o24_2_2, ⟨?o24_2_3, ⟨?o24_2_4, ⟨?o24_2_5, trivial⟩⟩⟩⟩⟩⟩ ⟨rfl, rfl, ⟨rfl, rfl, ⟨rfl, rfl, trivial⟩⟩⟩ (fun v6 => ?n24_2)
          case r24_2 =>
           refine Row.mk' app_56_109 ⟨_, rfl, rfl, rfl, rfl, rfl⟩ ⟨?x24_2_0, ⟨?x24_2_1, trivial⟩⟩ ⟨_, _, _, _, rfl, rfl, rfl, rfl, rfl, rfl, rfl, rfl, rfl⟩ rfl rfl rfl
           case x24_2_0 => exact ⟨_, _, _, _, rfl, rfl, rfl, rfl, rfl, rfl, rfl, rfl, len_map (f := hyC) (fun _ => rfl), (by have hm : maxLen = 9223372036854775807 := rfl; simp [upto]; first | (have := hz i (by omega); simp; omega) | (have := hz i (by omega); refine small48 ?_; simp; omega)), (by have hm : maxLen = 9223372036854775807 := rfl; simp [upto]; first | (have := hz i (by omega); simp; omega) | (have := hz i (by omega); refine small48 ?_; simp; omega)), fun _ _ _ _ _ hl => (hl.dep 1 137 _ rfl rfl rfl rfl)⟩
           case x24_2_1 => exact ⟨_, _, _, _, rfl, rfl, rfl, rfl, rfl, rfl, rfl, rfl, len_map (f := hyC) (fun _ => rfl), (by have hm : maxLen = 9223372036854775807 := rfl; simp [upto]; first | (have := hz i (by omega); simp; omega) | (have := hz i (by omega); refine small48 ?_; simp; omega)), (by have hm : maxLen = 9223372036854775807 := rfl; simp [upto]; first | (have := hz i (by omega); simp; omega) | (have := hz i (by omega); refine small48 ?_; simp; omega)), fun _ _ _ _ _ hl => (hl.dep 3 139 _ rfl rfl rfl rfl)⟩
          case o24_2_0 => exact fun h => not_in_row rfl h
          case o24_2_1 => exact fun _ _ => ⟨rfl, fun _ _ _ hx hl _ => r_move rfl (hl.env 0 16 _ rfl rfl) hx⟩
          case o24_2_2 => exact fun h => not_in_row rfl h
          case o24_2_3 => exact fun _ _ => ⟨rfl, fun _ _ _ hx hl _ => r_move rfl (hl.env 1 3 _ rfl rfl) hx⟩
          case o24_2_4 => exact fun h => not_in_row rfl h
          case o24_2_5 => exact fun h => not_in_row rfl h
          clear a w h
          refine nx (k_seq (k_seq ?_))
          refine tw (fun h => st_freeze hS h (m := 0) (s := 18) rfl) ?_
          refine rgo tb hJ [0, 1, 2, 3, 1000] [_] [] [(_, _), (_, _), (_, _), (_, _), (_, .int (0 : Int))] rfl rfl rfl rfl trivial (nx (tr_fact (fun a w h => len_le h 0 rfl) fun hl12 => tr_block (tr_loop (ι := Nat) (fun (j : Nat) a w => ((j ≤ (others ++ bs).length) ∧ (((others ++ bs).take j).any (hTyp y) = false)) ∧ St All (SO S []) w0 206 [(18, .rd (hysC (others ++ bs))), (16, .rd (hysC others)), (3, .rd (hysC bs)), (7, .ptr (hyC y)), (19, .int (((j : Nat) : Int)))] (XO J S w0.heap.size []) a w) (fun (j : Nat) => ((others ++ bs).length - j : Nat)) ?_ ?_)))
          ·
           intro a w h
           exact ⟨0, (show (0 ≤ (others ++ bs).length) ∧ (((others ++ bs).take 0).any (hTyp y) = false) from ⟨Nat.zero_le _, rfl⟩), lz [0, 1, 2, 3, 4] rfl h⟩
          ·
           rintro j
           refine tr_and fun hF => ?_
           obtain ⟨f3_1, f3_2⟩ := hF
           refine k_seq (k_seq (rgo tb hJ [0, 1, 2, 3, 4, 1003] [_, _, .int ((((others ++ bs).length : Nat) : Int)), _] [2] [(_, _), (_, _), (_, _), (_, _), (_, _), (_, .bool (decide (((j : Nat) : Int) < (((others ++ bs).length : Nat) : Int))))] rfl rfl rfl rfl ⟨hLen unds_56_109 rfl rfl rfl rfl, trivial⟩ (nx (tc 5 rfl rfl (fun hb10 => ?_) (fun hb10 => ?_)))))
           ·
            try simp at hb10
            refine tr_skip (nx (k_seq (tr_block (k_seq (rgo tb hJ [0, 1, 2, 3, 4, 1006, 1021] [_, _, .ptr (hyC ((ge (others ++ bs) j))), _, _, _, _, .bool (ofB ((ge (others ++ bs) j)) (y.text.drop 1)), _, _, _, .ptr (hyC ((ge (others ++ bs) j))), _, _, .ptr [.lit (.string ((ge (((ge (others ++ bs) j)).text) 0)))], _, _, _, .ptr [.lit (.string (ge y.text 0))], _, _, _] [2, 6, 7, 11, 14, 18] [(_, _), (_, _), (_, _), (_, _), (_, _), (_, .rd (strsC (y.text.drop 1))), (_, .bool ((ofB ((ge (others ++ bs) j)) (y.text.drop 1)) && (!decide (((ge (((ge (others ++ bs) j)).text) 0)) = (ge y.text 0)))))] rfl rfl rfl rfl ⟨hIx elem_56_109_3 (by first | omega | (simp; omega) | grind [ge_mem]) rfl rfl rfl rfl rfl rfl, fun _ _ _ hx hl _ => r_sliceE (ys := y.text.drop 1) (lo := 1) (hi := y.text.length) (by rw [List.take_length]) elem_22_9_1 (fun _ => rfl) rfl (hl.dep 5 152 _ rfl rfl rfl rfl) (Rel.of_lit (Go.Value.int Go.IntKind.i64 1)) rfl (by first | omega | (simp; omega) | grind [ge_mem]) (by first | omega | (simp; omega) | grind [ge_mem]) hx, hFo hS hJ (c_of hJ (y := ((ge (others ++ bs) j))) (vs := (y.text.drop 1)) ) call_134 rfl rfl rfl rfl, fun _ _ _ hx hl hc => r_index (i := ((j : Nat) : Int)) elem_56_109_3 rfl (hl.dep 9 156 _ rfl rfl rfl hc) (hl.dep 10 157 _ rfl rfl rfl hc) (Int.natCast_nonneg _) (row_nat (xs := others ++ bs) (k := j) (by have hc' : (((ofB ((ge (others ++ bs) j)) (y.text.drop 1)) == true)) = true := hc; (try simp at hc'); (first | omega | (simp; omega) | grind [ge_mem]))) rfl hx, fun _ _ _ hx hl hc => r_index (i := ((0 : Nat) : Int)) elem_22_9_1 rfl (hl.dep 13 160 _ rfl rfl rfl hc) (Rel.of_lit (Go.Value.int Go.IntKind.i64 0)) (Int.natCast_nonneg _) (row_nat (xs := ((ge (others ++ bs) j)).text) (k := 0) (by have hc' : (((ofB ((ge (others ++ bs) j)) (y.text.drop 1)) == true)) = true := hc; (try simp at hc'); (have := ofB_two hc'; omega))) rfl hx, fun _ _ _ hx hl hc => r_index (i := ((0 : Nat) : Int)) elem_22_9_1 rfl (hl.dep 17 164 _ rfl rfl rfl hc) (Rel.of_lit (Go.Value.int Go.IntKind.i64 0)) (Int.natCast_nonneg _) (row_nat (xs := y.text) (k := 0) (by have hc' : (((ofB ((ge (others ++ bs) j)) (y.text.drop 1)) == true)) = true := hc; (try simp at hc'); (first | omega | (simp; omega) | grind [ge_mem]))) rfl hx, trivial⟩ (nx (tr_fact (fun a w h => len_le h 5 rfl) fun hl13 => tc 6 rfl rfl (fun hb11 => ?_) (fun hb11 => ?_))))))))
            ·
             try simp at hb11
             have q11 := any_hit (p := hTyp y) (xs := others ++ bs) (k := j) (by simp; omega) (by simpa [hTyp] using hb11)
             refine k_seq (rgo tb hJ [1000] [_] [] [(_, .int (11 : Int))] rfl rfl rfl rfl trivial (nx (tr_ret (fun a w h => leave1' (m := 0) rfl (st_disown h) rfl (congrArg AV.int (show (11 : Int) = (hypE d k y bs dm) from by clear h; subst_vars; grind [hypE]))))))
            ·
             try simp at hb11
             refine tr_skip (nx (rgo tb hJ [0, 1, 2, 3, 1002] [_, .int (((j + 1 : Nat) : Int)), _] [1] [(_, _), (_, _), (_, _), (_, _), (_, .int (((j + 1 : Nat) : Int)))] rfl rfl rfl rfl ⟨hAdd (by first | omega | (simp; omega) | grind [ge_mem]) rfl rfl rfl rfl rfl, trivial⟩ ?_))
             intro a w h; change ∃ j, _ ∧ _
             exact ⟨j + 1, ⟨⟨(show (j + 1) ≤ (others ++ bs).length from by simp; omega), (show ((others ++ bs).take (j + 1)).any (hTyp y) = false from any_miss (by simp; omega) f3_2 (by simp [hTyp]; grind))⟩, lz [0, 1, 2, 3, 4] rfl h⟩, (show (others ++ bs).length - (j + 1) < (others ++ bs).length - j from by first | omega | (simp; omega))⟩
           ·
            try simp at hb10
            have e10 := any_none (p := hTyp y) f3_2 (by simp; omega)
            refine tr_exit (nx (k_seq (rgo tb hJ [1, 2, 3, 1000] [_] [] [(_, _), (_, _), (_, _), (_, .int (0 : Int))] rfl rfl rfl rfl trivial (nx (tr_block (tr_loop (ι := Nat) (fun (j : Nat) a w => ((j ≤ bs.length) ∧ ((bs.take j).any (hOf y) = false)) ∧ St All (SO S []) w0 206 [(16, .rd (hysC others)), (3, .rd (hysC bs)), (7, .ptr (hyC y)), (20, .int (((j : Nat) : Int)))] (XO J S w0.heap.size []) a w) (fun (j : Nat) => (bs.length - j : Nat)) ?_ ?_))))))
            ·
             intro a w h
             exact ⟨0, (show (0 ≤ bs.length) ∧ ((bs.take 0).any (hOf y) = false) from ⟨Nat.zero_le _, rfl⟩), lz [0, 1, 2, 3] rfl h⟩
            ·
             rintro j
             refine tr_and fun hF => ?_
             obtain ⟨f4_1, f4_2⟩ := hF
             refine k_seq (k_seq (rgo tb hJ [0, 1, 2, 3, 1003] [_, _, .int (((bs.length : Nat) : Int)), _] [2] [(_, _), (_, _), (_, _), (_, _), (_, .bool (decide (((j : Nat) : Int) < ((bs.length : Nat) : Int))))] rfl rfl rfl rfl ⟨hLen unds_56_109 rfl rfl rfl rfl, trivial⟩ (nx (tc 4 rfl rfl (fun hb12 => ?_) (fun hb12 => ?_)))))
             ·
              try simp at hb12
              refine tr_skip (nx (k_seq (tr_block (k_seq (rgo tb hJ [0, 1, 2, 3, 1006, 1007] [_, _, .ptr (hyC (ge bs j)), _, _, _, _, _] [2, 6, 7] [(_, _), (_, _), (_, _), (_, _), (_, .rd (strsC (y.text.drop 1))), (_, .bool (ofB (ge bs j) (y.text.drop 1)))] rfl rfl rfl rfl ⟨hIx elem_56_109_3 (by first | omega | (simp; omega) | grind [ge_mem]) rfl rfl rfl rfl rfl rfl, fun _ _ _ hx hl _ => r_sliceE (ys := y.text.drop 1) (lo := 1) (hi := y.text.length) (by rw [List.take_length]) elem_22_9_1 (fun _ => rfl) rfl (hl.dep 5 180 _ rfl rfl rfl rfl) (Rel.of_lit (Go.Value.int Go.IntKind.i64 1)) rfl (by first | omega | (simp; omega) | grind [ge_mem]) (by first | omega | (simp; omega) | grind [ge_mem]) hx, hFo hS hJ (c_of hJ (y := (ge bs j)) (vs := (y.text.drop 1)) ) call_134 rfl rfl rfl rfl, trivial⟩ (nx (tr_fact (fun a w h => len_le h 4 rfl) fun hl14 => tc 5 rfl rfl (fun hb13 => ?_) (fun hb13 => ?_))))))))
              ·
               try simp at hb13
               have q13 := any_hit (p := hOf y) (xs := bs) (k := j) (by omega) (by simpa [hOf] using hb13)
               refine k_seq (rgo tb hJ [1000] [_] [] [(_, .int (6 : Int))] rfl rfl rfl rfl trivial (nx (tr_ret (fun a w h => leave1' (m := 0) rfl (st_disown h) rfl (congrArg AV.int (show (6 : Int) = (hypE d k y bs dm) from by clear h; subst_vars; grind [hypE]))))))
              ·
               try simp at hb13
               refine tr_skip (nx (rgo tb hJ [0, 1, 2, 1002] [_, .int (((j + 1 : Nat) : Int)), _] [1] [(_, _), (_, _), (_, _), (_, .int (((j + 1 : Nat) : Int)))] rfl rfl rfl rfl ⟨hAdd (by first | omega | (simp; omega) | grind [ge_mem]) rfl rfl rfl rfl rfl, trivial⟩ ?_))
               intro a w h; change ∃ j, _ ∧ _
               exact ⟨j + 1, ⟨⟨(show (j + 1) ≤ bs.length from by omega), (show (bs.take (j + 1)).any (hOf y) = false from any_miss (by omega) f4_2 (by simpa [hOf] using hb13))⟩, lz [0, 1, 2, 3] rfl h⟩, (show bs.length - (j + 1) < bs.length - j from by first | omega | (simp; omega))⟩
             ·
              try simp at hb12
              have e12 := any_none (p := hOf y) f4_2 (by omega)
              refine tr_exit (nx (k_seq (k_seq (rgo tb hJ [0, 2, 1000] [_] [] [(_, _), (_, _), (_, .int (0 : Int))] rfl rfl rfl rfl trivial (nx (tr_block (tr_loop (ι := Nat) (fun (j : Nat) a w => ((j ≤ others.length) ∧ ((others.take j).any (hSam y) = false)) ∧ St All (SO S []) w0 206 [(16, .rd (hysC others)), (7, .ptr (hyC y)), (21, .int (((j : Nat) : Int)))] (XO J S w0.heap.size []) a w) (fun (j : Nat) => (others.length - j : Nat)) ?_ ?_)))))))
              ·
               intro a w h
               exact ⟨0, (show (0 ≤ others.length) ∧ ((others.take 0).any (hSam y) = false) from ⟨Nat.zero_le _, rfl⟩), lz [0, 1, 2] rfl h⟩
              ·
               rintro j
               refine tr_and fun hF => ?_
               obtain ⟨f5_1, f5_2⟩ := hF
               refine k_seq (k_seq (rgo tb hJ [0, 1, 2, 1003] [_, _, .int (((others.length : Nat) : Int)), _] [2] [(_, _), (_, _), (_, _), (_, .bool (decide (((j : Nat) : Int) < ((others.length : Nat) : Int))))] rfl rfl rfl rfl ⟨hLen unds_56_109 rfl rfl rfl rfl, trivial⟩ (nx (tc 3 rfl rfl (fun hb14 => ?_) (fun hb14 => ?_)))))
               ·
                try simp at hb14
                refine tr_skip (nx (k_seq (tr_block (k_seq (rgo tb hJ [0, 1, 2, 1016] [_, _, .ptr (hyC (ge others j)), _, _, _, _, _, _, _, _, .ptr (hyC (ge others j)), _, _, .bool (hyEq (ge others j) y), _, _] [2, 11, 14] [(_, _), (_, _), (_, _), (_, .bool ((decide (((ge others j).label) = y.label)) && (!(hyEq (ge others j) y))))] rfl rfl rfl rfl ⟨hIx elem_56_109_3 (by first | omega | (simp; omega) | grind [ge_mem]) rfl rfl rfl rfl rfl rfl, fun _ _ _ hx hl hc => r_index (i := ((j : Nat) : Int)) elem_56_109_3 rfl (hl.dep 9 198 _ rfl rfl rfl hc) (hl.dep 10 199 _ rfl rfl rfl hc) (Int.natCast_nonneg _) (row_nat (xs := others) (k := j) (by have hc' : (((decide (((ge others j).label) = y.label)) == true)) = true := hc; (try simp at hc'); (first | omega | (simp; omega) | grind [ge_mem]))) rfl hx, fun _ _ hk hx hl hc => r_fn (c_SameHyp hJ (x := (ge others j)) (y := y) ) call_135 rfl (xo_new hS _ hk hx) (hx.1) (relL_cons (hl.dep 12 201 _ rfl rfl rfl hc) (relL_cons (hl.dep 13 202 _ rfl rfl rfl hc) relL_nil)) (jo hJ hx), trivial⟩ (nx (tc 3 rfl rfl (fun hb15 => ?_) (fun hb15 => ?_))))))))
                ·
                 try simp at hb15
                 have q15 := any_hit (p := hSam y) (xs := others) (k := j) (by omega) (by simpa [hSam] using hb15)
                 refine k_seq (rgo tb hJ [1000] [_] [] [(_, .int (6 : Int))] rfl rfl rfl rfl trivial (nx (tr_ret (fun a w h => leave1' (m := 0) rfl (st_disown h) rfl (congrArg AV.int (show (6 : Int) = (hypE d k y bs dm) from by clear h; subst_vars; grind [hypE]))))))
                ·
                 try simp at hb15
                 refine tr_skip (nx (rgo tb hJ [0, 1, 1002] [_, .int (((j + 1 : Nat) : Int)), _] [1] [(_, _), (_, _), (_, .int (((j + 1 : Nat) : Int)))] rfl rfl rfl rfl ⟨hAdd (by first | omega | (simp; omega) | grind [ge_mem]) rfl rfl rfl rfl rfl, trivial⟩ ?_))
                 intro a w h; change ∃ j, _ ∧ _
                 exact ⟨j + 1, ⟨⟨(show (j + 1) ≤ others.length from by omega), (show (others.take (j + 1)).any (hSam y) = false from any_miss (by omega) f5_2 (by simp [hSam]; grind))⟩, lz [0, 1, 2] rfl h⟩, (show others.length - (j + 1) < others.length - j from by first | omega | (simp; omega))⟩
               ·
                try simp at hb14
                have e14 := any_none (p := hSam y) f5_2 (by omega)
                refine tr_exit (nx (k_seq (rgo tb hJ [1000] [_] [] [(_, .int (0 : Int))] rfl rfl rfl rfl trivial (nx (tr_ret (fun a w h => leave1' (m := 0) rfl (st_disown h) rfl (congrArg AV.int (show (0 : Int) = (hypE d k y bs dm) from by clear h; subst_vars; grind [hypE]))))))))
         ·
          try simp at hb9
          refine tr_skip (nx (k_seq (k_seq (rgo tb hJ [0, 2, 1000] [_] [] [(_, _), (_, _), (_, .int (0 : Int))] rfl rfl rfl rfl trivial (nx (tr_block (tr_loop (ι := Nat) (fun (j : Nat) a w => ((j ≤ others.length) ∧ ((others.take j).any (hSam y) = false)) ∧ St All (SO S []) w0 206 [(16, .rd (hysC others)), (7, .ptr (hyC y)), (21, .int (((j : Nat) : Int)))] (XO J S w0.heap.size []) a w) (fun (j : Nat) => (others.length - j : Nat)) ?_ ?_)))))))
          ·
           intro a w h
           exact ⟨0, (show (0 ≤ others.length) ∧ ((others.take 0).any (hSam y) = false) from ⟨Nat.zero_le _, rfl⟩), lz [0, 1, 2] rfl h⟩
          ·
           rintro j
           refine tr_and fun hF => ?_
           obtain ⟨f5_1, f5_2⟩ := hF
           refine k_seq (k_seq (rgo tb hJ [0, 1, 2, 1003] [_, _, .int (((others.length : Nat) : Int)), _] [2] [(_, _), (_, _), (_, _), (_, .bool (decide (((j : Nat) : Int) < ((others.length : Nat) : Int))))] rfl rfl rfl rfl ⟨hLen unds_56_109 rfl rfl rfl rfl, trivial⟩ (nx (tc 3 rfl rfl (fun hb14 => ?_) (fun hb14 => ?_)))))
           ·
            try simp at hb14
            refine tr_skip (nx (k_seq (tr_block (k_seq (rgo tb hJ [0, 1, 2, 1016] [_, _, .ptr (hyC (ge others j)), _, _, _, _, _, _, _, _, .ptr (hyC (ge others j)), _, _, .bool (hyEq (ge others j) y), _, _] [2, 11, 14] [(_, _), (_, _), (_, _), (_, .bool ((decide (((ge others j).label) = y.label)) && (!(hyEq (ge others j) y))))] rfl rfl rfl rfl ⟨hIx elem_56_109_3 (by first | omega | (simp; omega) | grind [ge_mem]) rfl rfl rfl rfl rfl rfl, fun _ _ _ hx hl hc => r_index (i := ((j : Nat) : Int)) elem_56_109_3 rfl (hl.dep 9 198 _ rfl rfl rfl hc) (hl.dep 10 199 _ rfl rfl rfl hc) (Int.natCast_nonneg _) (row_nat (xs := others) (k := j) (by have hc' : (((decide (((ge others j).label) = y.label)) == true)) = true := hc; (try simp at hc'); (first | omega | (simp; omega) | grind [ge_mem]))) rfl hx, fun _ _ hk hx hl hc => r_fn (c_SameHyp hJ (x := (ge others j)) (y := y) ) call_135 rfl (xo_new hS _ hk hx) (hx.1) (relL_cons (hl.dep 12 201 _ rfl rfl rfl hc) (relL_cons (hl.dep 13 202 _ rfl rfl rfl hc) relL_nil)) (jo hJ hx), trivial⟩ (nx (tc 3 rfl rfl (fun hb15 => ?_) (fun hb15 => ?_))))))))
            ·
             try simp at hb15
             have q15 := any_hit (p := hSam y) (xs := others) (k := j) (by omega) (by simpa [hSam] using hb15)
             refine k_seq (rgo tb hJ [1000] [_] [] [(_, .int (6 : Int))] rfl rfl rfl rfl trivial (nx (tr_ret (fun a w h => leave1' (m := 0) rfl (st_disown h) rfl (congrArg AV.int (show (6 : Int) = (hypE d k y bs dm) from by clear h; subst_vars; grind [hypE]))))))
            ·
             try simp at hb15
             refine tr_skip (nx (rgo tb hJ [0, 1, 1002] [_, .int (((j + 1 : Nat) : Int)), _] [1] [(_, _), (_, _), (_, .int (((j + 1 : Nat) : Int)))] rfl rfl rfl rfl ⟨hAdd (by first | omega | (simp; omega) | grind [ge_mem]) rfl rfl rfl rfl rfl, trivial⟩ ?_))
             intro a w h; change ∃ j, _ ∧ _
             exact ⟨j + 1, ⟨⟨(show (j + 1) ≤ others.length from by omega), (show (others.take (j + 1)).any (hSam y) = false from any_miss (by omega) f5_2 (by simp [hSam]; grind))⟩, lz [0, 1, 2] rfl h⟩, (show others.length - (j + 1) < others.length - j from by first | omega | (simp; omega))⟩
           ·
            try simp at hb14
            have e14 := any_none (p := hSam y) f5_2 (by omega)
            refine tr_exit (nx (k_seq (rgo tb hJ [1000] [_] [] [(_, .int (0 : Int))] rfl rfl rfl rfl trivial (nx (tr_ret (fun a w h => leave1' (m := 0) rfl (st_disown h) rfl (congrArg AV.int (show (0 : Int) = (hypE d k y bs dm) from by clear h; subst_vars; grind [hypE]))))))))

end Go.Proofs.YtnpgmdffjemnbaaGreatDoor
