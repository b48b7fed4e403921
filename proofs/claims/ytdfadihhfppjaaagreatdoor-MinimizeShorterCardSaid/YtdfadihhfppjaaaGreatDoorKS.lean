/-
  THE CARD OF MinimizeShorter: the statement MinimizeShorter returns true for every input, and each argument reads as it did. Conditions: none.
-/
import Derived.Test.YtdfadihhfppjaaaGreatDoorCards
import Derived.Test.YtdfadihhfppjaaaGreatDoorQAD
import Derived.Stop.LaidErr
namespace Go.Proofs.YtdfadihhfppjaaaGreatDoor.minimizeShorter
open Go.ChangeShapes Go.WideShapes Go.ChangeAt Go.RowKit
theorem own : ownKnob Tryz.prog.godebug = none := by kernel_rfl
theorem table {W : World} (h : laidMetH Tryz.prog Rows.minimizeShorterRow.laid W) : Zgv W := Znu h
set_option maxRecDepth 100000 in
theorem Zte (H : Type) (enc : TypeId × Value → H) (W : World) (base : Nat) (args : Array Value) (ds gs : List (DataW H)) (before : List MemPlace)
 (hval : ∀ (j : Nat) t v, Tryz.f7.params[j]? = some t → args[j]? = some v → Value.okWide Tryz.prog W .any base t v)
 (hW : DataW.Whole enc Tryz.prog Tryz.f7.params.toList Rows.minimizeShorterSpec.vars false W args.toList ds gs before)
 (hz : (DataW.weightsEach Tryz.prog (Tryz.f7.params.toList ++ []) (ds ++ gs)).all (· ≤ reachBytes) = true) (hL : laidMetH Tryz.prog Rows.minimizeShorterRow.laid W) :
 Calls Tryz.prog 7 args W fun e W' => ∃ v, e = .returned v ∧ Rows.minimizeShorterSpec.post enc Tryz.prog Tryz.f7 false true false false W args v W' := by
 have hW' := hW
 obtain ⟨p, q, hA, hV, rfl, hfz, hnd⟩ := hW
 rw [Tryz.params7] at hA hval hz
 obtain ⟨v0, vs0, d0, ds0, p0, q0, hargs, rfl, rfl, h0, r0⟩ := trodAll_cons hA
 obtain ⟨v1, vs1, d1, ds1, p1, q1, rfl, rfl, rfl, h1, r1⟩ := trodAll_cons r0
 obtain ⟨v2, vs2, d2, ds2, p2, q2, rfl, rfl, rfl, h2, r2⟩ := trodAll_cons r1
 obtain ⟨v3, vs3, d3, ds3, p3, q3, rfl, rfl, rfl, h3, r3⟩ := trodAll_cons r2
 obtain ⟨rfl, rfl, rfl⟩ := trodAll_nil r3
 obtain rfl : args = #[v0, v1, v2, v3] := by cases args; simp_all
 obtain ⟨rfl, rfl⟩ := trodVars_none hV
 have hz0 : ZmF 25 d0 := by
  intro x hx
  have h := List.all_eq_true.1 hz x (by simp only [List.append_nil, DataW.weightsEach, List.mem_append]; exact Or.inl hx)
  simpa using h
 obtain ⟨d, hr0, hok⟩ := Zwr (hval 0 25 v0 rfl rfl) h0 hz0
 obtain ⟨n1, rfl, _, _, hwf1⟩ := open_int Tryz.underlying3 (hval 1 3 v1 rfl rfl) h1
 have hr1 : Rel All W (.int n1) (.int .i64 n1) := Rel.of_lit _
 have hz2 : ZmF 28 d2 := by
  intro x hx
  have h := List.all_eq_true.1 hz x (by simp only [List.append_nil, DataW.weightsEach, List.mem_append]; exact Or.inr (Or.inr (Or.inl hx)))
  simpa using h
 obtain ⟨ss2, hr2⟩ := Zwq (hval 2 28 v2 rfl rfl) h2 hz2
 obtain ⟨n3, hr3⟩ := Zwp (hval 3 5 v3 rfl rfl) h3
 have hw : ∀ f ∈ d.frames, f.wide.length * 32 ≤ 140737488351232 := fun f hf => (hok.frame f hf).wide.1
 have hlaw := ZiG Zp8 d n1 ss2 n3 hw Zp9 All W [v0, .int .i64 n1, v2, v3] (fun _ _ => trivial) (table hL) (Za hr0 (Za hr1 (Za hr2 (Za hr3 Zc))))
 refine hlaw.mono fun e W' ⟨v, he, hrv, hk, _⟩ => ?_
 obtain rfl := hrv.lit
 subst he
 refine ⟨_, rfl, ZsD hW' rfl (by kernel_rfl) rfl ?_ hk⟩
 intro t ht
 rw [Tryz.params7] at ht
 have ht2 : t = 25 ∨ t = 3 ∨ t = 28 ∨ t = 5 := by simpa using ht
 rcases ht2 with rfl | rfl | rfl | rfl
 · exact ⟨by kernel_rfl, of_decide_eq_true (by kernel_rfl)⟩
 · exact ⟨by kernel_rfl, of_decide_eq_true (by kernel_rfl)⟩
 · exact ⟨by kernel_rfl, of_decide_eq_true (by kernel_rfl)⟩
 · exact ⟨by kernel_rfl, of_decide_eq_true (by kernel_rfl)⟩
def ZrS (cs : Array Value) : Obj → Obj
 | .cells _ t frozen => .cells cs t frozen
 | o => o
def ZrE : Array Value := #[.string ⟨#[]⟩, .bool false, .int .i64 0, .int .i64 0, .string ⟨#[36, 99]⟩, .bool false, .int .i64 1, .int .i64 200, .string ⟨#[36, 118]⟩, .bool false, .int .i64 1, .int .i64 200, .string ⟨#[36, 102]⟩, .bool true, .int .i64 2, .int .i64 2, .string ⟨#[36, 101]⟩, .bool true, .int .i64 1, .int .i64 200, .string ⟨#[36, 100]⟩, .bool false, .int .i64 1, .int .i64 200, .string ⟨#[36, 97]⟩, .bool true, .int .i64 1, .int .i64 200, .string ⟨#[36, 112]⟩, .bool true, .int .i64 1, .int .i64 200, .string ⟨#[36, 123]⟩, .bool false, .int .i64 0, .int .i64 0, .string ⟨#[36, 125]⟩, .bool false, .int .i64 0, .int .i64 0]
noncomputable def ZsG (os : Os) : Array Obj := (World.holding Tryz.prog os ⟨#[], #[], []⟩).heap.modify 1 (ZrS ZrE)
noncomputable def ZeU (os : Os) : World := { World.holding Tryz.prog os ⟨#[], #[], []⟩ with heap := ZsG os }
theorem ZsF (os : Os) : laidMet Tryz.prog Rows.minimizeShorterRow.laid ((ZeU os).forCall (fun _ _ => 0) ⟨#[], #[.agg #[.slice none 0 0, .slice none 0 0, .slice none 0 0], .int .i64 0, .agg #[.slice none 0 0], .int .u8 0], []⟩).memory :=
 laidMet_of_run' 80 (by kernel_rfl) (by kernel_rfl)
theorem reads (os : Os) {H : Type} (enc : TypeId × Value → H) : ∃ places, DataW.whole enc Tryz.prog ((ZeU os).forCall (fun _ _ => 0) ⟨#[], #[.agg #[.slice none 0 0, .slice none 0 0, .slice none 0 0], .int .i64 0, .agg #[.slice none 0 0], .int .u8 0], []⟩).memory Tryz.f7.params.toList Rows.minimizeShorterSpec.vars false (#[.agg #[.slice none 0 0, .slice none 0 0, .slice none 0 0], .int .i64 0, .agg #[.slice none 0 0], .int .u8 0] : Array Value).toList 8 = some ([.agg [.nil, .nil, .nil], .lit (.int .i64 0), .agg [.nil], .lit (.int .u8 0)], [], places) :=
 ⟨[], by kernel_rfl⟩
set_option maxRecDepth 100000 in
theorem lifted (os : Os) (started : os.Started) (H : Type) (enc : TypeId × Value → H) (F : Stop.Interp) :
 ReturnsInHanded {} Tryz.checked os 7 .any ((OpenSpec.ofChange Rows.minimizeShorterSpec).preRow enc Tryz.prog Tryz.f7 Rows.minimizeShorterRow.domain false Rows.minimizeShorterRow.laid) (((OpenSpec.ofChange Rows.minimizeShorterSpec).at F).post enc Tryz.prog Tryz.f7 false true false false) := by
 obtain ⟨places, hx⟩ := reads os enc
 refine returnsInHanded_of_row (C := Tryz.checked) (s := OpenSpec.ofChange Rows.minimizeShorterSpec) own started (by kernel_rfl) Tryz.func7
  (witness_row_at (enc := enc) (C := Tryz.checked) false (ZeU os) #[.agg #[.slice none 0 0, .slice none 0 0, .slice none 0 0], .int .i64 0, .agg #[.slice none 0 0], .int .u8 0] rfl (by kernel_rfl) (by kernel_rfl) (by kernel_rfl)
   (OpenSpec.preRow_of_cond 8 hx (by kernel_rfl) (fun k hk => by cases hk) (by kernel_rfl) (ZsF os))) ?_
 intro W base args ds gs before hval hW _ _ hz hL _ _
 exact Zte H enc W base args ds gs before hval hW hz hL
set_option maxHeartbeats 4000000 in
theorem facts : joinedFacts Tryz.pinned.checked.prog 7 Tryz.f7 (OpenSpec.ofChange Rows.minimizeShorterSpec).bare Rows.minimizeShorterRow = true := by
 unfold joinedFacts
 simp only [Bool.and_eq_true]
 repeat' apply And.intro
 all_goals (as_aux_lemma => kernel_rfl)
theorem said : Rows.MinimizeShorterSaid :=
 OpenClaim.holds_of_cond 7 Tryz.f7 rfl rfl rfl rfl rfl rfl rfl ⟨rfl, rfl, rfl, rfl, rfl⟩ rfl rfl rfl rfl rfl (by as_aux_lemma => kernel_rfl) Tryz.func7 facts
  (of_decide_eq_true (by as_aux_lemma => kernel_rfl)) (by unfold Func.isWrapper; first | (rw [if_pos (by decide +kernel)]; kernel_rfl) | (rw [if_neg (by decide +kernel)]; exact ⟨rfl, rfl⟩))
  (fun os started H enc _ F => by rw [OpenClaim.pre_eq_preRow]; exact lifted os started H enc F)
theorem plain (f : FuncId) (fn : Func) (hf : Tryz.pinned.checked.prog.funcNamed "apodixis/apodixislaw24.MinimizeShorter" = some f) (hfn : Tryz.pinned.checked.prog.funcs[f]? = some fn) :
 false = Tryz.pinned.checked.prog.looks [] ∧ ∀ (j : Nat) t, fn.params[j]? = some t → Tryz.pinned.checked.prog.wantsStandIn t = false := by
 obtain rfl : f = 7 := Option.some.inj ((show Tryz.prog.funcNamed "apodixis/apodixislaw24.MinimizeShorter" = some 7 by kernel_rfl).symm.trans hf) |>.symm
 obtain rfl : fn = Tryz.f7 := (Option.some.inj (Tryz.func7.symm.trans hfn)).symm
 refine ⟨by kernel_rfl, fun j t ht => ?_⟩
 rw [Tryz.params7] at ht
 have ht2 : t = 25 ∨ t = 3 ∨ t = 28 ∨ t = 5 := by simpa using Array.mem_of_getElem? ht
 rcases ht2 with rfl | rfl | rfl | rfl
 · exact (show Tryz.prog.wantsStandIn 25 = false by kernel_rfl)
 · exact (show Tryz.prog.wantsStandIn 3 = false by kernel_rfl)
 · exact (show Tryz.prog.wantsStandIn 28 = false by kernel_rfl)
 · exact (show Tryz.prog.wantsStandIn 5 = false by kernel_rfl)
theorem card : Rows.MinimizeShorterCardSaid :=
 Claim7.holds_tied_plain_at .later [] _ _ _ _ said (fun _ h => by cases h) (by as_aux_lemma => kernel_rfl) (fun _ h => by cases h) minimizeShorter_row_tie rfl ⟨rfl, rfl⟩ (by as_aux_lemma => kernel_rfl) rfl plain (by as_aux_lemma => kernel_rfl)
end Go.Proofs.YtdfadihhfppjaaaGreatDoor.minimizeShorter
