/-
  THE CARD OF VerifyTheorems: the statement VerifyTheorems returns true for every input, and each argument reads as it did. Conditions: none.
-/
import Derived.Test.YtneapgbkkkjagaaGreatDoorCards
import Derived.Test.YtneapgbkkkjagaaGreatDoorQL
import Derived.Test.YtneapgbkkkjagaaGreatDoorQAF
import Derived.Stop.LaidErr
namespace Go.Proofs.YtneapgbkkkjagaaGreatDoor.verifyTheorems
open Go.ChangeShapes Go.WideShapes Go.ChangeAt Go.RowKit
theorem own : ownKnob Tryz.prog.godebug = none := by kernel_rfl
theorem table {W : World} (h : laidMetH Tryz.prog Rows.verifyTheoremsRow.laid W) : Zgb W := Zl6 h
set_option maxRecDepth 100000 in
theorem ZrF (H : Type) (enc : TypeId × Value → H) (W : World) (base : Nat) (args : Array Value) (ds gs : List (DataW H)) (before : List MemPlace)
 (hval : ∀ (j : Nat) t v, Tryz.f4.params[j]? = some t → args[j]? = some v → Value.okWide Tryz.prog W .any base t v)
 (hW : DataW.Whole enc Tryz.prog Tryz.f4.params.toList Rows.verifyTheoremsSpec.vars false W args.toList ds gs before)
 (hz : (DataW.weightsEach Tryz.prog (Tryz.f4.params.toList ++ []) (ds ++ gs)).all (· ≤ reachBytes) = true) (hL : laidMetH Tryz.prog Rows.verifyTheoremsRow.laid W) :
 Calls Tryz.prog 4 args W fun e W' => ∃ v, e = .returned v ∧ Rows.verifyTheoremsSpec.post enc Tryz.prog Tryz.f4 false true false false W args v W' := by
 have hW' := hW
 obtain ⟨p, q, hA, hV, rfl, hfz, hnd⟩ := hW
 rw [Tryz.params4] at hA hval hz
 obtain ⟨v0, vs0, d0, ds0, p0, q0, hargs, rfl, rfl, h0, r0⟩ := trodAll_cons hA
 obtain ⟨v1, vs1, d1, ds1, p1, q1, rfl, rfl, rfl, h1, r1⟩ := trodAll_cons r0
 obtain ⟨rfl, rfl, rfl⟩ := trodAll_nil r1
 obtain rfl : args = #[v0, v1] := by cases args; simp_all
 obtain ⟨rfl, rfl⟩ := trodVars_none hV
 have hz0 : ZtM 25 d0 := by
  intro x hx
  have h := List.all_eq_true.1 hz x (by simp only [List.append_nil, DataW.weightsEach, List.mem_append]; exact Or.inl hx)
  simpa using h
 obtain ⟨d, hr0, hok⟩ := ZuQ (hval 0 25 v0 rfl rfl) h0 hz0
 obtain ⟨n1, rfl, _, _, hwf1⟩ := open_int Tryz.underlying3 (hval 1 3 v1 rfl rfl) h1
 have hr1 : Rel All W (.int n1) (.int .i64 n1) := Rel.of_lit _
 have hw : ∀ f ∈ d.frames, f.wide.length * 32 ≤ 140737488351232 := fun f hf => (hok.frame f hf).wide.1
 have hlaw := ZhZ ZoO d n1 hw ZoP All W [v0, .int .i64 n1] (fun _ _ => trivial) (table hL) (Za hr0 (Za hr1 Zh))
 refine hlaw.mono fun e W' ⟨v, he, hrv, hk, _⟩ => ?_
 obtain rfl := hrv.lit
 subst he
 refine ⟨_, rfl, Zri hW' rfl (by kernel_rfl) rfl ?_ hk⟩
 intro t ht
 rw [Tryz.params4] at ht
 have ht2 : t = 25 ∨ t = 3 := by simpa using ht
 rcases ht2 with rfl | rfl
 · exact ⟨by kernel_rfl, of_decide_eq_true (by kernel_rfl)⟩
 · exact ⟨by kernel_rfl, of_decide_eq_true (by kernel_rfl)⟩
def ZqK (cs : Array Value) : Obj → Obj
 | .cells _ t frozen => .cells cs t frozen
 | o => o
def Zqq : Array Value := #[.string ⟨#[]⟩, .bool false, .int .i64 0, .int .i64 0, .string ⟨#[36, 99]⟩, .bool false, .int .i64 1, .int .i64 200, .string ⟨#[36, 118]⟩, .bool false, .int .i64 1, .int .i64 200, .string ⟨#[36, 102]⟩, .bool true, .int .i64 2, .int .i64 2, .string ⟨#[36, 101]⟩, .bool true, .int .i64 1, .int .i64 200, .string ⟨#[36, 100]⟩, .bool false, .int .i64 1, .int .i64 200, .string ⟨#[36, 97]⟩, .bool true, .int .i64 1, .int .i64 200, .string ⟨#[36, 112]⟩, .bool true, .int .i64 1, .int .i64 200, .string ⟨#[36, 123]⟩, .bool false, .int .i64 0, .int .i64 0, .string ⟨#[36, 125]⟩, .bool false, .int .i64 0, .int .i64 0]
noncomputable def Zrl (os : Os) : Array Obj := (World.holding Tryz.prog os ⟨#[], #[], []⟩).heap.modify 0 (ZqK Zqq)
noncomputable def ZeF (os : Os) : World := { World.holding Tryz.prog os ⟨#[], #[], []⟩ with heap := Zrl os }
theorem Zrk (os : Os) : laidMet Tryz.prog Rows.verifyTheoremsRow.laid ((ZeF os).forCall (fun _ _ => 0) ⟨#[], #[.agg #[.slice none 0 0, .slice none 0 0, .slice none 0 0], .int .i64 0], []⟩).memory :=
 laidMet_of_run' 80 (by kernel_rfl) (by kernel_rfl)
theorem reads (os : Os) {H : Type} (enc : TypeId × Value → H) : ∃ places, DataW.whole enc Tryz.prog ((ZeF os).forCall (fun _ _ => 0) ⟨#[], #[.agg #[.slice none 0 0, .slice none 0 0, .slice none 0 0], .int .i64 0], []⟩).memory Tryz.f4.params.toList Rows.verifyTheoremsSpec.vars false (#[.agg #[.slice none 0 0, .slice none 0 0, .slice none 0 0], .int .i64 0] : Array Value).toList 8 = some ([.agg [.nil, .nil, .nil], .lit (.int .i64 0)], [], places) :=
 ⟨[], by kernel_rfl⟩
set_option maxRecDepth 100000 in
theorem lifted (os : Os) (started : os.Started) (H : Type) (enc : TypeId × Value → H) (F : Stop.Interp) :
 ReturnsInHanded {} Tryz.checked os 4 .any ((OpenSpec.ofChange Rows.verifyTheoremsSpec).preRow enc Tryz.prog Tryz.f4 Rows.verifyTheoremsRow.domain false Rows.verifyTheoremsRow.laid) (((OpenSpec.ofChange Rows.verifyTheoremsSpec).at F).post enc Tryz.prog Tryz.f4 false true false false) := by
 obtain ⟨places, hx⟩ := reads os enc
 refine returnsInHanded_of_row (C := Tryz.checked) (s := OpenSpec.ofChange Rows.verifyTheoremsSpec) own started (by kernel_rfl) Tryz.func4
  (witness_row_at (enc := enc) (C := Tryz.checked) false (ZeF os) #[.agg #[.slice none 0 0, .slice none 0 0, .slice none 0 0], .int .i64 0] rfl (by kernel_rfl) (by kernel_rfl) (by kernel_rfl)
   (OpenSpec.preRow_of_cond 8 hx (by kernel_rfl) (fun k hk => by cases hk) (by kernel_rfl) (Zrk os))) ?_
 intro W base args ds gs before hval hW _ _ hz hL _ _
 exact ZrF H enc W base args ds gs before hval hW hz hL
set_option maxHeartbeats 4000000 in
theorem facts : joinedFacts Tryz.pinned.checked.prog 4 Tryz.f4 (OpenSpec.ofChange Rows.verifyTheoremsSpec).bare Rows.verifyTheoremsRow = true := by
 unfold joinedFacts
 simp only [Bool.and_eq_true]
 repeat' apply And.intro
 all_goals (as_aux_lemma => kernel_rfl)
theorem said : Rows.VerifyTheoremsSaid :=
 OpenClaim.holds_of_cond 4 Tryz.f4 rfl rfl rfl rfl rfl rfl rfl ⟨rfl, rfl, rfl, rfl, rfl⟩ rfl rfl rfl rfl rfl (by as_aux_lemma => kernel_rfl) Tryz.func4 facts
  (of_decide_eq_true (by as_aux_lemma => kernel_rfl)) (by unfold Func.isWrapper; first | (rw [if_pos (by decide +kernel)]; kernel_rfl) | (rw [if_neg (by decide +kernel)]; exact ⟨rfl, rfl⟩))
  (fun os started H enc _ F => by rw [OpenClaim.pre_eq_preRow]; exact lifted os started H enc F)
theorem plain (f : FuncId) (fn : Func) (hf : Tryz.pinned.checked.prog.funcNamed "apodixis/apodixislaw07.VerifyTheorems" = some f) (hfn : Tryz.pinned.checked.prog.funcs[f]? = some fn) :
 true = Tryz.pinned.checked.prog.looks [] ∧ ∀ (j : Nat) t, fn.params[j]? = some t → Tryz.pinned.checked.prog.wantsStandIn t = false := by
 obtain rfl : f = 4 := Option.some.inj ((show Tryz.prog.funcNamed "apodixis/apodixislaw07.VerifyTheorems" = some 4 by kernel_rfl).symm.trans hf) |>.symm
 obtain rfl : fn = Tryz.f4 := (Option.some.inj (Tryz.func4.symm.trans hfn)).symm
 refine ⟨by kernel_rfl, fun j t ht => ?_⟩
 rw [Tryz.params4] at ht
 have ht2 : t = 25 ∨ t = 3 := by simpa using Array.mem_of_getElem? ht
 rcases ht2 with rfl | rfl
 · exact (show Tryz.prog.wantsStandIn 25 = false by kernel_rfl)
 · exact (show Tryz.prog.wantsStandIn 3 = false by kernel_rfl)
theorem card : Rows.VerifyTheoremsCardSaid :=
 Claim7.holds_tied_plain_at .later [] _ _ _ _ said (fun _ h => by cases h) (by as_aux_lemma => kernel_rfl) (fun _ h => by cases h) verifyTheorems_row_tie rfl ⟨rfl, rfl⟩ (by as_aux_lemma => kernel_rfl) rfl plain (by as_aux_lemma => kernel_rfl)
end Go.Proofs.YtneapgbkkkjagaaGreatDoor.verifyTheorems
