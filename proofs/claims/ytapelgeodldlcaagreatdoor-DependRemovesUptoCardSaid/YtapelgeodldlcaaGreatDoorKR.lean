/-
  THE CARD OF DependRemoves: the statement DependRemoves returns true for every input, and each argument reads as it did. Condition: what is read is of bulk at most 1048576 (the second form).
-/
import Derived.Test.YtapelgeodldlcaaGreatDoorCards
import Derived.Test.YtapelgeodldlcaaGreatDoorXL
import Derived.Test.YtapelgeodldlcaaGreatDoorXAC
import Derived.Stop.LaidErr
namespace Go.Proofs.YtapelgeodldlcaaGreatDoor.dependRemoves
open Go.ChangeShapes Go.WideShapes Go.ChangeAt Go.RowKit
theorem own : ownKnob Tryz.prog.godebug = none := by kernel_rfl
theorem table {W : World} (h : laidMetH Tryz.prog Rows.dependRemovesUptoRow.laid W) : Zfd W := ZkO h
set_option maxRecDepth 100000 in
theorem Zqj (H : Type) (enc : TypeId × Value → H) (W : World) (base : Nat) (args : Array Value) (ds gs : List (DataW H)) (before : List MemPlace)
 (hval : ∀ (j : Nat) t v, Tryz.f3.params[j]? = some t → args[j]? = some v → Value.okWide Tryz.prog W .any base t v)
 (hW : DataW.Whole enc Tryz.prog Tryz.f3.params.toList Rows.dependRemovesSpec.vars false W args.toList ds gs before)
 (hz : (DataW.weightsEach Tryz.prog (Tryz.f3.params.toList ++ []) (ds ++ gs)).all (· ≤ reachBytes) = true) (hL : laidMetH Tryz.prog Rows.dependRemovesUptoRow.laid W) (hb : Rows.uptoBulkAll (ds ++ gs) ≤ 1048576) :
 Calls Tryz.prog 3 args W fun e W' => ∃ v, e = .returned v ∧ Rows.dependRemovesSpec.post enc Tryz.prog Tryz.f3 false true false false W args v W' := by
 have hW' := hW
 obtain ⟨p, q, hA, hV, rfl, hfz, hnd⟩ := hW
 rw [Tryz.params3] at hA hval hz
 obtain ⟨v0, vs0, d0, ds0, p0, q0, hargs, rfl, rfl, h0, r0⟩ := trodAll_cons hA
 obtain ⟨v1, vs1, d1, ds1, p1, q1, rfl, rfl, rfl, h1, r1⟩ := trodAll_cons r0
 obtain ⟨rfl, rfl, rfl⟩ := trodAll_nil r1
 obtain rfl : args = #[v0, v1] := by cases args; simp_all
 obtain ⟨rfl, rfl⟩ := trodVars_none hV
 have hb0 : Rows.uptoBulk d0 ≤ 1048576 := by simp only [List.append_nil, Rows.uptoBulkAll] at hb; omega
 have hz0 : Zj1 25 d0 := by
  intro x hx
  have h := List.all_eq_true.1 hz x (by simp only [List.append_nil, DataW.weightsEach, List.mem_append]; exact Or.inl hx)
  simpa using h
 obtain ⟨d, hr0, hok⟩ := Zs9 (hval 0 25 v0 rfl rfl) h0 hz0 hb0
 have hb1 : Rows.uptoBulk d1 ≤ 1048576 := by simp only [List.append_nil, Rows.uptoBulkAll] at hb; omega
 have hz1 : Zj1 26 d1 := by
  intro x hx
  have h := List.all_eq_true.1 hz x (by simp only [List.append_nil, DataW.weightsEach, List.mem_append]; exact Or.inr (hx))
  simpa using h
 obtain ⟨us, hr1⟩ := ZpJ (hval 1 26 v1 rfl rfl) h1 hz1 hb1
 have hw : ∀ f ∈ d.frames, f.wide.length * 32 ≤ 140737488351232 := fun f hf => (hok.frame f hf).wide.1
 have hs : ∀ g ∈ d.frames, ∀ s ∈ g.proof, s.size ≤ 1048576 := fun g hg => (hok.frame g hg).words
 have hlaw := Zh4 Znt d us hw Znu hs All W [v0, v1] (fun _ _ => trivial) (table hL) (Za hr0 (Za hr1 Ze))
 refine hlaw.mono fun e W' ⟨v, he, hrv, hk, _⟩ => ?_
 obtain rfl := hrv.lit
 subst he
 refine ⟨_, rfl, ZpU hW' rfl (by kernel_rfl) rfl ?_ hk⟩
 intro t ht
 rw [Tryz.params3] at ht
 have ht2 : t = 25 ∨ t = 26 := by simpa using ht
 rcases ht2 with rfl | rfl
 · exact ⟨by kernel_rfl, of_decide_eq_true (by kernel_rfl)⟩
 · exact ⟨by kernel_rfl, of_decide_eq_true (by kernel_rfl)⟩
def Zpf (cs : Array Value) : Obj → Obj
 | .cells _ t frozen => .cells cs t frozen
 | o => o
def ZoW : Array Value := #[.string ⟨#[]⟩, .bool false, .int .i64 0, .int .i64 0, .string ⟨#[36, 99]⟩, .bool false, .int .i64 1, .int .i64 200, .string ⟨#[36, 118]⟩, .bool false, .int .i64 1, .int .i64 200, .string ⟨#[36, 102]⟩, .bool true, .int .i64 2, .int .i64 2, .string ⟨#[36, 101]⟩, .bool true, .int .i64 1, .int .i64 200, .string ⟨#[36, 100]⟩, .bool false, .int .i64 1, .int .i64 200, .string ⟨#[36, 97]⟩, .bool true, .int .i64 1, .int .i64 200, .string ⟨#[36, 112]⟩, .bool true, .int .i64 1, .int .i64 200, .string ⟨#[36, 123]⟩, .bool false, .int .i64 0, .int .i64 0, .string ⟨#[36, 125]⟩, .bool false, .int .i64 0, .int .i64 0]
noncomputable def ZpX (os : Os) : Array Obj := (World.holding Tryz.prog os ⟨#[], #[], []⟩).heap.modify 0 (Zpf ZoW)
noncomputable def ZdW (os : Os) : World := { World.holding Tryz.prog os ⟨#[], #[], []⟩ with heap := ZpX os }
theorem ZpW (os : Os) : laidMet Tryz.prog Rows.dependRemovesUptoRow.laid ((ZdW os).forCall (fun _ _ => 0) ⟨#[], #[.agg #[.slice none 0 0, .slice none 0 0, .slice none 0 0], .slice none 0 0], []⟩).memory :=
 laidMet_of_run' 80 (by kernel_rfl) (by kernel_rfl)
theorem reads (os : Os) {H : Type} (enc : TypeId × Value → H) : ∃ places, DataW.whole enc Tryz.prog ((ZdW os).forCall (fun _ _ => 0) ⟨#[], #[.agg #[.slice none 0 0, .slice none 0 0, .slice none 0 0], .slice none 0 0], []⟩).memory Tryz.f3.params.toList Rows.dependRemovesSpec.vars false (#[.agg #[.slice none 0 0, .slice none 0 0, .slice none 0 0], .slice none 0 0] : Array Value).toList 8 = some ([.agg [.nil, .nil, .nil], .nil], [], places) :=
 ⟨[], by kernel_rfl⟩
set_option maxRecDepth 100000 in
theorem lifted (os : Os) (started : os.Started) (H : Type) (enc : TypeId × Value → H) (F : Stop.Interp) :
 ReturnsInHanded {} Tryz.checked os 3 .any ((Rows.OpenSpec.upto Rows.dependRemovesSpec).preRow enc Tryz.prog Tryz.f3 Rows.dependRemovesUptoRow.domain false Rows.dependRemovesUptoRow.laid) (((Rows.OpenSpec.upto Rows.dependRemovesSpec).at F).post enc Tryz.prog Tryz.f3 false true false false) := by
 obtain ⟨places, hx⟩ := reads os enc
 refine returnsInHanded_of_row (C := Tryz.checked) (s := Rows.OpenSpec.upto Rows.dependRemovesSpec) own started (by kernel_rfl) Tryz.func3
  (witness_row_at (enc := enc) (C := Tryz.checked) false (ZdW os) #[.agg #[.slice none 0 0, .slice none 0 0, .slice none 0 0], .slice none 0 0] rfl (by kernel_rfl) (by kernel_rfl) (by kernel_rfl)
   (OpenSpec.preRow_of_cond 8 hx (by kernel_rfl) (fun k hk => by injection hk with hk; subst hk; rfl) (by kernel_rfl) (ZpW os))) ?_
 intro W base args ds gs before hval hW _ hk hz hL _ _
 exact Zqj H enc W base args ds gs before hval hW hz hL (of_decide_eq_true (hk _ rfl))
set_option maxHeartbeats 4000000 in
theorem facts : joinedFacts Tryz.pinned.checked.prog 3 Tryz.f3 (Rows.OpenSpec.upto Rows.dependRemovesSpec).bare Rows.dependRemovesUptoRow = true := by
 unfold joinedFacts
 simp only [Bool.and_eq_true]
 repeat' apply And.intro
 all_goals (as_aux_lemma => kernel_rfl)
theorem said : Rows.DependRemovesUptoSaid :=
 OpenClaim.holds_of_cond 3 Tryz.f3 rfl rfl rfl rfl rfl rfl rfl ⟨rfl, rfl, rfl, rfl, rfl⟩ rfl rfl rfl rfl rfl (by as_aux_lemma => kernel_rfl) Tryz.func3 facts
  (of_decide_eq_true (by as_aux_lemma => kernel_rfl)) (by unfold Func.isWrapper; first | (rw [if_pos (by decide +kernel)]; kernel_rfl) | (rw [if_neg (by decide +kernel)]; exact ⟨rfl, rfl⟩))
  (fun os started H enc _ F => by rw [OpenClaim.pre_eq_preRow]; exact lifted os started H enc F)
theorem plain (f : FuncId) (fn : Func) (hf : Tryz.pinned.checked.prog.funcNamed "apodixis/apodixislaw31.DependRemoves" = some f) (hfn : Tryz.pinned.checked.prog.funcs[f]? = some fn) :
 true = Tryz.pinned.checked.prog.looks [] ∧ ∀ (j : Nat) t, fn.params[j]? = some t → Tryz.pinned.checked.prog.wantsStandIn t = false := by
 obtain rfl : f = 3 := Option.some.inj ((show Tryz.prog.funcNamed "apodixis/apodixislaw31.DependRemoves" = some 3 by kernel_rfl).symm.trans hf) |>.symm
 obtain rfl : fn = Tryz.f3 := (Option.some.inj (Tryz.func3.symm.trans hfn)).symm
 refine ⟨by kernel_rfl, fun j t ht => ?_⟩
 rw [Tryz.params3] at ht
 have ht2 : t = 25 ∨ t = 26 := by simpa using Array.mem_of_getElem? ht
 rcases ht2 with rfl | rfl
 · exact (show Tryz.prog.wantsStandIn 25 = false by kernel_rfl)
 · exact (show Tryz.prog.wantsStandIn 26 = false by kernel_rfl)
theorem card : Rows.DependRemovesUptoCardSaid :=
 Claim7.holds_tied_plain_at .later [] _ _ _ _ said (fun _ h => by cases h) (by as_aux_lemma => kernel_rfl) (fun _ h => by cases h) dependRemovesUpto_row_tie rfl ⟨rfl, rfl⟩ (by as_aux_lemma => kernel_rfl) rfl plain (by as_aux_lemma => kernel_rfl)
end Go.Proofs.YtapelgeodldlcaaGreatDoor.dependRemoves
