/-
  CONTRACT: awake: the example.
-/
import Derived.Test.YtcbmljfgmeeadaaDoorJC
import Derived.Test.YtcbmljfgmeeadaaDoorG8
import Derived.Test.YtcbmljfgmeeadaaDoorG12
import Derived.Test.YtcbmljfgmeeadaaDoorG14
import Derived.Test.YtcbmljfgmeeadaaDoorG17
namespace Go.Proofs.YtcbmljfgmeeadaaDoor
open Go.RowKit Go.Shelf

theorem share_of_tree {ss ts : List Stp} (h1 : Okay ss) (h2 : Okay ts) (h : treeM ss = treeM ts) : shareM ss = shareM ts := by rw [shareM_tree h1, shareM_tree h2, h]
theorem expand_of_tree {ss ts : List Stp} (h : treeM ss = treeM ts) : expandM ss = expandM ts := by rw [expandM, expandM, h]

/-- The example. -/
def exP : List Stp := [⟨⟨#[97]⟩, []⟩, ⟨⟨#[98]⟩, [0, 0]⟩, ⟨⟨#[98]⟩, [1, 1]⟩]
theorem exP_okay : Okay exP := (formM_zero _).1 (by decide +kernel)
theorem exP_post : (post exP).length = 3 := by decide +kernel
theorem exP_tsize : tsize (treeM exP) = 7 := by decide +kernel

/-- Sharing with the steps themselves as keys. -/
def shareTo' (ss : List Stp) (o : List Nat) : List Stp × List Int := o.foldl (fun st x => (if shStp ss st.2 x ∈ st.1 then st.1 else st.1 ++ [shStp ss st.2 x], st.2.set x ((st.1.idxOf (shStp ss st.2 x) : Nat) : Int))) ([], List.replicate ss.length 0)
theorem shareTo'_eq (ss : List Stp) (o : List Nat) : shareTo ss o = shareTo' ss o := by
  unfold shareTo shareTo'
  congr 1
  funext st x
  simp only [shRound, addM_eq, addAt_eq]
theorem exP_share : shareM exP = exP := by
  unfold shareM
  rw [shareTo'_eq]
  decide +kernel


theorem step_c (lab : ByteArray) (a : Option Addr) (n c : Nat) (w : World) :
    Calls Tryd.prog 28 #[.string lab, .slice a n c] w fun e w' => e = .returned (.agg #[.string lab, .slice a n c]) ∧ Keeps All w w' := by
  go_enter Tryd.func28, Tryd.ntmps28
  go_wp2
  refine bodyPost_ret (v := .agg #[.string lab, .slice a n c]) (by simp [results, Tryd.results28, go_sem]) rfl ⟨rfl, ?_⟩
  exact (Keeps.refl _ _).alloc _

theorem awake_c (w : World) (htab : Tab w) : Calls Tryd.prog 7 #[] w fun e w' => e = .returned (.bool true) ∧ Keeps All w w' := by
  have Ht := hid htab
  clear htab
  go_enter Tryd.func7, Tryd.ntmps7
  go_wp2_with (go_at_call 28; refine Hid.out ?_)
  refine hid ?_
  refine (step_c _ _ _ _ _).mono ?_
  rintro e w1 ⟨rfl, hk1⟩
  go_wp2_with (go_at_call 28; refine Hid.out ?_)
  refine hid ?_
  refine (step_c _ _ _ _ _).mono ?_
  rintro e w2 ⟨rfl, hk2⟩
  have r1 : IsRow w2 w1.heap.size 3 (ints [0, 0]) := IsRow.keep (S := All) (IsRow.newAt rfl) hk2 trivial
  have hk02 : Keeps All w w2 := hk1.trans (((Keeps.refl All _).alloc _).trans hk2)
  have i1 := r1.isInts All trivial (by simp) (fun y hy => by simp at hy; omega) 2
  clear hk1 hk2 r1
  go_wp2_with (go_at_call 28; refine Hid.out ?_)
  refine hid ?_
  refine (step_c _ _ _ _ _).mono ?_
  rintro e w3 ⟨rfl, hk3⟩
  have r2 : IsRow w3 w2.heap.size 3 (ints [1, 1]) := IsRow.keep (S := All) (IsRow.newAt rfl) hk3 trivial
  have hk23 : Keeps All w2 w3 := ((Keeps.refl All _).alloc _).trans hk3
  have i2 := r2.isInts All trivial (by simp) (fun y hy => by simp at hy; omega) 2
  have i1' := i1.keep hk23 fun _ _ h => h
  have hk03 := hk02.trans hk23
  clear hk23 hk3 r2 i1 hk02
  go_wp2_with (go_at_call 10; refine Hid.out ?_)
  refine hid ?_
  obtain ⟨W4, hW4⟩ : ∃ W4, ((w3.alloc (.cells #[.string ⟨#[97]⟩, .slice none 0 0, .string ⟨#[98]⟩, .slice (some ⟨w1.heap.size, 0, none⟩) 2 2, .string ⟨#[98]⟩, .slice (some ⟨w2.heap.size, 0, none⟩) 2 2] 45)).alloc (.cells #[.slice (some ⟨w3.heap.size, 0, none⟩) 3 3] 24)) = W4 := ⟨_, rfl⟩
  have hk34 : Keeps All w3 W4 := by rw [← hW4]; exact ((Keeps.refl _ _).alloc _).alloc _
  have r4 : IsRow W4 w3.heap.size 45 [.string ⟨#[97]⟩, .slice none 0 0, .string ⟨#[98]⟩, .slice (some ⟨w1.heap.size, 0, none⟩) 2 2, .string ⟨#[98]⟩, .slice (some ⟨w2.heap.size, 0, none⟩) 2 2] := by rw [← hW4]; exact (IsRow.new _ _ _).alloc _
  have rb4 : IsRow W4 (w3.heap.size + 1) 24 [.slice (some ⟨w3.heap.size, 0, none⟩) 3 3] := by rw [← hW4]; exact IsRow.newAt (by simp)
  have hp4 : IsProof All W4 (.agg #[.slice (some ⟨w3.heap.size, 0, none⟩) 3 3]) exP := by
    refine ⟨_, rfl, _, _, rfl, by decide, Or.inr ⟨w3.heap.size, 0, rfl, r4.lt, trivial, fun i hi => ?_⟩⟩
    have hi3 : i < 3 := hi
    rcases i with _ | _ | _ | i
    · exact ⟨r4.cell 0, _, r4.cell 1, none, 0, rfl, Nat.zero_le _, fun _ h => (by cases h), Or.inl ⟨rfl, trivial⟩⟩
    · exact ⟨r4.cell 2, _, r4.cell 3, i1'.keep hk34 fun _ _ h => h⟩
    · exact ⟨r4.cell 4, _, r4.cell 5, i2.keep hk34 fun _ _ h => h⟩
    · omega
  have hk04 := hk03.trans hk34
  rw [hW4]
  clear hW4 i1' i2 hk34 hk03 r4
  refine (Size_good exP _ W4 hp4 exP_okay).mono ?_
  rintro e w5 ⟨rfl, hk5⟩
  rw [sizesM_last exP_okay, exP_post, exP_tsize]
  have rb5 := rb4.keep hk5 trivial
  have hp5 := hp4.keep hk5 fun _ _ h => h
  have hk05 := hk04.trans hk5
  obtain ⟨c1, _⟩ := rb5.one
  clear rb4 hp4 hk5 hk04
  go_wp2_with (go_at_call 13; refine Hid.out ?_)
  refine hid ?_
  refine (Expand_good exP _ 100 w5 hp5 exP_okay (by omega) (by omega) (by rw [exP_tsize]; decide)).mono ?_
  rintro e w6 ⟨vr, rfl, ⟨u6, rfl, hs6⟩, hk6⟩
  have rb6 := rb5.keep hk6 trivial
  have hp6 := hp5.keep hk6 fun _ _ h => h
  have hk06 := hk05.trans hk6
  obtain ⟨okx, trx⟩ := expandM_ok exP_okay (by rw [exP_tsize]; decide)
  have hxl : (expandM exP).length = 7 := by rw [expandM_length, exP_tsize]
  obtain ⟨a6, c6, rfl⟩ := hs6.form
  rw [hxl] at hs6
  simp only [hxl]
  clear rb5 hp5 hk6 hk05 c1
  go_wp2_with (go_at_call 9; refine Hid.out ?_)
  refine hid ?_
  have hk7 : Keeps All w6 (w6.alloc (.cells #[.slice a6 7 c6] 24)) := (Keeps.refl _ _).alloc _
  have r7 : IsRow (w6.alloc (.cells #[.slice a6 7 c6] 24)) w6.heap.size 24 [.slice a6 7 c6] := IsRow.new _ _ _
  refine (Share_good (expandM exP) _ _ ⟨_, rfl, hs6.keep hk7 fun _ _ h => h⟩ okx (Ht.out.keep (hk06.trans hk7))).mono ?_
  rintro e w8 ⟨vr, rfl, ⟨u8, rfl, hs8⟩, hk8⟩
  have hsh : shareM (expandM exP) = exP := by rw [share_of_tree okx exP_okay trx, exP_share]
  rw [hsh] at hs8
  have rb8 := (rb6.keep hk7 trivial).keep hk8 trivial
  have r8 := r7.keep hk8 trivial
  have hp8 := (hp6.keep hk7 fun _ _ h => h).keep hk8 fun _ _ h => h
  have hk08 := (hk06.trans hk7).trans hk8
  obtain ⟨a8, c8, rfl⟩ := hs8.form
  have h3 : exP.length = 3 := rfl
  rw [h3] at hs8
  simp only [h3]
  obtain ⟨d1, _⟩ := rb8.one
  obtain ⟨d2, _⟩ := r8.one
  have l8 := rb8.lt
  have l9 := r8.lt
  clear rb6 hp6 hk7 hk8 r7 hk06 h3
  go_wp2_with (go_at_call 18; refine Hid.out ?_)
  refine hid ?_
  have hk9 : Keeps All w8 (w8.alloc (.cells #[.slice a8 3 c8] 24)) := (Keeps.refl _ _).alloc _
  refine (rEqual_c exP exP _ _ _ ⟨_, rfl, hs8.keep hk9 fun _ _ h => h⟩ (hp8.keep hk9 fun _ _ h => h)).mono ?_
  rintro e w10 ⟨rfl, hk10⟩
  simp only [decide_true]
  go_wp2
  go_ret
  exact ⟨rfl, (hk08.trans hk9).trans hk10⟩

end Go.Proofs.YtcbmljfgmeeadaaDoor
