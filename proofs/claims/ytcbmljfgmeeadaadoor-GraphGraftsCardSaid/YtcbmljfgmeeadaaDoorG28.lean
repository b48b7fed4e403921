/-
  CONTRACT: GraphGrafts.
-/
import Derived.Test.YtcbmljfgmeeadaaDoorG18
import Derived.Test.YtcbmljfgmeeadaaDoorG22
import Derived.Test.YtcbmljfgmeeadaaDoorLawN
import Derived.Test.YtcbmljfgmeeadaaDoorKpt
namespace Go.Proofs.YtcbmljfgmeeadaaDoor
open Go.RowKit Go.Shelf

attribute [local go_sem] Oper.semAt_some

theorem ContainsStr_c (xs : List ByteArray) (v : Value) (x : ByteArray) (w : World) (hv : IsStrs All w v xs) :
    Calls Tryd.prog 16 #[v, .string x] w fun e w' => e = .returned (.bool (Lib.containsS xs x)) ∧ w = w' := by
  obtain ⟨a, c, rfl, hl, h⟩ := hv
  rcases h with ⟨rfl, _⟩ | ⟨b, off, rfl, _, _, hc⟩
  · refine (Tryd.slices_Contains_string_empty a c x w).mono ?_
    rintro e w' ⟨rfl, rfl⟩
    exact ⟨rfl, rfl⟩
  · refine (Tryd.slices_Contains_string b off xs.length c xs x w (Nat.le_refl _) (by omega) fun j hj => ?_).mono ?_
    · rw [hc j hj]; simp [List.getD, hj]
    · rintro e w' ⟨rfl, rfl⟩
      exact ⟨ret_bool (by rw [List.take_length]), rfl⟩

theorem Tab.kept {A : World} (h : Tab A) : Kept (fun W => Tab W) A := fun _ hk => h.keep hk

/-- What lies through GraphGrafts: the two proofs, boxed. -/
def GG (w : World) (va vb : Value) (ss ts : List Stp) (W : World) : Prop :=
  IsRow W w.heap.size 24 [va] ∧ IsRow W (w.heap.size + 1) 24 [vb] ∧ IsProof All W (.agg #[va]) ss ∧ IsProof All W (.agg #[vb]) ts ∧ Keeps All w W ∧ Tab W

theorem gg_start (ss ts : List Stp) (va vb : Value) (w : World) (h1 : IsSteps All w va ss) (h2 : IsSteps All w vb ts) (htab : Tab w) :
    Kept (GG w va vb ss ts) ((w.alloc (.cells #[va] 24)).alloc (.cells #[vb] 24)) := by
  have hk : Keeps All w ((w.alloc (.cells #[va] 24)).alloc (.cells #[vb] 24)) := ((Keeps.refl _ _).alloc _).alloc _
  intro B hB
  exact ⟨((IsRow.new _ _ _).alloc _).keep hB trivial, (show IsRow _ (w.heap.size + 1) 24 [vb] from IsRow.newAt (by simp)).keep hB trivial, ⟨_, rfl, h1.keep (hk.trans hB) fun _ _ h => h⟩, ⟨_, rfl, h2.keep (hk.trans hB) fun _ _ h => h⟩, hk.trans hB, htab.keep (hk.trans hB)⟩

theorem few_len {ss : List Stp} {n : Int} (h : fewM ss n = true) : (ss.length : Int) ≤ n := by
  simp only [fewM, Bool.and_eq_true, decide_eq_true_eq] at h
  exact h.1

theorem GraphGrafts_many (ss ts : List Stp) (va vb : Value) (x : Nat) (w : World) (h1 : IsSteps All w va ss) (h2 : IsSteps All w vb ts) (htab : Tab w) (hf : fewM ss 60 = false ∨ fewM ts 60 = false ∨ ss = []) :
    Calls Tryd.prog 4 #[.agg #[va], .agg #[vb], .int .u8 (x : Int)] w fun e w' => e = .returned (.bool true) ∧ Keeps All w w' := by
  have m := gg_start ss ts va vb w h1 h2 htab
  obtain ⟨a, c, rfl⟩ := h1.form
  obtain ⟨a2, c2, rfl⟩ := h2.form
  obtain ⟨p1, p2, _⟩ := m.now
  clear h1 h2 htab
  cases f1 : fewM ss 60 with
  | false =>
    have hfew := Few_c ss 60 _ _ m.now.2.2.1
    rw [f1] at hfew
    clear f1 hf p1 p2
    go_enter Tryd.func4, Tryd.ntmps4
    go_wp2_with (go_at_call 6; refine Hid.out ?_)
    refine hid ?_
    refine hfew.mono ?_
    clear hfew
    rintro e w1 ⟨rfl, hk1⟩
    have m1 := m.on hk1
    have haw := awake_c w1 m1.now.2.2.2.2.2
    go_wp2_with (go_at_call 7; refine Hid.out ?_)
    refine hid ?_
    refine haw.mono ?_
    rintro e w2 ⟨rfl, hk2⟩
    go_wp2
    go_ret
    exact ⟨rfl, m1.now.2.2.2.2.1.trans hk2⟩
  | true =>
    have hl := few_len f1
    have hfew := Few_c ss 60 _ _ m.now.2.2.1
    rw [f1] at hfew
    have hf2 : fewM ts 60 = false ∨ fewM ts 60 = true ∧ ss = [] := by
      rcases hf with h | h | h
      · rw [f1] at h; cases h
      · exact Or.inl h
      · cases fewM ts 60 <;> simp [h]
    clear f1 hf p1 p2
    rcases hf2 with hf2 | ⟨hf2, h0⟩
    · go_enter Tryd.func4, Tryd.ntmps4
      go_wp2_with (go_at_call 6; refine Hid.out ?_)
      refine hid ?_
      refine hfew.mono ?_
      clear hfew
      rintro e w1 ⟨rfl, hk1⟩
      have m1 := m.on hk1
      obtain ⟨p1, p2, _⟩ := m1.now
      obtain ⟨d1, _⟩ := p2.one
      have hfew := Few_c ts 60 _ _ m1.now.2.2.2.1
      rw [hf2] at hfew
      go_wp2_with (go_at_call 6; refine Hid.out ?_)
      refine hid ?_
      refine hfew.mono ?_
      clear hfew
      rintro e w2 ⟨rfl, hk2⟩
      have m2 := m1.on hk2
      have haw := awake_c w2 m2.now.2.2.2.2.2
      go_wp2_with (go_at_call 7; refine Hid.out ?_)
      refine hid ?_
      refine haw.mono ?_
      rintro e w3 ⟨rfl, hk3⟩
      go_wp2
      go_ret
      exact ⟨rfl, m2.now.2.2.2.2.1.trans hk3⟩
    · subst h0
      go_enter Tryd.func4, Tryd.ntmps4
      go_wp2_with (go_at_call 6; refine Hid.out ?_)
      refine hid ?_
      refine hfew.mono ?_
      clear hfew
      rintro e w1 ⟨rfl, hk1⟩
      have m1 := m.on hk1
      obtain ⟨p1, p2, _⟩ := m1.now
      obtain ⟨d1, _⟩ := p2.one
      have hfew := Few_c ts 60 _ _ m1.now.2.2.2.1
      rw [hf2] at hfew
      go_wp2_with (go_at_call 6; refine Hid.out ?_)
      refine hid ?_
      refine hfew.mono ?_
      clear hfew
      rintro e w2 ⟨rfl, hk2⟩
      have m2 := m1.on hk2
      obtain ⟨q1, q2, _⟩ := m2.now
      obtain ⟨d2, _⟩ := q1.one
      have haw := awake_c w2 m2.now.2.2.2.2.2
      go_wp2_with (go_at_call 7; refine Hid.out ?_)
      refine hid ?_
      refine haw.mono ?_
      rintro e w3 ⟨rfl, hk3⟩
      go_wp2
      go_ret
      exact ⟨rfl, m2.now.2.2.2.2.1.trans hk3⟩

end Go.Proofs.YtcbmljfgmeeadaaDoor
