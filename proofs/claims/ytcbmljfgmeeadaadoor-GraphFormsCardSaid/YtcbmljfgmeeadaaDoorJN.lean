/-
  WHAT THE PROGRAM's FUNCTION AND THE REFERENCE's RETURN: the same, for every proof.
  CONTRACT: GraphForms, where it is awake at once.
  CONTRACT: GraphForms, where all is compared.
  CONTRACT: GraphForms, where the first proof is too long; and GraphForms.
-/
import Derived.Test.YtcbmljfgmeeadaaDoorG6
import Derived.Test.YtcbmljfgmeeadaaDoorJF
import Derived.Test.YtcbmljfgmeeadaaDoorJI
import Derived.Test.YtcbmljfgmeeadaaDoorJK
import Derived.Test.YtcbmljfgmeeadaaDoorJL
import Derived.Test.YtcbmljfgmeeadaaDoorJM
import Derived.Test.YtcbmljfgmeeadaaDoorShelfC
namespace Go.Proofs.YtcbmljfgmeeadaaDoor
open Go.RowKit

/-- A list of texts against a list of texts. -/
theorem EqualStr_c (xs : List ByteArray) (v u : Value) (w : World) (hv : IsStrs All w v xs) (hu : IsStrs All w u xs) :
    Calls Tryd.prog 24 #[v, u] w fun e w' => e = .returned (.bool true) ∧ Keeps All w w' := by
  obtain ⟨a, c, rfl, hl, h⟩ := hv
  obtain ⟨a2, c2, rfl, _, h2⟩ := hu
  by_cases h0 : xs.length = 0
  · rw [h0]
    refine (Tryd.slices_Equal_string_empty a a2 c 0 c2 w (by omega)).mono ?_
    rintro e w' ⟨rfl, rfl⟩
    exact ⟨rfl, Keeps.refl _ _⟩
  · rcases h with ⟨rfl, _⟩ | ⟨b, off, rfl, _, _, hc⟩
    · simp at h0
    rcases h2 with ⟨rfl, _⟩ | ⟨b2, off2, rfl, _, _, hc2⟩
    · simp at h0
    refine (Tryd.slices_Equal_string b off xs.length c b2 off2 xs.length c2 xs xs w (Nat.le_refl _) (Nat.le_refl _) (by omega) (by omega) (fun j hj => ?_) (fun j hj => ?_)).mono ?_
    · rw [hc j hj]; simp [List.getD, hj]
    · rw [hc2 j hj]; simp [List.getD, hj]
    · rintro e w' ⟨rfl, q, rfl⟩
      exact ⟨by simp, rfl, rfl, rfl, Nat.le_refl _, fun _ _ _ => rfl⟩

theorem RetP.of_nil {er : Int} {w w' : World} {e : Ending} (h : e = .returned (.tuple #[.agg #[.slice none 0 0], .int .i64 er]) ∧ Keeps All w w') : RetP [] er w e w' :=
  ⟨none, 0, h.1, steps_nil_any _ _, h.2⟩
theorem RetP.of_proof {out : List Stp} {er : Int} {w w' : World} {e : Ending} (h : ∃ vr, e = .returned (.tuple #[vr, .int .i64 er]) ∧ IsProof All w' vr out ∧ Keeps All w w') : RetP out er w e w' := by
  obtain ⟨vr, he, ⟨u, rfl, hs⟩, hk⟩ := h
  obtain ⟨a, c, rfl⟩ := hs.form
  exact ⟨a, c, he, hs, hk⟩

theorem Ordered_two (ss : List Stp) : ∃ out er, ∀ v w, IsProof All w v ss →
    Calls Tryd.prog 8 #[v] w (RetP out er w) ∧ Calls Tryd.prog 17 #[v] w (RetP out er w) := by
  by_cases hf : formM ss = 0
  · have hok := (formM_zero ss).1 hf
    exact ⟨orderedM ss, 0, fun v w hv => ⟨(Ordered_good ss v w hv hok).mono fun _ _ h => .of_proof h, rOrdered_good ss v w hv hok⟩⟩
  · exact ⟨[], formM ss, fun v w hv => ⟨(Ordered_bad ss v w hv hf).mono fun _ _ h => .of_nil h, rOrdered_bad ss v w hv hf⟩⟩

theorem Share_two (ss : List Stp) : ∃ out er, ∀ v w, IsProof All w v ss → Tab w →
    Calls Tryd.prog 9 #[v] w (RetP out er w) ∧ Calls Tryd.prog 19 #[v] w (RetP out er w) := by
  by_cases hf : formM ss = 0
  · have hok := (formM_zero ss).1 hf
    exact ⟨shareM ss, 0, fun v w hv ht => ⟨(Share_good ss v w hv hok ht).mono fun _ _ h => .of_proof h, rShare_good ss v w hv hok⟩⟩
  · exact ⟨[], formM ss, fun v w hv _ => ⟨(Share_bad ss v w hv hf).mono fun _ _ h => .of_nil h, rShare_bad ss v w hv hf⟩⟩

theorem Expand_two (ss : List Stp) (most : Int) (hm : most ≤ 9223372036854775807) : ∃ out er, ∀ v w, IsProof All w v ss →
    Calls Tryd.prog 13 #[v, .int .i64 most] w (RetP out er w) ∧ Calls Tryd.prog 20 #[v, .int .i64 most] w (RetP out er w) := by
  by_cases hf : formM ss = 0
  · have hok := (formM_zero ss).1 hf
    by_cases h1 : most < 1
    · exact ⟨[], 1, fun v w hv => ⟨(Expand_arg ss v most w hv hok h1).mono fun _ _ h => .of_nil h, rExpand_arg ss v most w hv hok h1⟩⟩
    · by_cases h2 : tsize (treeM ss) ≤ min most 2000
      · exact ⟨expandM ss, 0, fun v w hv => ⟨(Expand_good ss v most w hv hok (by omega) hm h2).mono fun _ _ h => .of_proof h, rExpand_good ss v most w hv hok (by omega) hm h2⟩⟩
      · exact ⟨[], 15, fun v w hv => ⟨(Expand_large ss v most w hv hok (by omega) hm (by omega)).mono fun _ _ h => .of_nil h, rExpand_large ss v most w hv hok (by omega) hm (by omega)⟩⟩
  · exact ⟨[], formM ss, fun v w hv => ⟨(Expand_bad ss v most w hv hf).mono fun _ _ h => .of_nil h, rExpand_bad ss v most w hv hf⟩⟩

theorem Graft_two (ss ts : List Stp) (at_ : Int) (hlen : formM ss = 0 → formM ts = 0 → ss.length + ts.length ≤ 2000) : ∃ out er, ∀ v u w, IsProof All w v ss → IsProof All w u ts → Tab w →
    Calls Tryd.prog 14 #[v, .int .i64 at_, u] w (RetP out er w) ∧ Calls Tryd.prog 21 #[v, .int .i64 at_, u] w (RetP out er w) := by
  by_cases hf : formM ss = 0
  · have hok := (formM_zero ss).1 hf
    by_cases hf2 : formM ts = 0
    · have hok2 := (formM_zero ts).1 hf2
      by_cases hat : at_ < 0 ∨ (ss.length : Int) ≤ at_
      · exact ⟨[], 3, fun v u w hv hu _ => ⟨(Graft_range ss ts v u at_ w hv hu hok hok2 hat).mono fun _ _ h => .of_nil h, rGraft_range ss ts v u at_ w hv hu hok hok2 hat⟩⟩
      · obtain ⟨k, rfl⟩ : ∃ k : Nat, at_ = (k : Int) := ⟨at_.toNat, by omega⟩
        exact ⟨shareM (graftM ss k ts), 0, fun v u w hv hu ht => ⟨(Graft_good ss ts v u k w hv hu hok hok2 (by omega) (hlen hf hf2) ht).mono fun _ _ h => .of_proof h, rGraft_good ss ts v u k w hv hu hok hok2 (by omega) (hlen hf hf2)⟩⟩
    · have e : orM [formM ss, formM ts] = formM ts := by rw [hf, orM_zero, orM_cons _ hf2]
      exact ⟨[], formM ts, fun v u w hv hu _ => ⟨(Graft_bad ss ts v u at_ w hv hu (by rw [e]; exact hf2)).mono fun _ _ h => .of_nil (by rw [← e]; exact h), rGraft_bad2 ss ts v u at_ w hv hu hok hf2⟩⟩
  · have e : orM [formM ss, formM ts] = formM ss := orM_cons _ hf
    exact ⟨[], formM ss, fun v u w hv hu _ => ⟨(Graft_bad ss ts v u at_ w hv hu (by rw [e]; exact hf)).mono fun _ _ h => .of_nil (by rw [← e]; exact h), rGraft_bad1 ss ts v u at_ w hv hu hf⟩⟩

/-- What Size returns. -/
def RetS (n t er : Int) (w : World) (e : Ending) (w' : World) : Prop := e = .returned (.tuple #[.int .i64 n, .int .i64 t, .int .i64 er]) ∧ Keeps All w w'
theorem Size_two (ss : List Stp) : ∃ n t er, ∀ v w, IsProof All w v ss →
    Calls Tryd.prog 10 #[v] w (RetS n t er w) ∧ Calls Tryd.prog 22 #[v] w (RetS n t er w) := by
  by_cases hf : formM ss = 0
  · have hok := (formM_zero ss).1 hf
    exact ⟨_, _, 0, fun v w hv => ⟨Size_good ss v w hv hok, rSize_good ss v w hv hok⟩⟩
  · exact ⟨0, 0, formM ss, fun v w hv => ⟨Size_bad ss v w hv hf, rSize_bad ss v w hv hf⟩⟩

/-- What Names returns. -/
def RetN (xs : List ByteArray) (w : World) (e : Ending) (w' : World) : Prop := ∃ v, e = .returned v ∧ IsStrs All w' v xs ∧ Keeps All w w'
theorem Names_two (ss : List Stp) : ∃ xs, ∀ v w, IsProof All w v ss →
    Calls Tryd.prog 15 #[v] w (RetN xs w) ∧ Calls Tryd.prog 25 #[v] w (RetN xs w) := by
  by_cases hf : formM ss = 0
  · have hok := (formM_zero ss).1 hf
    refine ⟨namesM ss, fun v w hv => ⟨(Names_good ss v w hv hok).mono ?_, (rNames_good ss v w hv hok).mono ?_⟩⟩
    · rintro e w' ⟨v', rfl, h, hk⟩
      exact ⟨v', rfl, h.sub fun _ _ _ => trivial, hk⟩
    · rintro e w' ⟨g, c, rfl, h, hk⟩
      rw [names_ref hok] at h ⊢
      exact ⟨_, rfl, h, hk⟩
  · have hn : ∀ W, IsStrs All W (.slice none 0 0) [] := fun W => ⟨none, 0, rfl, by simp, Or.inl ⟨rfl, trivial⟩⟩
    exact ⟨[], fun v w hv => ⟨(Names_bad ss v w hv hf).mono fun e w' h => ⟨_, h.1, hn _, h.2⟩, (rNames_bad ss v w hv hf).mono fun e w' h => ⟨_, h.1, hn _, h.2⟩⟩⟩

end Go.Proofs.YtcbmljfgmeeadaaDoor

namespace Go.Proofs.YtcbmljfgmeeadaaDoor
open Go.RowKit

attribute [local go_sem] Oper.semAt_some

set_option maxRecDepth 100000 in
set_option maxHeartbeats 4000000 in
theorem GraphForms_m1 (ss ts : List Stp) (va vb : Value) (most at_ : Int) (w : World) (h1 : IsSteps All w va ss) (h2 : IsSteps All w vb ts) (htab : Tab w) (f1 : fewM ss 150 = false) (hs : ss.length ≤ 2000) :
    Calls Tryd.prog 5 #[.agg #[va], .agg #[vb], .int .i64 most, .int .i64 at_] w fun e w' => e = .returned (.bool true) ∧ Keeps All w w' := by
  have m := gg_start ss ts va vb w h1 h2 htab
  obtain ⟨a, c, rfl⟩ := h1.form
  obtain ⟨a2, c2, rfl⟩ := h2.form
  have hl1 : ss.length ≤ 140737488351232 := by obtain ⟨_, _, _, hl, _⟩ := h1; exact hl
  obtain ⟨p1, p2, _⟩ := m.now
  clear h1 h2 htab
  have hd2000 : decide ((ss.length : Int) ≤ 2000) = true := by simp; omega
  have hfew1 := Few_c ss 150 _ _ m.now.2.2.1
  rw [f1] at hfew1
  clear f1 p1 p2
  · go_enter Tryd.func5, Tryd.ntmps5
    go_wp2_with (go_at_call 6; refine Hid.out ?_)
    refine hid ?_
    refine hfew1.mono ?_
    clear hfew1
    rintro e w1 ⟨rfl, hk⟩
    replace m := m.on hk
    clear hk
    obtain ⟨q1, r1, _⟩ := m.now
    obtain ⟨d1, _⟩ := q1.one
    obtain ⟨g1, _⟩ := r1.one
    clear q1 r1
    have haw := awake_c _ m.now.2.2.2.2.2
    go_wp2_with (go_at_call 7; refine Hid.out ?_)
    refine hid ?_
    refine haw.mono ?_
    rintro e w9 ⟨rfl, hk⟩
    replace m := m.on hk
    clear hk
    go_wp2
    go_ret
    exact ⟨rfl, m.now.2.2.2.2.1⟩

set_option maxRecDepth 100000 in
set_option maxHeartbeats 4000000 in
theorem GraphForms_m2 (ss ts : List Stp) (va vb : Value) (most at_ : Int) (w : World) (h1 : IsSteps All w va ss) (h2 : IsSteps All w vb ts) (htab : Tab w) (f1 : fewM ss 150 = true) (f2 : fewM ts 150 = false) :
    Calls Tryd.prog 5 #[.agg #[va], .agg #[vb], .int .i64 most, .int .i64 at_] w fun e w' => e = .returned (.bool true) ∧ Keeps All w w' := by
  have m := gg_start ss ts va vb w h1 h2 htab
  obtain ⟨a, c, rfl⟩ := h1.form
  obtain ⟨a2, c2, rfl⟩ := h2.form
  have hl1 : ss.length ≤ 140737488351232 := by obtain ⟨_, _, _, hl, _⟩ := h1; exact hl
  obtain ⟨p1, p2, _⟩ := m.now
  clear h1 h2 htab
  have hfew1 := Few_c ss 150 _ _ m.now.2.2.1
  rw [f1] at hfew1
  clear f1 p1 p2
  · go_enter Tryd.func5, Tryd.ntmps5
    go_wp2_with (go_at_call 6; refine Hid.out ?_)
    refine hid ?_
    refine hfew1.mono ?_
    clear hfew1
    rintro e w1 ⟨rfl, hk⟩
    replace m := m.on hk
    clear hk
    obtain ⟨q1, r1, _⟩ := m.now
    obtain ⟨d1, _⟩ := q1.one
    obtain ⟨g1, _⟩ := r1.one
    clear q1 r1
    have hfew2 := Few_c ts 150 _ _ m.now.2.2.2.1
    rw [f2] at hfew2
    clear f2
    go_wp2_with (go_at_call 6; refine Hid.out ?_)
    refine hid ?_
    refine hfew2.mono ?_
    clear hfew2
    rintro e w2 ⟨rfl, hk⟩
    replace m := m.on hk
    clear hk
    obtain ⟨q2, r2, _⟩ := m.now
    obtain ⟨d2, _⟩ := q2.one
    obtain ⟨g2, _⟩ := r2.one
    clear q2 r2
    have haw := awake_c _ m.now.2.2.2.2.2
    go_wp2_with (go_at_call 7; refine Hid.out ?_)
    refine hid ?_
    refine haw.mono ?_
    rintro e w9 ⟨rfl, hk⟩
    replace m := m.on hk
    clear hk
    go_wp2
    go_ret
    exact ⟨rfl, m.now.2.2.2.2.1⟩

set_option maxRecDepth 100000 in
set_option maxHeartbeats 4000000 in
theorem GraphForms_m3 (ss ts : List Stp) (va vb : Value) (most at_ : Int) (w : World) (h1 : IsSteps All w va ss) (h2 : IsSteps All w vb ts) (htab : Tab w) (f1 : fewM ss 150 = false) (hs : 2000 < ss.length) (f2 : fewM ts 150 = false) :
    Calls Tryd.prog 5 #[.agg #[va], .agg #[vb], .int .i64 most, .int .i64 at_] w fun e w' => e = .returned (.bool true) ∧ Keeps All w w' := by
  have m := gg_start ss ts va vb w h1 h2 htab
  obtain ⟨a, c, rfl⟩ := h1.form
  obtain ⟨a2, c2, rfl⟩ := h2.form
  have hl1 : ss.length ≤ 140737488351232 := by obtain ⟨_, _, _, hl, _⟩ := h1; exact hl
  obtain ⟨p1, p2, _⟩ := m.now
  clear h1 h2 htab
  have hd2000 : decide ((ss.length : Int) ≤ 2000) = false := by simp; omega
  have hfew1 := Few_c ss 150 _ _ m.now.2.2.1
  rw [f1] at hfew1
  clear f1 p1 p2
  · go_enter Tryd.func5, Tryd.ntmps5
    go_wp2_with (go_at_call 6; refine Hid.out ?_)
    refine hid ?_
    refine hfew1.mono ?_
    clear hfew1
    rintro e w1 ⟨rfl, hk⟩
    replace m := m.on hk
    clear hk
    obtain ⟨q1, r1, _⟩ := m.now
    obtain ⟨d1, _⟩ := q1.one
    obtain ⟨g1, _⟩ := r1.one
    clear q1 r1
    have hfew2 := Few_c ts 150 _ _ m.now.2.2.2.1
    rw [f2] at hfew2
    clear f2
    go_wp2_with (go_at_call 6; refine Hid.out ?_)
    refine hid ?_
    refine hfew2.mono ?_
    clear hfew2
    rintro e w2 ⟨rfl, hk⟩
    replace m := m.on hk
    clear hk
    obtain ⟨q2, r2, _⟩ := m.now
    obtain ⟨d2, _⟩ := q2.one
    obtain ⟨g2, _⟩ := r2.one
    clear q2 r2
    have haw := awake_c _ m.now.2.2.2.2.2
    go_wp2_with (go_at_call 7; refine Hid.out ?_)
    refine hid ?_
    refine haw.mono ?_
    rintro e w9 ⟨rfl, hk⟩
    replace m := m.on hk
    clear hk
    go_wp2
    go_ret
    exact ⟨rfl, m.now.2.2.2.2.1⟩

set_option maxRecDepth 100000 in
set_option maxHeartbeats 4000000 in
theorem GraphForms_m4 (ss ts : List Stp) (va vb : Value) (most at_ : Int) (w : World) (h1 : IsSteps All w va ss) (h2 : IsSteps All w vb ts) (htab : Tab w) (f1 : fewM ss 150 = false) (hs : 6000 < ss.length) (f2 : fewM ts 150 = true) :
    Calls Tryd.prog 5 #[.agg #[va], .agg #[vb], .int .i64 most, .int .i64 at_] w fun e w' => e = .returned (.bool true) ∧ Keeps All w w' := by
  have m := gg_start ss ts va vb w h1 h2 htab
  obtain ⟨a, c, rfl⟩ := h1.form
  obtain ⟨a2, c2, rfl⟩ := h2.form
  have hl1 : ss.length ≤ 140737488351232 := by obtain ⟨_, _, _, hl, _⟩ := h1; exact hl
  obtain ⟨p1, p2, _⟩ := m.now
  clear h1 h2 htab
  have hd2000 : decide ((ss.length : Int) ≤ 2000) = false := by simp; omega
  have hg6000 : decide (6000 < (ss.length : Int)) = true := by simp; omega
  have hfew1 := Few_c ss 150 _ _ m.now.2.2.1
  rw [f1] at hfew1
  clear f1 p1 p2
  · go_enter Tryd.func5, Tryd.ntmps5
    go_wp2_with (go_at_call 6; refine Hid.out ?_)
    refine hid ?_
    refine hfew1.mono ?_
    clear hfew1
    rintro e w1 ⟨rfl, hk⟩
    replace m := m.on hk
    clear hk
    obtain ⟨q1, r1, _⟩ := m.now
    obtain ⟨d1, _⟩ := q1.one
    obtain ⟨g1, _⟩ := r1.one
    clear q1 r1
    have hfew2 := Few_c ts 150 _ _ m.now.2.2.2.1
    rw [f2] at hfew2
    clear f2
    go_wp2_with (go_at_call 6; refine Hid.out ?_)
    refine hid ?_
    refine hfew2.mono ?_
    clear hfew2
    rintro e w2 ⟨rfl, hk⟩
    replace m := m.on hk
    clear hk
    obtain ⟨q2, r2, _⟩ := m.now
    obtain ⟨d2, _⟩ := q2.one
    obtain ⟨g2, _⟩ := r2.one
    clear q2 r2
    have haw := awake_c _ m.now.2.2.2.2.2
    go_wp2_with (go_at_call 7; refine Hid.out ?_)
    refine hid ?_
    refine haw.mono ?_
    rintro e w9 ⟨rfl, hk⟩
    replace m := m.on hk
    clear hk
    go_wp2
    go_ret
    exact ⟨rfl, m.now.2.2.2.2.1⟩

end Go.Proofs.YtcbmljfgmeeadaaDoor

namespace Go.Proofs.YtcbmljfgmeeadaaDoor
open Go.RowKit

attribute [local go_sem] Oper.semAt_some

/-- What lies through GraphForms: the two proofs, boxed, and the two results' boxes. -/
def Fm (w W : World) (va vb : Value) (na nb : Nat) (x y : Value) : Prop :=
  IsRow W w.heap.size 24 [va] ∧ IsRow W (w.heap.size + 1) 24 [vb] ∧ Keeps All w W ∧ w.heap.size + 2 ≤ na ∧ na < nb ∧ IsRow W na 24 [x] ∧ IsRow W nb 24 [y]
theorem Fm.on {w W W' : World} {va vb : Value} {na nb : Nat} {x y : Value} (h : Fm w W va vb na nb x y) (hk : Keeps All W W') : Fm w W' va vb na nb x y :=
  ⟨h.1.keep hk trivial, h.2.1.keep hk trivial, h.2.2.1.trans hk, h.2.2.2.1, h.2.2.2.2.1, h.2.2.2.2.2.1.keep hk trivial, h.2.2.2.2.2.2.keep hk trivial⟩
theorem Fm.seta {w W : World} {va vb : Value} {na nb : Nat} {x y : Value} (h : Fm w W va vb na nb x y) (z : Value) : Fm w (W.setCell ⟨na, 0, none⟩ z) va vb na nb z y := by
  obtain ⟨h1, h2, h3, h4, h5, h6, h7⟩ := h
  exact ⟨h1.other (by omega) _ _, h2.other (by omega) _ _, h3.setCell (fun (h : na < _) => absurd h (by omega)) _, h4, h5, h6.set 0 z, h7.other (by omega) _ _⟩
theorem Fm.setb {w W : World} {va vb : Value} {na nb : Nat} {x y : Value} (h : Fm w W va vb na nb x y) (z : Value) : Fm w (W.setCell ⟨nb, 0, none⟩ z) va vb na nb x z := by
  obtain ⟨h1, h2, h3, h4, h5, h6, h7⟩ := h
  exact ⟨h1.other (by omega) _ _, h2.other (by omega) _ _, h3.setCell (fun (h : nb < _) => absurd h (by omega)) _, h4, h5, h6.other (by omega) _ _, h7.set 0 z⟩
/-- What a proof's steps hold stays, while a box of a slice is written. -/
theorem IsSteps.put {W : World} {v : Value} {ss : List Stp} {nb : Nat} {p : Option Addr} {q r : Nat} (h : IsSteps All W v ss) (hr : IsRow W nb 24 [.slice p q r]) (z : Value) : IsSteps All (W.setCell ⟨nb, 0, none⟩ z) v ss :=
  (h.off hr).move ((Keeps.refl (fun q => q ≠ nb) _).setCell (fun _ hn => hn rfl) _) fun _ _ h => ⟨h, trivial⟩

/-- The last region: the frame, and what lies. -/
def FmReg (pv qv : Value) (zn zt ze : Int) (sm : Bool) (ns : List ByteArray) (T : Array Value) (W0 : World) (b : Nat → Bool) (a' : Act) (w' : World) : Prop :=
  ∃ (v1 v2 : Value), a' = Act.mk (sIs T [(b 0, 132, .int .i64 zn), (b 1, 133, .int .i64 zn), (b 2, 134, .bool true), (b 3, 135, .bool true), (b 4, 136, .int .i64 zt), (b 5, 137, .int .i64 zt), (b 6, 138, .bool true), (b 7, 139, .bool true), (b 8, 140, .bool true),
      (b 9, 141, .int .i64 ze), (b 10, 142, .int .i64 ze), (b 11, 143, .bool true), (b 12, 144, .bool true), (b 13, 145, .bool true), (b 14, 146, pv), (b 15, 147, qv), (b 16, 148, .bool sm), (b 17, 149, pv), (b 18, 150, qv), (b 19, 151, .bool sm), (b 20, 152, .bool true), (b 21, 153, .bool true), (b 22, 154, .bool true),
      (b 23, 155, pv), (b 24, 156, v1), (b 25, 157, pv), (b 26, 158, v2), (b 27, 159, .bool true), (b 28, 160, .bool true), (b 29, 161, .bool true), (b 30, 162, .bool true), (b 31, 163, .bool true), (b 32, 8, .bool true)]) [] ∧
    Keeps All W0 w' ∧ (b 24 = true → IsStrs All w' v1 ns) ∧ (b 26 = true → IsStrs All w' v2 ns)

set_option maxRecDepth 100000 in
set_option maxHeartbeats 16000000 in
theorem GraphForms_c1 (ss ts : List Stp) (va vb : Value) (most at_ : Int) (w : World) (h1 : IsSteps All w va ss) (h2 : IsSteps All w vb ts) (htab : Tab w) (hm : most ≤ 9223372036854775807) (f1 : fewM ss 150 = true) (f2 : fewM ts 150 = true) :
    Calls Tryd.prog 5 #[.agg #[va], .agg #[vb], .int .i64 most, .int .i64 at_] w fun e w' => e = .returned (.bool true) ∧ Keeps All w w' := by
  have m := gg_start ss ts va vb w h1 h2 htab
  have hp : ∀ W, Keeps All w W → IsProof All W (.agg #[va]) ss := fun W hk => ⟨_, rfl, h1.keep hk fun _ _ h => h⟩
  have hq : ∀ W, Keeps All w W → IsProof All W (.agg #[vb]) ts := fun W hk => ⟨_, rfl, h2.keep hk fun _ _ h => h⟩
  have htb : ∀ W, Keeps All w W → Tab W := fun W hk => htab.keep hk
  obtain ⟨a, c, rfl⟩ := h1.form
  obtain ⟨a2, c2, rfl⟩ := h2.form
  have hl1 : ss.length ≤ 140737488351232 := by obtain ⟨_, _, _, hl, _⟩ := h1; exact hl
  obtain ⟨os, oe, ho⟩ := Ordered_two ss
  obtain ⟨hs, he, hh⟩ := Share_two ss
  obtain ⟨xs, xe, hx⟩ := Expand_two ss most hm
  obtain ⟨gs, ge, hg⟩ := Graft_two ss ts at_ (fun _ _ => by have h1 := few_len f1; have h2 := few_len f2; omega)
  obtain ⟨zn, zt, ze, hz⟩ := Size_two ss
  obtain ⟨ns, hn⟩ := Names_two ss
  have Hp := hid hp
  have Hq := hid hq
  have Htb := hid htb
  have Ho := hid ho
  have Hh := hid hh
  have Hx := hid hx
  have Hg := hid hg
  have Hz := hid hz
  have Hn := hid hn
  have hl2 := few_len f1
  have hg6000 : decide (6000 < (ss.length : Int)) = false := by simp; omega
  have hfew1 := Few_c ss 150 _ _ m.now.2.2.1
  rw [f1] at hfew1
  have Hf2 := hid f2
  clear f1 f2 h1 h2 htab hp hq htb ho hh hx hg hz hn
  refine (callsIn_wide (n := 5)).1 ?_
  refine callsIn_of_wp Tryd.func5 rfl trivial ?_ rfl
  simp only [Tryd.ntmps5, List.size_toArray, List.length_cons, List.length_nil, Nat.reduceAdd, Nat.reduceSub, Array.replicate_succ, Array.replicate_zero, List.push_toArray, List.append_toArray, List.nil_append, List.cons_append]
  gi_wp2
  refine ⟨trivial, ?_⟩
  refine (callsIn_wide.2 hfew1).mono ?_
  clear hfew1
  rintro e w1 ⟨rfl, hk⟩
  replace m := m.on hk
  clear hk
  obtain ⟨p1, p2, _⟩ := m.now
  obtain ⟨d1, _⟩ := p1.one
  obtain ⟨d2, _⟩ := p2.one
  have hfew2 := Few_c ts 150 _ _ m.now.2.2.2.1
  rw [Hf2.out] at hfew2
  clear p1 p2 Hf2
  gi_wp2
  refine ⟨trivial, ?_⟩
  refine (callsIn_wide.2 hfew2).mono ?_
  clear hfew2 d1 d2
  rintro e w2 ⟨rfl, hk⟩
  replace m := m.on hk
  clear hk
  obtain ⟨p1, p2, _⟩ := m.now
  obtain ⟨d1, _⟩ := p1.one
  have hkw := m.now.2.2.2.2.1
  have hc := (Ho.out _ w2 (Hp.out _ hkw)).1
  gi_wp2
  refine ⟨trivial, ?_⟩
  refine (callsIn_wide.2 hc).mono ?_
  clear hc d1
  rintro e w3 ⟨a3, c3, rfl, hs3, hk⟩
  replace p1 := (p1.keep hk trivial).alloc (.cells #[.slice a3 os.length c3] 24)
  replace p2 := (p2.keep hk trivial).alloc (.cells #[.slice a3 os.length c3] 24)
  have hka : Keeps All w3 (w3.alloc (.cells #[.slice a3 os.length c3] 24)) := (Keeps.refl _ _).alloc _
  have ra : IsRow (w3.alloc (.cells #[.slice a3 os.length c3] 24)) w3.heap.size 24 [.slice a3 os.length c3] := IsRow.new _ _ _
  replace hkw := (hkw.trans hk).trans hka
  replace hs3 := hs3.keep hka fun _ _ h => h
  have hla : w.heap.size + 2 ≤ w3.heap.size := by have := m.now.2.1.lt; have := hk.size; omega
  clear hka hk
  obtain ⟨d1, _⟩ := p1.one
  have hc := (Ho.out _ _ (Hp.out _ hkw)).2
  gi_wp2
  refine ⟨trivial, ?_⟩
  refine (callsIn_wide.2 hc).mono ?_
  clear hc d1
  rintro e w4 ⟨a4, c4, rfl, hs4, hk⟩
  have hlb : w3.heap.size < w4.heap.size := by have := hk.size; have := ra.lt; omega
  replace p1 := (p1.keep hk trivial).alloc (.cells #[.slice a4 os.length c4] 24)
  replace p2 := (p2.keep hk trivial).alloc (.cells #[.slice a4 os.length c4] 24)
  replace ra := (ra.keep hk trivial).alloc (.cells #[.slice a4 os.length c4] 24)
  have hka : Keeps All w4 (w4.alloc (.cells #[.slice a4 os.length c4] 24)) := (Keeps.refl _ _).alloc _
  have rb : IsRow (w4.alloc (.cells #[.slice a4 os.length c4] 24)) w4.heap.size 24 [.slice a4 os.length c4] := IsRow.new _ _ _
  replace hs3 := hs3.keep (hk.trans hka) fun _ _ h => h
  replace hs4 := hs4.keep hka fun _ _ h => h
  have F : Fm w _ _ _ _ _ _ _ := ⟨p1, p2, (hkw.trans hk).trans hka, hla, hlb, ra, rb⟩
  clear p1 p2 hkw hka hk hla hlb m
  obtain ⟨d1, _⟩ := ra.one
  obtain ⟨d2, _⟩ := rb.one
  have hc := rEqual_c os os _ _ _ ⟨_, rfl, hs3⟩ ⟨_, rfl, hs4⟩
  clear ra rb hs3 hs4
  gi_wp2
  refine ⟨trivial, ?_⟩
  refine (callsIn_wide.2 hc).mono ?_
  clear hc d1 d2
  rintro e w5 ⟨rfl, hk⟩
  replace F := F.on hk
  clear hk
  generalize w3.heap.size = na at F ⊢
  generalize w4.heap.size = nb at F ⊢
  simp only [decide_true]
  obtain ⟨d1, _⟩ := F.1.one
  have hc := (Hh.out _ _ (Hp.out _ F.2.2.1) (Htb.out _ F.2.2.1)).1
  gi_wp2
  refine ⟨trivial, ?_⟩
  refine (callsIn_wide.2 hc).mono ?_
  clear hc d1
  rintro e w6 ⟨a6, c6, rfl, hsA, hk⟩
  replace F := F.on hk
  obtain ⟨d2, d3⟩ := F.2.2.2.2.2.1.one
  obtain ⟨d4, _⟩ := F.1.one
  have hn1 : w.heap.size ≠ na := by have := F.2.2.2.1; omega
  have hn2 : w.heap.size + 1 ≠ na := by have := F.2.2.2.1; omega
  replace hsA := hsA.put F.2.2.2.2.2.1 (.slice a6 hs.length c6)
  replace F := F.seta (.slice a6 hs.length c6)
  obtain ⟨d1, _⟩ := F.1.one
  have hc := (Hh.out _ _ (Hp.out _ F.2.2.1) (Htb.out _ F.2.2.1)).2
  clear hk
  gi_wp2
  refine ⟨trivial, ?_⟩
  refine (callsIn_wide.2 hc).mono ?_
  clear hc d1 d2 d3 d4
  rintro e w7 ⟨a7, c7, rfl, hsB, hk⟩
  replace F := F.on hk
  replace hsA := hsA.keep hk fun _ _ h => h
  obtain ⟨d2, d3⟩ := F.2.2.2.2.2.2.one
  obtain ⟨d4, _⟩ := F.2.2.2.2.2.1.one
  have hn3 : na ≠ nb := by have := F.2.2.2.2.1; omega
  replace hsA := hsA.put F.2.2.2.2.2.2 (.slice a7 hs.length c7)
  replace hsB := hsB.put F.2.2.2.2.2.2 (.slice a7 hs.length c7)
  replace F := F.setb (.slice a7 hs.length c7)
  obtain ⟨d5, _⟩ := F.2.2.2.2.2.1.one
  obtain ⟨d6, _⟩ := F.2.2.2.2.2.2.one
  have hc := rEqual_c hs hs _ _ _ ⟨_, rfl, hsA⟩ ⟨_, rfl, hsB⟩
  clear hk hsA hsB
  gi_wp2
  refine ⟨trivial, ?_⟩
  refine (callsIn_wide.2 hc).mono ?_
  clear hc d2 d3 d4 d5 d6 hn1 hn2 hn3
  rintro e w8 ⟨rfl, hk⟩
  replace F := F.on hk
  clear hk
  simp only [decide_true]
  obtain ⟨d1, _⟩ := F.1.one
  have hc := (Hx.out _ _ (Hp.out _ F.2.2.1)).1
  gi_wp2
  refine ⟨trivial, ?_⟩
  refine (callsIn_wide.2 hc).mono ?_
  clear hc d1
  rintro e w9 ⟨a9, c9, rfl, hsA, hk⟩
  replace F := F.on hk
  obtain ⟨d2, d3⟩ := F.2.2.2.2.2.1.one
  obtain ⟨d4, _⟩ := F.1.one
  have hn1 : w.heap.size ≠ na := by have := F.2.2.2.1; omega
  have hn2 : w.heap.size + 1 ≠ na := by have := F.2.2.2.1; omega
  replace hsA := hsA.put F.2.2.2.2.2.1 (.slice a9 xs.length c9)
  replace F := F.seta (.slice a9 xs.length c9)
  obtain ⟨d1, _⟩ := F.1.one
  have hc := (Hx.out _ _ (Hp.out _ F.2.2.1)).2
  clear hk
  gi_wp2
  refine ⟨trivial, ?_⟩
  refine (callsIn_wide.2 hc).mono ?_
  clear hc d1 d2 d3 d4
  rintro e w10 ⟨a10, c10, rfl, hsB, hk⟩
  replace F := F.on hk
  replace hsA := hsA.keep hk fun _ _ h => h
  obtain ⟨d2, d3⟩ := F.2.2.2.2.2.2.one
  obtain ⟨d4, _⟩ := F.2.2.2.2.2.1.one
  have hn3 : na ≠ nb := by have := F.2.2.2.2.1; omega
  replace hsA := hsA.put F.2.2.2.2.2.2 (.slice a10 xs.length c10)
  replace hsB := hsB.put F.2.2.2.2.2.2 (.slice a10 xs.length c10)
  replace F := F.setb (.slice a10 xs.length c10)
  obtain ⟨d5, _⟩ := F.2.2.2.2.2.1.one
  obtain ⟨d6, _⟩ := F.2.2.2.2.2.2.one
  have hc := rEqual_c xs xs _ _ _ ⟨_, rfl, hsA⟩ ⟨_, rfl, hsB⟩
  clear hk hsA hsB
  gi_wp2
  refine ⟨trivial, ?_⟩
  refine (callsIn_wide.2 hc).mono ?_
  clear hc d2 d3 d4 d5 d6 hn1 hn2 hn3
  rintro e w11 ⟨rfl, hk⟩
  replace F := F.on hk
  clear hk
  simp only [decide_true]
  obtain ⟨d1, _⟩ := F.1.one
  obtain ⟨g1, _⟩ := F.2.1.one
  have hc := (Hg.out _ _ _ (Hp.out _ F.2.2.1) (Hq.out _ F.2.2.1) (Htb.out _ F.2.2.1)).1
  gi_wp2
  refine ⟨trivial, ?_⟩
  refine (callsIn_wide.2 hc).mono ?_
  clear hc d1 g1
  rintro e w12 ⟨a12, c12, rfl, hsA, hk⟩
  replace F := F.on hk
  obtain ⟨d2, d3⟩ := F.2.2.2.2.2.1.one
  obtain ⟨d4, _⟩ := F.1.one
  have hn1 : w.heap.size ≠ na := by have := F.2.2.2.1; omega
  have hn2 : w.heap.size + 1 ≠ na := by have := F.2.2.2.1; omega
  obtain ⟨g4, _⟩ := F.2.1.one
  replace hsA := hsA.put F.2.2.2.2.2.1 (.slice a12 gs.length c12)
  replace F := F.seta (.slice a12 gs.length c12)
  obtain ⟨d1, _⟩ := F.1.one
  obtain ⟨g1, _⟩ := F.2.1.one
  have hc := (Hg.out _ _ _ (Hp.out _ F.2.2.1) (Hq.out _ F.2.2.1) (Htb.out _ F.2.2.1)).2
  clear hk
  gi_wp2
  refine ⟨trivial, ?_⟩
  refine (callsIn_wide.2 hc).mono ?_
  clear hc d1 d2 d3 d4 g1 g4
  rintro e w13 ⟨a13, c13, rfl, hsB, hk⟩
  replace F := F.on hk
  replace hsA := hsA.keep hk fun _ _ h => h
  obtain ⟨d2, d3⟩ := F.2.2.2.2.2.2.one
  obtain ⟨d4, _⟩ := F.2.2.2.2.2.1.one
  have hn3 : na ≠ nb := by have := F.2.2.2.2.1; omega
  replace hsA := hsA.put F.2.2.2.2.2.2 (.slice a13 gs.length c13)
  replace hsB := hsB.put F.2.2.2.2.2.2 (.slice a13 gs.length c13)
  replace F := F.setb (.slice a13 gs.length c13)
  obtain ⟨d5, _⟩ := F.2.2.2.2.2.1.one
  obtain ⟨d6, _⟩ := F.2.2.2.2.2.2.one
  have hc := rEqual_c gs gs _ _ _ ⟨_, rfl, hsA⟩ ⟨_, rfl, hsB⟩
  clear hk hsA hsB
  gi_wp2
  refine ⟨trivial, ?_⟩
  refine (callsIn_wide.2 hc).mono ?_
  clear hc d2 d3 d4 d5 d6 hn1 hn2 hn3
  rintro e w14 ⟨rfl, hk⟩
  replace F := F.on hk
  clear hk
  simp only [decide_true]
  obtain ⟨d1, _⟩ := F.1.one
  have hc := (Hz.out _ _ (Hp.out _ F.2.2.1)).1
  gi_wp2
  refine ⟨trivial, ?_⟩
  refine (callsIn_wide.2 hc).mono ?_
  clear hc d1
  rintro e w15 ⟨rfl, hk⟩
  replace F := F.on hk
  obtain ⟨d1, _⟩ := F.1.one
  have hc := (Hz.out _ _ (Hp.out _ F.2.2.1)).2
  clear hk
  gi_wp2
  refine ⟨trivial, ?_⟩
  refine (callsIn_wide.2 hc).mono ?_
  clear hc d1
  rintro e w16 ⟨rfl, hk⟩
  replace F := F.on hk
  clear hk
  have hsm1 : ∀ W, Keeps All w W → Calls Tryd.prog 11 #[.agg #[.slice a ss.length c], .agg #[.slice a2 ts.length c2]] W fun e w' => e = .returned (.bool (sameM ss ts)) ∧ Keeps All W w' := fun W h => Same_c ss ts _ _ W (Hp.out _ h) (Hq.out _ h) (Htb.out _ h)
  have hsm2 : ∀ W, Keeps All w W → Calls Tryd.prog 23 #[.agg #[.slice a ss.length c], .agg #[.slice a2 ts.length c2]] W fun e w' => e = .returned (.bool (sameM ss ts)) ∧ Keeps All W w' := fun W h => rSame_c ss ts _ _ W (Hp.out _ h) (Hq.out _ h)
  generalize sameM ss ts = sm at hsm1 hsm2
  have Hs1 := hid hsm1
  have Hs2 := hid hsm2
  clear hsm1 hsm2
  gi_wp2
  refine wpIn_region_inv (FmReg (.agg #[.slice a ss.length c]) (.agg #[.slice a2 ts.length c2]) zn zt ze sm ns) mixed (by kernel_rfl) ?start ⟨?o0, ?o1, ?o2, ?o3, ?o4, ?o5, ?o6, ?o7, ?o8, ?o9, ?o10, ?o11, ?o12, ?o13, ?o14, ?o15, ?o16, ?o17, ?o18, ?o19, ?o20, ?o21, ?o22, ?o23, ?o24, ?o25, ?o26, ?o27, ?o28, ?o29, ?o30, ?o31, ?o32, trivial⟩ ?fin
  case start =>
    refine ⟨undef, undef, by simp only [sIs_nil, sIs_cons, sI_false], (Keeps.refl _ _).drew, ?_, ?_⟩
    all_goals (intro h; cases h)
  case o0 =>
    rintro b' a' w' hb hd ⟨v1, v2, hA, hk, hv1, hv2⟩
    simp only [sIs_nil, sIs_cons, sI_lit, lset_zero, lset_succ] at hA
    subst hA
    gi_wp2
    refine ⟨v1, v2, by simp [sIs_nil, sIs_cons, sI_lit, lset_zero, lset_succ, mark], hk, ?_, ?_⟩
    all_goals (simp only [mark, if_false, Nat.reduceEqDiff]; assumption)
  case o1 =>
    rintro b' a' w' hb hd ⟨v1, v2, hA, hk, hv1, hv2⟩
    simp only [sIs_nil, sIs_cons, sI_lit, lset_zero, lset_succ] at hA
    subst hA
    gi_wp2
    refine ⟨v1, v2, by simp [sIs_nil, sIs_cons, sI_lit, lset_zero, lset_succ, mark], hk, ?_, ?_⟩
    all_goals (simp only [mark, if_false, Nat.reduceEqDiff]; assumption)
  case o2 =>
    rintro b' a' w' hb hd ⟨v1, v2, hA, hk, hv1, hv2⟩
    simp [Region.binds] at hd
    simp only [sIs_nil, sIs_cons, sI_lit, lset_zero, lset_succ, hd, cond_true] at hA
    subst hA
    gi_wp2
    refine ⟨v1, v2, by simp [sIs_nil, sIs_cons, sI_lit, lset_zero, lset_succ, mark, hd], hk, ?_, ?_⟩
    all_goals (simp only [mark, if_false, Nat.reduceEqDiff]; assumption)
  case o3 =>
    rintro b' a' w' hb hd ⟨v1, v2, hA, hk, hv1, hv2⟩
    simp [Region.binds] at hd
    simp only [sIs_nil, sIs_cons, sI_lit, lset_zero, lset_succ, hd, cond_true] at hA
    subst hA
    gi_wp2
    refine ⟨v1, v2, by simp [sIs_nil, sIs_cons, sI_lit, lset_zero, lset_succ, mark, hd], hk, ?_, ?_⟩
    all_goals (simp only [mark, if_false, Nat.reduceEqDiff]; assumption)
  case o4 =>
    rintro b' a' w' hb hd ⟨v1, v2, hA, hk, hv1, hv2⟩
    simp [Region.binds] at hd
    simp only [sIs_nil, sIs_cons, sI_lit, lset_zero, lset_succ, hd, cond_true] at hA
    subst hA
    gi_wp2
    refine ⟨v1, v2, by simp [sIs_nil, sIs_cons, sI_lit, lset_zero, lset_succ, mark, hd], hk, ?_, ?_⟩
    all_goals (simp only [mark, if_false, Nat.reduceEqDiff]; assumption)
  case o5 =>
    rintro b' a' w' hb hd ⟨v1, v2, hA, hk, hv1, hv2⟩
    simp [Region.binds] at hd
    simp only [sIs_nil, sIs_cons, sI_lit, lset_zero, lset_succ, hd, cond_true] at hA
    subst hA
    gi_wp2
    refine ⟨v1, v2, by simp [sIs_nil, sIs_cons, sI_lit, lset_zero, lset_succ, mark, hd], hk, ?_, ?_⟩
    all_goals (simp only [mark, if_false, Nat.reduceEqDiff]; assumption)
  case o6 =>
    rintro b' a' w' hb hd ⟨v1, v2, hA, hk, hv1, hv2⟩
    simp [Region.binds] at hd
    simp only [sIs_nil, sIs_cons, sI_lit, lset_zero, lset_succ, hd, cond_true] at hA
    subst hA
    gi_wp2
    refine ⟨v1, v2, by simp [sIs_nil, sIs_cons, sI_lit, lset_zero, lset_succ, mark, hd], hk, ?_, ?_⟩
    all_goals (simp only [mark, if_false, Nat.reduceEqDiff]; assumption)
  case o7 =>
    rintro b' a' w' hb hd ⟨v1, v2, hA, hk, hv1, hv2⟩
    simp [Region.binds] at hd
    simp only [sIs_nil, sIs_cons, sI_lit, lset_zero, lset_succ, hd, cond_true] at hA
    subst hA
    gi_wp2
    refine ⟨v1, v2, by simp [sIs_nil, sIs_cons, sI_lit, lset_zero, lset_succ, mark, hd], hk, ?_, ?_⟩
    all_goals (simp only [mark, if_false, Nat.reduceEqDiff]; assumption)
  case o8 =>
    rintro b' a' w' hb hd ⟨v1, v2, hA, hk, hv1, hv2⟩
    simp [Region.binds] at hd
    simp only [sIs_nil, sIs_cons, sI_lit, lset_zero, lset_succ, hd, cond_true] at hA
    subst hA
    gi_wp2
    refine ⟨v1, v2, by simp [sIs_nil, sIs_cons, sI_lit, lset_zero, lset_succ, mark, hd], hk, ?_, ?_⟩
    all_goals (simp only [mark, if_false, Nat.reduceEqDiff]; assumption)
  case o9 =>
    rintro b' a' w' hb hd ⟨v1, v2, hA, hk, hv1, hv2⟩
    simp [Region.binds] at hd
    simp only [sIs_nil, sIs_cons, sI_lit, lset_zero, lset_succ, hd, cond_true] at hA
    subst hA
    gi_wp2
    refine ⟨v1, v2, by simp [sIs_nil, sIs_cons, sI_lit, lset_zero, lset_succ, mark, hd], hk, ?_, ?_⟩
    all_goals (simp only [mark, if_false, Nat.reduceEqDiff]; assumption)
  case o10 =>
    rintro b' a' w' hb hd ⟨v1, v2, hA, hk, hv1, hv2⟩
    simp [Region.binds] at hd
    simp only [sIs_nil, sIs_cons, sI_lit, lset_zero, lset_succ, hd, cond_true] at hA
    subst hA
    gi_wp2
    refine ⟨v1, v2, by simp [sIs_nil, sIs_cons, sI_lit, lset_zero, lset_succ, mark, hd], hk, ?_, ?_⟩
    all_goals (simp only [mark, if_false, Nat.reduceEqDiff]; assumption)
  case o11 =>
    rintro b' a' w' hb hd ⟨v1, v2, hA, hk, hv1, hv2⟩
    simp [Region.binds] at hd
    simp only [sIs_nil, sIs_cons, sI_lit, lset_zero, lset_succ, hd, cond_true] at hA
    subst hA
    gi_wp2
    refine ⟨v1, v2, by simp [sIs_nil, sIs_cons, sI_lit, lset_zero, lset_succ, mark, hd], hk, ?_, ?_⟩
    all_goals (simp only [mark, if_false, Nat.reduceEqDiff]; assumption)
  case o12 =>
    rintro b' a' w' hb hd ⟨v1, v2, hA, hk, hv1, hv2⟩
    simp [Region.binds] at hd
    simp only [sIs_nil, sIs_cons, sI_lit, lset_zero, lset_succ, hd, cond_true] at hA
    subst hA
    gi_wp2
    refine ⟨v1, v2, by simp [sIs_nil, sIs_cons, sI_lit, lset_zero, lset_succ, mark, hd], hk, ?_, ?_⟩
    all_goals (simp only [mark, if_false, Nat.reduceEqDiff]; assumption)
  case o13 =>
    rintro b' a' w' hb hd ⟨v1, v2, hA, hk, hv1, hv2⟩
    simp [Region.binds] at hd
    simp only [sIs_nil, sIs_cons, sI_lit, lset_zero, lset_succ, hd, cond_true] at hA
    subst hA
    gi_wp2
    refine ⟨v1, v2, by simp [sIs_nil, sIs_cons, sI_lit, lset_zero, lset_succ, mark, hd], hk, ?_, ?_⟩
    all_goals (simp only [mark, if_false, Nat.reduceEqDiff]; assumption)
  case o14 =>
    rintro b' a' w' hb hd ⟨v1, v2, hA, hk, hv1, hv2⟩
    simp [Region.binds] at hd
    have g0 : w'.cell? ⟨w.heap.size, 0, none⟩ = some (.slice a ss.length c) := (F.on hk).1.cell 0
    simp only [sIs_nil, sIs_cons, sI_lit, lset_zero, lset_succ, hd, cond_true] at hA
    subst hA
    gi_wp2
    refine ⟨v1, v2, by simp [sIs_nil, sIs_cons, sI_lit, lset_zero, lset_succ, mark, hd], hk, ?_, ?_⟩
    all_goals (simp only [mark, if_false, Nat.reduceEqDiff]; assumption)
  case o15 =>
    rintro b' a' w' hb hd ⟨v1, v2, hA, hk, hv1, hv2⟩
    simp [Region.binds] at hd
    have g0 : w'.cell? ⟨w.heap.size + 1, 0, none⟩ = some (.slice a2 ts.length c2) := (F.on hk).2.1.cell 0
    simp only [sIs_nil, sIs_cons, sI_lit, lset_zero, lset_succ, hd, cond_true] at hA
    subst hA
    gi_wp2
    refine ⟨v1, v2, by simp [sIs_nil, sIs_cons, sI_lit, lset_zero, lset_succ, mark, hd], hk, ?_, ?_⟩
    all_goals (simp only [mark, if_false, Nat.reduceEqDiff]; assumption)
  case o16 =>
    rintro b' a' w' hb hd ⟨v1, v2, hA, hk, hv1, hv2⟩
    simp [Region.binds] at hd
    have hcall := Hs1.out w' (F.on hk).2.2.1
    simp only [sIs_nil, sIs_cons, sI_lit, lset_zero, lset_succ, hd, cond_true] at hA
    subst hA
    gi_wp2
    refine ⟨trivial, ?_⟩
    refine (callsIn_wide.2 hcall).mono ?_
    clear hcall
    rintro e w3 ⟨rfl, hk3⟩
    gi_wp2
    refine ⟨v1, v2, by simp [sIs_nil, sIs_cons, sI_lit, lset_zero, lset_succ, mark, hd], hk.trans hk3, ?_, ?_⟩
    · intro h; exact (hv1 (by simpa [mark] using h)).keep hk3 fun _ _ h => h
    · intro h; exact (hv2 (by simpa [mark] using h)).keep hk3 fun _ _ h => h
  case o17 =>
    rintro b' a' w' hb hd ⟨v1, v2, hA, hk, hv1, hv2⟩
    simp [Region.binds] at hd
    have g0 : w'.cell? ⟨w.heap.size, 0, none⟩ = some (.slice a ss.length c) := (F.on hk).1.cell 0
    simp only [sIs_nil, sIs_cons, sI_lit, lset_zero, lset_succ, hd, cond_true] at hA
    subst hA
    gi_wp2
    refine ⟨v1, v2, by simp [sIs_nil, sIs_cons, sI_lit, lset_zero, lset_succ, mark, hd], hk, ?_, ?_⟩
    all_goals (simp only [mark, if_false, Nat.reduceEqDiff]; assumption)
  case o18 =>
    rintro b' a' w' hb hd ⟨v1, v2, hA, hk, hv1, hv2⟩
    simp [Region.binds] at hd
    have g0 : w'.cell? ⟨w.heap.size + 1, 0, none⟩ = some (.slice a2 ts.length c2) := (F.on hk).2.1.cell 0
    simp only [sIs_nil, sIs_cons, sI_lit, lset_zero, lset_succ, hd, cond_true] at hA
    subst hA
    gi_wp2
    refine ⟨v1, v2, by simp [sIs_nil, sIs_cons, sI_lit, lset_zero, lset_succ, mark, hd], hk, ?_, ?_⟩
    all_goals (simp only [mark, if_false, Nat.reduceEqDiff]; assumption)
  case o19 =>
    rintro b' a' w' hb hd ⟨v1, v2, hA, hk, hv1, hv2⟩
    simp [Region.binds] at hd
    have hcall := Hs2.out w' (F.on hk).2.2.1
    simp only [sIs_nil, sIs_cons, sI_lit, lset_zero, lset_succ, hd, cond_true] at hA
    subst hA
    gi_wp2
    refine ⟨trivial, ?_⟩
    refine (callsIn_wide.2 hcall).mono ?_
    clear hcall
    rintro e w3 ⟨rfl, hk3⟩
    gi_wp2
    refine ⟨v1, v2, by simp [sIs_nil, sIs_cons, sI_lit, lset_zero, lset_succ, mark, hd], hk.trans hk3, ?_, ?_⟩
    · intro h; exact (hv1 (by simpa [mark] using h)).keep hk3 fun _ _ h => h
    · intro h; exact (hv2 (by simpa [mark] using h)).keep hk3 fun _ _ h => h
  case o20 =>
    rintro b' a' w' hb hd ⟨v1, v2, hA, hk, hv1, hv2⟩
    simp [Region.binds] at hd
    simp only [sIs_nil, sIs_cons, sI_lit, lset_zero, lset_succ, hd, cond_true] at hA
    subst hA
    gi_wp2
    refine ⟨v1, v2, by simp [sIs_nil, sIs_cons, sI_lit, lset_zero, lset_succ, mark, hd], hk, ?_, ?_⟩
    all_goals (simp only [mark, if_false, Nat.reduceEqDiff]; assumption)
  case o21 =>
    rintro b' a' w' hb hd ⟨v1, v2, hA, hk, hv1, hv2⟩
    simp [Region.binds] at hd
    simp only [sIs_nil, sIs_cons, sI_lit, lset_zero, lset_succ, hd, cond_true] at hA
    subst hA
    gi_wp2
    refine ⟨v1, v2, by simp [sIs_nil, sIs_cons, sI_lit, lset_zero, lset_succ, mark, hd], hk, ?_, ?_⟩
    all_goals (simp only [mark, if_false, Nat.reduceEqDiff]; assumption)
  case o22 =>
    rintro b' a' w' hb hd ⟨v1, v2, hA, hk, hv1, hv2⟩
    simp [Region.binds] at hd
    simp only [sIs_nil, sIs_cons, sI_lit, lset_zero, lset_succ, hd, cond_true] at hA
    subst hA
    gi_wp2
    refine ⟨v1, v2, by simp [sIs_nil, sIs_cons, sI_lit, lset_zero, lset_succ, mark, hd], hk, ?_, ?_⟩
    all_goals (simp only [mark, if_false, Nat.reduceEqDiff]; assumption)
  case o23 =>
    rintro b' a' w' hb hd ⟨v1, v2, hA, hk, hv1, hv2⟩
    simp [Region.binds] at hd
    have g0 : w'.cell? ⟨w.heap.size, 0, none⟩ = some (.slice a ss.length c) := (F.on hk).1.cell 0
    simp only [sIs_nil, sIs_cons, sI_lit, lset_zero, lset_succ, hd, cond_true] at hA
    subst hA
    gi_wp2
    refine ⟨v1, v2, by simp [sIs_nil, sIs_cons, sI_lit, lset_zero, lset_succ, mark, hd], hk, ?_, ?_⟩
    all_goals (simp only [mark, if_false, Nat.reduceEqDiff]; assumption)
  case o24 =>
    rintro b' a' w' hb hd ⟨v1, v2, hA, hk, hv1, hv2⟩
    simp [Region.binds] at hd
    have hcall := (Hn.out _ w' (Hp.out _ (F.on hk).2.2.1)).1
    simp only [sIs_nil, sIs_cons, sI_lit, lset_zero, lset_succ, hd, cond_true] at hA
    subst hA
    gi_wp2
    refine ⟨trivial, ?_⟩
    refine (callsIn_wide.2 hcall).mono ?_
    clear hcall
    rintro e w3 ⟨v1', rfl, hs', hk3⟩
    gi_wp2
    refine ⟨v1', v2, by simp [sIs_nil, sIs_cons, sI_lit, lset_zero, lset_succ, mark, hd], hk.trans hk3, fun _ => hs', ?_⟩
    · intro h; exact (hv2 (by simpa [mark] using h)).keep hk3 fun _ _ h => h
  case o25 =>
    rintro b' a' w' hb hd ⟨v1, v2, hA, hk, hv1, hv2⟩
    simp [Region.binds] at hd
    have g0 : w'.cell? ⟨w.heap.size, 0, none⟩ = some (.slice a ss.length c) := (F.on hk).1.cell 0
    simp only [sIs_nil, sIs_cons, sI_lit, lset_zero, lset_succ, hd, cond_true] at hA
    subst hA
    gi_wp2
    refine ⟨v1, v2, by simp [sIs_nil, sIs_cons, sI_lit, lset_zero, lset_succ, mark, hd], hk, ?_, ?_⟩
    all_goals (simp only [mark, if_false, Nat.reduceEqDiff]; assumption)
  case o26 =>
    rintro b' a' w' hb hd ⟨v1, v2, hA, hk, hv1, hv2⟩
    simp [Region.binds] at hd
    have hcall := (Hn.out _ w' (Hp.out _ (F.on hk).2.2.1)).2
    simp only [sIs_nil, sIs_cons, sI_lit, lset_zero, lset_succ, hd, cond_true] at hA
    subst hA
    gi_wp2
    refine ⟨trivial, ?_⟩
    refine (callsIn_wide.2 hcall).mono ?_
    clear hcall
    rintro e w3 ⟨v2', rfl, hs', hk3⟩
    gi_wp2
    refine ⟨v1, v2', by simp [sIs_nil, sIs_cons, sI_lit, lset_zero, lset_succ, mark, hd], hk.trans hk3, ?_, fun _ => hs'⟩
    · intro h; exact (hv1 (by simpa [mark] using h)).keep hk3 fun _ _ h => h
  case o27 =>
    rintro b' a' w' hb hd ⟨v1, v2, hA, hk, hv1, hv2⟩
    have e24 : b' 24 = true := hd { on := 24, ground := Ground.data } (by simp) rfl
    have e26 : b' 26 = true := hd { on := 26, ground := Ground.data } (by simp) rfl
    simp [Region.binds] at hd
    have hcall := EqualStr_c ns v1 v2 w' (hv1 e24) (hv2 e26)
    simp only [sIs_nil, sIs_cons, sI_lit, lset_zero, lset_succ, hd, cond_true] at hA
    subst hA
    gi_wp2
    refine ⟨trivial, ?_⟩
    refine (callsIn_wide.2 hcall).mono ?_
    clear hcall
    rintro e w3 ⟨rfl, hk3⟩
    gi_wp2
    refine ⟨v1, v2, by simp [sIs_nil, sIs_cons, sI_lit, lset_zero, lset_succ, mark, hd], hk.trans hk3, ?_, ?_⟩
    · intro h; exact (hv1 (by simpa [mark] using h)).keep hk3 fun _ _ h => h
    · intro h; exact (hv2 (by simpa [mark] using h)).keep hk3 fun _ _ h => h
  case o28 =>
    rintro b' a' w' hb hd ⟨v1, v2, hA, hk, hv1, hv2⟩
    simp [Region.binds] at hd
    simp only [sIs_nil, sIs_cons, sI_lit, lset_zero, lset_succ, hd, cond_true] at hA
    subst hA
    gi_wp2
    refine ⟨v1, v2, by simp [sIs_nil, sIs_cons, sI_lit, lset_zero, lset_succ, mark, hd], hk, ?_, ?_⟩
    all_goals (simp only [mark, if_false, Nat.reduceEqDiff]; assumption)
  case o29 =>
    rintro b' a' w' hb hd ⟨v1, v2, hA, hk, hv1, hv2⟩
    simp [Region.binds] at hd
    simp only [sIs_nil, sIs_cons, sI_lit, lset_zero, lset_succ, hd, cond_true] at hA
    subst hA
    gi_wp2
    refine ⟨v1, v2, by simp [sIs_nil, sIs_cons, sI_lit, lset_zero, lset_succ, mark, hd], hk, ?_, ?_⟩
    all_goals (simp only [mark, if_false, Nat.reduceEqDiff]; assumption)
  case o30 =>
    rintro b' a' w' hb hd ⟨v1, v2, hA, hk, hv1, hv2⟩
    simp [Region.binds] at hd
    have hcall := awake_c w' (Htb.out _ (F.on hk).2.2.1)
    simp only [sIs_nil, sIs_cons, sI_lit, lset_zero, lset_succ, hd, cond_true] at hA
    subst hA
    gi_wp2
    refine ⟨trivial, ?_⟩
    refine (callsIn_wide.2 hcall).mono ?_
    clear hcall
    rintro e w3 ⟨rfl, hk3⟩
    gi_wp2
    refine ⟨v1, v2, by simp [sIs_nil, sIs_cons, sI_lit, lset_zero, lset_succ, mark, hd], hk.trans hk3, ?_, ?_⟩
    · intro h; exact (hv1 (by simpa [mark] using h)).keep hk3 fun _ _ h => h
    · intro h; exact (hv2 (by simpa [mark] using h)).keep hk3 fun _ _ h => h
  case o31 =>
    rintro b' a' w' hb hd ⟨v1, v2, hA, hk, hv1, hv2⟩
    simp [Region.binds] at hd
    simp only [sIs_nil, sIs_cons, sI_lit, lset_zero, lset_succ, hd, cond_true] at hA
    subst hA
    gi_wp2
    refine ⟨v1, v2, by simp [sIs_nil, sIs_cons, sI_lit, lset_zero, lset_succ, mark, hd], hk, ?_, ?_⟩
    all_goals (simp only [mark, if_false, Nat.reduceEqDiff]; assumption)
  case o32 =>
    rintro b' a' w' hb hd ⟨v1, v2, hA, hk, hv1, hv2⟩
    simp [Region.binds] at hd
    simp only [sIs_nil, sIs_cons, sI_lit, lset_zero, lset_succ, hd, cond_true] at hA
    subst hA
    gi_wp2
    refine ⟨v1, v2, by simp [sIs_nil, sIs_cons, sI_lit, lset_zero, lset_succ, mark, hd], hk, ?_, ?_⟩
    all_goals (simp only [mark, if_false, Nat.reduceEqDiff]; assumption)
  case fin =>
    rintro b' a' w' hb ⟨v1, v2, rfl, hk, -, -⟩
    have e0 := hb 0 (by decide)
    have e1 := hb 1 (by decide)
    have e2 := hb 2 (by decide)
    have e3 := hb 3 (by decide)
    have e4 := hb 4 (by decide)
    have e5 := hb 5 (by decide)
    have e6 := hb 6 (by decide)
    have e7 := hb 7 (by decide)
    have e8 := hb 8 (by decide)
    have e9 := hb 9 (by decide)
    have e10 := hb 10 (by decide)
    have e11 := hb 11 (by decide)
    have e12 := hb 12 (by decide)
    have e13 := hb 13 (by decide)
    have e14 := hb 14 (by decide)
    have e15 := hb 15 (by decide)
    have e16 := hb 16 (by decide)
    have e17 := hb 17 (by decide)
    have e18 := hb 18 (by decide)
    have e19 := hb 19 (by decide)
    have e20 := hb 20 (by decide)
    have e21 := hb 21 (by decide)
    have e22 := hb 22 (by decide)
    have e23 := hb 23 (by decide)
    have e24 := hb 24 (by decide)
    have e25 := hb 25 (by decide)
    have e26 := hb 26 (by decide)
    have e27 := hb 27 (by decide)
    have e28 := hb 28 (by decide)
    have e29 := hb 29 (by decide)
    have e30 := hb 30 (by decide)
    have e31 := hb 31 (by decide)
    have e32 := hb 32 (by decide)
    clear hb
    simp only [sIs_nil, sIs_cons, sI_lit, lset_zero, lset_succ, e0, e1, e2, e3, e4, e5, e6, e7, e8, e9, e10, e11, e12, e13, e14, e15, e16, e17, e18, e19, e20, e21, e22, e23, e24, e25, e26, e27, e28, e29, e30, e31, e32, cond_true]
    clear e0 e1 e2 e3 e4 e5 e6 e7 e8 e9 e10 e11 e12 e13 e14 e15 e16 e17 e18 e19 e20 e21 e22 e23 e24 e25 e26 e27 e28 e29 e30 e31 e32
    have hkw := (F.on hk).2.2.1
    gi_wp2
    exact bodyPost_ret (v := .bool true) (by simp [results, Tryd.results5, go_sem]) rfl ⟨rfl, hkw⟩

end Go.Proofs.YtcbmljfgmeeadaaDoor

namespace Go.Proofs.YtcbmljfgmeeadaaDoor
open Go.RowKit

attribute [local go_sem] Oper.semAt_some

set_option maxRecDepth 100000 in
set_option maxHeartbeats 16000000 in
theorem GraphForms_c2 (ss ts : List Stp) (va vb : Value) (most at_ : Int) (w : World) (h1 : IsSteps All w va ss) (h2 : IsSteps All w vb ts) (htab : Tab w) (hm : most ≤ 9223372036854775807) (f1 : fewM ss 150 = false) (hs1 : 2000 < ss.length) (hs2 : ss.length ≤ 6000) (f2 : fewM ts 150 = true) :
    Calls Tryd.prog 5 #[.agg #[va], .agg #[vb], .int .i64 most, .int .i64 at_] w fun e w' => e = .returned (.bool true) ∧ Keeps All w w' := by
  have m := gg_start ss ts va vb w h1 h2 htab
  have hp : ∀ W, Keeps All w W → IsProof All W (.agg #[va]) ss := fun W hk => ⟨_, rfl, h1.keep hk fun _ _ h => h⟩
  have hq : ∀ W, Keeps All w W → IsProof All W (.agg #[vb]) ts := fun W hk => ⟨_, rfl, h2.keep hk fun _ _ h => h⟩
  have htb : ∀ W, Keeps All w W → Tab W := fun W hk => htab.keep hk
  obtain ⟨a, c, rfl⟩ := h1.form
  obtain ⟨a2, c2, rfl⟩ := h2.form
  have hl1 : ss.length ≤ 140737488351232 := by obtain ⟨_, _, _, hl, _⟩ := h1; exact hl
  obtain ⟨os, oe, ho⟩ := Ordered_two ss
  obtain ⟨hs, he, hh⟩ := Share_two ss
  obtain ⟨xs, xe, hx⟩ := Expand_two ss most hm
  obtain ⟨gs, ge, hg⟩ := Graft_two ss ts at_ (fun h _ => by unfold formM at h; rw [if_pos (Or.inr hs1)] at h; cases h)
  obtain ⟨zn, zt, ze, hz⟩ := Size_two ss
  obtain ⟨ns, hn⟩ := Names_two ss
  have Hp := hid hp
  have Hq := hid hq
  have Htb := hid htb
  have Ho := hid ho
  have Hh := hid hh
  have Hx := hid hx
  have Hg := hid hg
  have Hz := hid hz
  have Hn := hid hn
  have hd2000 : decide ((ss.length : Int) ≤ 2000) = false := by simp; omega
  have hg6000 : decide (6000 < (ss.length : Int)) = false := by simp; omega
  have hfew1 := Few_c ss 150 _ _ m.now.2.2.1
  rw [f1] at hfew1
  have Hf2 := hid f2
  clear f1 f2 h1 h2 htab hp hq htb ho hh hx hg hz hn
  refine (callsIn_wide (n := 5)).1 ?_
  refine callsIn_of_wp Tryd.func5 rfl trivial ?_ rfl
  simp only [Tryd.ntmps5, List.size_toArray, List.length_cons, List.length_nil, Nat.reduceAdd, Nat.reduceSub, Array.replicate_succ, Array.replicate_zero, List.push_toArray, List.append_toArray, List.nil_append, List.cons_append]
  gi_wp2
  refine ⟨trivial, ?_⟩
  refine (callsIn_wide.2 hfew1).mono ?_
  clear hfew1
  rintro e w1 ⟨rfl, hk⟩
  replace m := m.on hk
  clear hk
  obtain ⟨p1, p2, _⟩ := m.now
  obtain ⟨d1, _⟩ := p1.one
  obtain ⟨d2, _⟩ := p2.one
  have hfew2 := Few_c ts 150 _ _ m.now.2.2.2.1
  rw [Hf2.out] at hfew2
  clear p1 p2 Hf2
  gi_wp2
  refine ⟨trivial, ?_⟩
  refine (callsIn_wide.2 hfew2).mono ?_
  clear hfew2 d1 d2
  rintro e w2 ⟨rfl, hk⟩
  replace m := m.on hk
  clear hk
  obtain ⟨p1, p2, _⟩ := m.now
  obtain ⟨d1, _⟩ := p1.one
  have hkw := m.now.2.2.2.2.1
  have hc := (Ho.out _ w2 (Hp.out _ hkw)).1
  gi_wp2
  refine ⟨trivial, ?_⟩
  refine (callsIn_wide.2 hc).mono ?_
  clear hc d1
  rintro e w3 ⟨a3, c3, rfl, hs3, hk⟩
  replace p1 := (p1.keep hk trivial).alloc (.cells #[.slice a3 os.length c3] 24)
  replace p2 := (p2.keep hk trivial).alloc (.cells #[.slice a3 os.length c3] 24)
  have hka : Keeps All w3 (w3.alloc (.cells #[.slice a3 os.length c3] 24)) := (Keeps.refl _ _).alloc _
  have ra : IsRow (w3.alloc (.cells #[.slice a3 os.length c3] 24)) w3.heap.size 24 [.slice a3 os.length c3] := IsRow.new _ _ _
  replace hkw := (hkw.trans hk).trans hka
  replace hs3 := hs3.keep hka fun _ _ h => h
  have hla : w.heap.size + 2 ≤ w3.heap.size := by have := m.now.2.1.lt; have := hk.size; omega
  clear hka hk
  obtain ⟨d1, _⟩ := p1.one
  have hc := (Ho.out _ _ (Hp.out _ hkw)).2
  gi_wp2
  refine ⟨trivial, ?_⟩
  refine (callsIn_wide.2 hc).mono ?_
  clear hc d1
  rintro e w4 ⟨a4, c4, rfl, hs4, hk⟩
  have hlb : w3.heap.size < w4.heap.size := by have := hk.size; have := ra.lt; omega
  replace p1 := (p1.keep hk trivial).alloc (.cells #[.slice a4 os.length c4] 24)
  replace p2 := (p2.keep hk trivial).alloc (.cells #[.slice a4 os.length c4] 24)
  replace ra := (ra.keep hk trivial).alloc (.cells #[.slice a4 os.length c4] 24)
  have hka : Keeps All w4 (w4.alloc (.cells #[.slice a4 os.length c4] 24)) := (Keeps.refl _ _).alloc _
  have rb : IsRow (w4.alloc (.cells #[.slice a4 os.length c4] 24)) w4.heap.size 24 [.slice a4 os.length c4] := IsRow.new _ _ _
  replace hs3 := hs3.keep (hk.trans hka) fun _ _ h => h
  replace hs4 := hs4.keep hka fun _ _ h => h
  have F : Fm w _ _ _ _ _ _ _ := ⟨p1, p2, (hkw.trans hk).trans hka, hla, hlb, ra, rb⟩
  clear p1 p2 hkw hka hk hla hlb m
  obtain ⟨d1, _⟩ := ra.one
  obtain ⟨d2, _⟩ := rb.one
  have hc := rEqual_c os os _ _ _ ⟨_, rfl, hs3⟩ ⟨_, rfl, hs4⟩
  clear ra rb hs3 hs4
  gi_wp2
  refine ⟨trivial, ?_⟩
  refine (callsIn_wide.2 hc).mono ?_
  clear hc d1 d2
  rintro e w5 ⟨rfl, hk⟩
  replace F := F.on hk
  clear hk
  generalize w3.heap.size = na at F ⊢
  generalize w4.heap.size = nb at F ⊢
  simp only [decide_true]
  obtain ⟨d1, _⟩ := F.1.one
  have hc := (Hh.out _ _ (Hp.out _ F.2.2.1) (Htb.out _ F.2.2.1)).1
  gi_wp2
  refine ⟨trivial, ?_⟩
  refine (callsIn_wide.2 hc).mono ?_
  clear hc d1
  rintro e w6 ⟨a6, c6, rfl, hsA, hk⟩
  replace F := F.on hk
  obtain ⟨d2, d3⟩ := F.2.2.2.2.2.1.one
  obtain ⟨d4, _⟩ := F.1.one
  have hn1 : w.heap.size ≠ na := by have := F.2.2.2.1; omega
  have hn2 : w.heap.size + 1 ≠ na := by have := F.2.2.2.1; omega
  replace hsA := hsA.put F.2.2.2.2.2.1 (.slice a6 hs.length c6)
  replace F := F.seta (.slice a6 hs.length c6)
  obtain ⟨d1, _⟩ := F.1.one
  have hc := (Hh.out _ _ (Hp.out _ F.2.2.1) (Htb.out _ F.2.2.1)).2
  clear hk
  gi_wp2
  refine ⟨trivial, ?_⟩
  refine (callsIn_wide.2 hc).mono ?_
  clear hc d1 d2 d3 d4
  rintro e w7 ⟨a7, c7, rfl, hsB, hk⟩
  replace F := F.on hk
  replace hsA := hsA.keep hk fun _ _ h => h
  obtain ⟨d2, d3⟩ := F.2.2.2.2.2.2.one
  obtain ⟨d4, _⟩ := F.2.2.2.2.2.1.one
  have hn3 : na ≠ nb := by have := F.2.2.2.2.1; omega
  replace hsA := hsA.put F.2.2.2.2.2.2 (.slice a7 hs.length c7)
  replace hsB := hsB.put F.2.2.2.2.2.2 (.slice a7 hs.length c7)
  replace F := F.setb (.slice a7 hs.length c7)
  obtain ⟨d5, _⟩ := F.2.2.2.2.2.1.one
  obtain ⟨d6, _⟩ := F.2.2.2.2.2.2.one
  have hc := rEqual_c hs hs _ _ _ ⟨_, rfl, hsA⟩ ⟨_, rfl, hsB⟩
  clear hk hsA hsB
  gi_wp2
  refine ⟨trivial, ?_⟩
  refine (callsIn_wide.2 hc).mono ?_
  clear hc d2 d3 d4 d5 d6 hn1 hn2 hn3
  rintro e w8 ⟨rfl, hk⟩
  replace F := F.on hk
  clear hk
  simp only [decide_true]
  obtain ⟨d1, _⟩ := F.1.one
  have hc := (Hx.out _ _ (Hp.out _ F.2.2.1)).1
  gi_wp2
  refine ⟨trivial, ?_⟩
  refine (callsIn_wide.2 hc).mono ?_
  clear hc d1
  rintro e w9 ⟨a9, c9, rfl, hsA, hk⟩
  replace F := F.on hk
  obtain ⟨d2, d3⟩ := F.2.2.2.2.2.1.one
  obtain ⟨d4, _⟩ := F.1.one
  have hn1 : w.heap.size ≠ na := by have := F.2.2.2.1; omega
  have hn2 : w.heap.size + 1 ≠ na := by have := F.2.2.2.1; omega
  replace hsA := hsA.put F.2.2.2.2.2.1 (.slice a9 xs.length c9)
  replace F := F.seta (.slice a9 xs.length c9)
  obtain ⟨d1, _⟩ := F.1.one
  have hc := (Hx.out _ _ (Hp.out _ F.2.2.1)).2
  clear hk
  gi_wp2
  refine ⟨trivial, ?_⟩
  refine (callsIn_wide.2 hc).mono ?_
  clear hc d1 d2 d3 d4
  rintro e w10 ⟨a10, c10, rfl, hsB, hk⟩
  replace F := F.on hk
  replace hsA := hsA.keep hk fun _ _ h => h
  obtain ⟨d2, d3⟩ := F.2.2.2.2.2.2.one
  obtain ⟨d4, _⟩ := F.2.2.2.2.2.1.one
  have hn3 : na ≠ nb := by have := F.2.2.2.2.1; omega
  replace hsA := hsA.put F.2.2.2.2.2.2 (.slice a10 xs.length c10)
  replace hsB := hsB.put F.2.2.2.2.2.2 (.slice a10 xs.length c10)
  replace F := F.setb (.slice a10 xs.length c10)
  obtain ⟨d5, _⟩ := F.2.2.2.2.2.1.one
  obtain ⟨d6, _⟩ := F.2.2.2.2.2.2.one
  have hc := rEqual_c xs xs _ _ _ ⟨_, rfl, hsA⟩ ⟨_, rfl, hsB⟩
  clear hk hsA hsB
  gi_wp2
  refine ⟨trivial, ?_⟩
  refine (callsIn_wide.2 hc).mono ?_
  clear hc d2 d3 d4 d5 d6 hn1 hn2 hn3
  rintro e w11 ⟨rfl, hk⟩
  replace F := F.on hk
  clear hk
  simp only [decide_true]
  obtain ⟨d1, _⟩ := F.1.one
  obtain ⟨g1, _⟩ := F.2.1.one
  have hc := (Hg.out _ _ _ (Hp.out _ F.2.2.1) (Hq.out _ F.2.2.1) (Htb.out _ F.2.2.1)).1
  gi_wp2
  refine ⟨trivial, ?_⟩
  refine (callsIn_wide.2 hc).mono ?_
  clear hc d1 g1
  rintro e w12 ⟨a12, c12, rfl, hsA, hk⟩
  replace F := F.on hk
  obtain ⟨d2, d3⟩ := F.2.2.2.2.2.1.one
  obtain ⟨d4, _⟩ := F.1.one
  have hn1 : w.heap.size ≠ na := by have := F.2.2.2.1; omega
  have hn2 : w.heap.size + 1 ≠ na := by have := F.2.2.2.1; omega
  obtain ⟨g4, _⟩ := F.2.1.one
  replace hsA := hsA.put F.2.2.2.2.2.1 (.slice a12 gs.length c12)
  replace F := F.seta (.slice a12 gs.length c12)
  obtain ⟨d1, _⟩ := F.1.one
  obtain ⟨g1, _⟩ := F.2.1.one
  have hc := (Hg.out _ _ _ (Hp.out _ F.2.2.1) (Hq.out _ F.2.2.1) (Htb.out _ F.2.2.1)).2
  clear hk
  gi_wp2
  refine ⟨trivial, ?_⟩
  refine (callsIn_wide.2 hc).mono ?_
  clear hc d1 d2 d3 d4 g1 g4
  rintro e w13 ⟨a13, c13, rfl, hsB, hk⟩
  replace F := F.on hk
  replace hsA := hsA.keep hk fun _ _ h => h
  obtain ⟨d2, d3⟩ := F.2.2.2.2.2.2.one
  obtain ⟨d4, _⟩ := F.2.2.2.2.2.1.one
  have hn3 : na ≠ nb := by have := F.2.2.2.2.1; omega
  replace hsA := hsA.put F.2.2.2.2.2.2 (.slice a13 gs.length c13)
  replace hsB := hsB.put F.2.2.2.2.2.2 (.slice a13 gs.length c13)
  replace F := F.setb (.slice a13 gs.length c13)
  obtain ⟨d5, _⟩ := F.2.2.2.2.2.1.one
  obtain ⟨d6, _⟩ := F.2.2.2.2.2.2.one
  have hc := rEqual_c gs gs _ _ _ ⟨_, rfl, hsA⟩ ⟨_, rfl, hsB⟩
  clear hk hsA hsB
  gi_wp2
  refine ⟨trivial, ?_⟩
  refine (callsIn_wide.2 hc).mono ?_
  clear hc d2 d3 d4 d5 d6 hn1 hn2 hn3
  rintro e w14 ⟨rfl, hk⟩
  replace F := F.on hk
  clear hk
  simp only [decide_true]
  obtain ⟨d1, _⟩ := F.1.one
  have hc := (Hz.out _ _ (Hp.out _ F.2.2.1)).1
  gi_wp2
  refine ⟨trivial, ?_⟩
  refine (callsIn_wide.2 hc).mono ?_
  clear hc d1
  rintro e w15 ⟨rfl, hk⟩
  replace F := F.on hk
  obtain ⟨d1, _⟩ := F.1.one
  have hc := (Hz.out _ _ (Hp.out _ F.2.2.1)).2
  clear hk
  gi_wp2
  refine ⟨trivial, ?_⟩
  refine (callsIn_wide.2 hc).mono ?_
  clear hc d1
  rintro e w16 ⟨rfl, hk⟩
  replace F := F.on hk
  clear hk
  have hsm1 : ∀ W, Keeps All w W → Calls Tryd.prog 11 #[.agg #[.slice a ss.length c], .agg #[.slice a2 ts.length c2]] W fun e w' => e = .returned (.bool (sameM ss ts)) ∧ Keeps All W w' := fun W h => Same_c ss ts _ _ W (Hp.out _ h) (Hq.out _ h) (Htb.out _ h)
  have hsm2 : ∀ W, Keeps All w W → Calls Tryd.prog 23 #[.agg #[.slice a ss.length c], .agg #[.slice a2 ts.length c2]] W fun e w' => e = .returned (.bool (sameM ss ts)) ∧ Keeps All W w' := fun W h => rSame_c ss ts _ _ W (Hp.out _ h) (Hq.out _ h)
  generalize sameM ss ts = sm at hsm1 hsm2
  have Hs1 := hid hsm1
  have Hs2 := hid hsm2
  clear hsm1 hsm2
  gi_wp2
  refine wpIn_region_inv (FmReg (.agg #[.slice a ss.length c]) (.agg #[.slice a2 ts.length c2]) zn zt ze sm ns) mixed (by kernel_rfl) ?start ⟨?o0, ?o1, ?o2, ?o3, ?o4, ?o5, ?o6, ?o7, ?o8, ?o9, ?o10, ?o11, ?o12, ?o13, ?o14, ?o15, ?o16, ?o17, ?o18, ?o19, ?o20, ?o21, ?o22, ?o23, ?o24, ?o25, ?o26, ?o27, ?o28, ?o29, ?o30, ?o31, ?o32, trivial⟩ ?fin
  case start =>
    refine ⟨undef, undef, by simp only [sIs_nil, sIs_cons, sI_false], (Keeps.refl _ _).drew, ?_, ?_⟩
    all_goals (intro h; cases h)
  case o0 =>
    rintro b' a' w' hb hd ⟨v1, v2, hA, hk, hv1, hv2⟩
    simp only [sIs_nil, sIs_cons, sI_lit, lset_zero, lset_succ] at hA
    subst hA
    gi_wp2
    refine ⟨v1, v2, by simp [sIs_nil, sIs_cons, sI_lit, lset_zero, lset_succ, mark], hk, ?_, ?_⟩
    all_goals (simp only [mark, if_false, Nat.reduceEqDiff]; assumption)
  case o1 =>
    rintro b' a' w' hb hd ⟨v1, v2, hA, hk, hv1, hv2⟩
    simp only [sIs_nil, sIs_cons, sI_lit, lset_zero, lset_succ] at hA
    subst hA
    gi_wp2
    refine ⟨v1, v2, by simp [sIs_nil, sIs_cons, sI_lit, lset_zero, lset_succ, mark], hk, ?_, ?_⟩
    all_goals (simp only [mark, if_false, Nat.reduceEqDiff]; assumption)
  case o2 =>
    rintro b' a' w' hb hd ⟨v1, v2, hA, hk, hv1, hv2⟩
    simp [Region.binds] at hd
    simp only [sIs_nil, sIs_cons, sI_lit, lset_zero, lset_succ, hd, cond_true] at hA
    subst hA
    gi_wp2
    refine ⟨v1, v2, by simp [sIs_nil, sIs_cons, sI_lit, lset_zero, lset_succ, mark, hd], hk, ?_, ?_⟩
    all_goals (simp only [mark, if_false, Nat.reduceEqDiff]; assumption)
  case o3 =>
    rintro b' a' w' hb hd ⟨v1, v2, hA, hk, hv1, hv2⟩
    simp [Region.binds] at hd
    simp only [sIs_nil, sIs_cons, sI_lit, lset_zero, lset_succ, hd, cond_true] at hA
    subst hA
    gi_wp2
    refine ⟨v1, v2, by simp [sIs_nil, sIs_cons, sI_lit, lset_zero, lset_succ, mark, hd], hk, ?_, ?_⟩
    all_goals (simp only [mark, if_false, Nat.reduceEqDiff]; assumption)
  case o4 =>
    rintro b' a' w' hb hd ⟨v1, v2, hA, hk, hv1, hv2⟩
    simp [Region.binds] at hd
    simp only [sIs_nil, sIs_cons, sI_lit, lset_zero, lset_succ, hd, cond_true] at hA
    subst hA
    gi_wp2
    refine ⟨v1, v2, by simp [sIs_nil, sIs_cons, sI_lit, lset_zero, lset_succ, mark, hd], hk, ?_, ?_⟩
    all_goals (simp only [mark, if_false, Nat.reduceEqDiff]; assumption)
  case o5 =>
    rintro b' a' w' hb hd ⟨v1, v2, hA, hk, hv1, hv2⟩
    simp [Region.binds] at hd
    simp only [sIs_nil, sIs_cons, sI_lit, lset_zero, lset_succ, hd, cond_true] at hA
    subst hA
    gi_wp2
    refine ⟨v1, v2, by simp [sIs_nil, sIs_cons, sI_lit, lset_zero, lset_succ, mark, hd], hk, ?_, ?_⟩
    all_goals (simp only [mark, if_false, Nat.reduceEqDiff]; assumption)
  case o6 =>
    rintro b' a' w' hb hd ⟨v1, v2, hA, hk, hv1, hv2⟩
    simp [Region.binds] at hd
    simp only [sIs_nil, sIs_cons, sI_lit, lset_zero, lset_succ, hd, cond_true] at hA
    subst hA
    gi_wp2
    refine ⟨v1, v2, by simp [sIs_nil, sIs_cons, sI_lit, lset_zero, lset_succ, mark, hd], hk, ?_, ?_⟩
    all_goals (simp only [mark, if_false, Nat.reduceEqDiff]; assumption)
  case o7 =>
    rintro b' a' w' hb hd ⟨v1, v2, hA, hk, hv1, hv2⟩
    simp [Region.binds] at hd
    simp only [sIs_nil, sIs_cons, sI_lit, lset_zero, lset_succ, hd, cond_true] at hA
    subst hA
    gi_wp2
    refine ⟨v1, v2, by simp [sIs_nil, sIs_cons, sI_lit, lset_zero, lset_succ, mark, hd], hk, ?_, ?_⟩
    all_goals (simp only [mark, if_false, Nat.reduceEqDiff]; assumption)
  case o8 =>
    rintro b' a' w' hb hd ⟨v1, v2, hA, hk, hv1, hv2⟩
    simp [Region.binds] at hd
    simp only [sIs_nil, sIs_cons, sI_lit, lset_zero, lset_succ, hd, cond_true] at hA
    subst hA
    gi_wp2
    refine ⟨v1, v2, by simp [sIs_nil, sIs_cons, sI_lit, lset_zero, lset_succ, mark, hd], hk, ?_, ?_⟩
    all_goals (simp only [mark, if_false, Nat.reduceEqDiff]; assumption)
  case o9 =>
    rintro b' a' w' hb hd ⟨v1, v2, hA, hk, hv1, hv2⟩
    simp [Region.binds] at hd
    simp only [sIs_nil, sIs_cons, sI_lit, lset_zero, lset_succ, hd, cond_true] at hA
    subst hA
    gi_wp2
    refine ⟨v1, v2, by simp [sIs_nil, sIs_cons, sI_lit, lset_zero, lset_succ, mark, hd], hk, ?_, ?_⟩
    all_goals (simp only [mark, if_false, Nat.reduceEqDiff]; assumption)
  case o10 =>
    rintro b' a' w' hb hd ⟨v1, v2, hA, hk, hv1, hv2⟩
    simp [Region.binds] at hd
    simp only [sIs_nil, sIs_cons, sI_lit, lset_zero, lset_succ, hd, cond_true] at hA
    subst hA
    gi_wp2
    refine ⟨v1, v2, by simp [sIs_nil, sIs_cons, sI_lit, lset_zero, lset_succ, mark, hd], hk, ?_, ?_⟩
    all_goals (simp only [mark, if_false, Nat.reduceEqDiff]; assumption)
  case o11 =>
    rintro b' a' w' hb hd ⟨v1, v2, hA, hk, hv1, hv2⟩
    simp [Region.binds] at hd
    simp only [sIs_nil, sIs_cons, sI_lit, lset_zero, lset_succ, hd, cond_true] at hA
    subst hA
    gi_wp2
    refine ⟨v1, v2, by simp [sIs_nil, sIs_cons, sI_lit, lset_zero, lset_succ, mark, hd], hk, ?_, ?_⟩
    all_goals (simp only [mark, if_false, Nat.reduceEqDiff]; assumption)
  case o12 =>
    rintro b' a' w' hb hd ⟨v1, v2, hA, hk, hv1, hv2⟩
    simp [Region.binds] at hd
    simp only [sIs_nil, sIs_cons, sI_lit, lset_zero, lset_succ, hd, cond_true] at hA
    subst hA
    gi_wp2
    refine ⟨v1, v2, by simp [sIs_nil, sIs_cons, sI_lit, lset_zero, lset_succ, mark, hd], hk, ?_, ?_⟩
    all_goals (simp only [mark, if_false, Nat.reduceEqDiff]; assumption)
  case o13 =>
    rintro b' a' w' hb hd ⟨v1, v2, hA, hk, hv1, hv2⟩
    simp [Region.binds] at hd
    simp only [sIs_nil, sIs_cons, sI_lit, lset_zero, lset_succ, hd, cond_true] at hA
    subst hA
    gi_wp2
    refine ⟨v1, v2, by simp [sIs_nil, sIs_cons, sI_lit, lset_zero, lset_succ, mark, hd], hk, ?_, ?_⟩
    all_goals (simp only [mark, if_false, Nat.reduceEqDiff]; assumption)
  case o14 =>
    rintro b' a' w' hb hd ⟨v1, v2, hA, hk, hv1, hv2⟩
    simp [Region.binds] at hd
    have g0 : w'.cell? ⟨w.heap.size, 0, none⟩ = some (.slice a ss.length c) := (F.on hk).1.cell 0
    simp only [sIs_nil, sIs_cons, sI_lit, lset_zero, lset_succ, hd, cond_true] at hA
    subst hA
    gi_wp2
    refine ⟨v1, v2, by simp [sIs_nil, sIs_cons, sI_lit, lset_zero, lset_succ, mark, hd], hk, ?_, ?_⟩
    all_goals (simp only [mark, if_false, Nat.reduceEqDiff]; assumption)
  case o15 =>
    rintro b' a' w' hb hd ⟨v1, v2, hA, hk, hv1, hv2⟩
    simp [Region.binds] at hd
    have g0 : w'.cell? ⟨w.heap.size + 1, 0, none⟩ = some (.slice a2 ts.length c2) := (F.on hk).2.1.cell 0
    simp only [sIs_nil, sIs_cons, sI_lit, lset_zero, lset_succ, hd, cond_true] at hA
    subst hA
    gi_wp2
    refine ⟨v1, v2, by simp [sIs_nil, sIs_cons, sI_lit, lset_zero, lset_succ, mark, hd], hk, ?_, ?_⟩
    all_goals (simp only [mark, if_false, Nat.reduceEqDiff]; assumption)
  case o16 =>
    rintro b' a' w' hb hd ⟨v1, v2, hA, hk, hv1, hv2⟩
    simp [Region.binds] at hd
    have hcall := Hs1.out w' (F.on hk).2.2.1
    simp only [sIs_nil, sIs_cons, sI_lit, lset_zero, lset_succ, hd, cond_true] at hA
    subst hA
    gi_wp2
    refine ⟨trivial, ?_⟩
    refine (callsIn_wide.2 hcall).mono ?_
    clear hcall
    rintro e w3 ⟨rfl, hk3⟩
    gi_wp2
    refine ⟨v1, v2, by simp [sIs_nil, sIs_cons, sI_lit, lset_zero, lset_succ, mark, hd], hk.trans hk3, ?_, ?_⟩
    · intro h; exact (hv1 (by simpa [mark] using h)).keep hk3 fun _ _ h => h
    · intro h; exact (hv2 (by simpa [mark] using h)).keep hk3 fun _ _ h => h
  case o17 =>
    rintro b' a' w' hb hd ⟨v1, v2, hA, hk, hv1, hv2⟩
    simp [Region.binds] at hd
    have g0 : w'.cell? ⟨w.heap.size, 0, none⟩ = some (.slice a ss.length c) := (F.on hk).1.cell 0
    simp only [sIs_nil, sIs_cons, sI_lit, lset_zero, lset_succ, hd, cond_true] at hA
    subst hA
    gi_wp2
    refine ⟨v1, v2, by simp [sIs_nil, sIs_cons, sI_lit, lset_zero, lset_succ, mark, hd], hk, ?_, ?_⟩
    all_goals (simp only [mark, if_false, Nat.reduceEqDiff]; assumption)
  case o18 =>
    rintro b' a' w' hb hd ⟨v1, v2, hA, hk, hv1, hv2⟩
    simp [Region.binds] at hd
    have g0 : w'.cell? ⟨w.heap.size + 1, 0, none⟩ = some (.slice a2 ts.length c2) := (F.on hk).2.1.cell 0
    simp only [sIs_nil, sIs_cons, sI_lit, lset_zero, lset_succ, hd, cond_true] at hA
    subst hA
    gi_wp2
    refine ⟨v1, v2, by simp [sIs_nil, sIs_cons, sI_lit, lset_zero, lset_succ, mark, hd], hk, ?_, ?_⟩
    all_goals (simp only [mark, if_false, Nat.reduceEqDiff]; assumption)
  case o19 =>
    rintro b' a' w' hb hd ⟨v1, v2, hA, hk, hv1, hv2⟩
    simp [Region.binds] at hd
    have hcall := Hs2.out w' (F.on hk).2.2.1
    simp only [sIs_nil, sIs_cons, sI_lit, lset_zero, lset_succ, hd, cond_true] at hA
    subst hA
    gi_wp2
    refine ⟨trivial, ?_⟩
    refine (callsIn_wide.2 hcall).mono ?_
    clear hcall
    rintro e w3 ⟨rfl, hk3⟩
    gi_wp2
    refine ⟨v1, v2, by simp [sIs_nil, sIs_cons, sI_lit, lset_zero, lset_succ, mark, hd], hk.trans hk3, ?_, ?_⟩
    · intro h; exact (hv1 (by simpa [mark] using h)).keep hk3 fun _ _ h => h
    · intro h; exact (hv2 (by simpa [mark] using h)).keep hk3 fun _ _ h => h
  case o20 =>
    rintro b' a' w' hb hd ⟨v1, v2, hA, hk, hv1, hv2⟩
    simp [Region.binds] at hd
    simp only [sIs_nil, sIs_cons, sI_lit, lset_zero, lset_succ, hd, cond_true] at hA
    subst hA
    gi_wp2
    refine ⟨v1, v2, by simp [sIs_nil, sIs_cons, sI_lit, lset_zero, lset_succ, mark, hd], hk, ?_, ?_⟩
    all_goals (simp only [mark, if_false, Nat.reduceEqDiff]; assumption)
  case o21 =>
    rintro b' a' w' hb hd ⟨v1, v2, hA, hk, hv1, hv2⟩
    simp [Region.binds] at hd
    simp only [sIs_nil, sIs_cons, sI_lit, lset_zero, lset_succ, hd, cond_true] at hA
    subst hA
    gi_wp2
    refine ⟨v1, v2, by simp [sIs_nil, sIs_cons, sI_lit, lset_zero, lset_succ, mark, hd], hk, ?_, ?_⟩
    all_goals (simp only [mark, if_false, Nat.reduceEqDiff]; assumption)
  case o22 =>
    rintro b' a' w' hb hd ⟨v1, v2, hA, hk, hv1, hv2⟩
    simp [Region.binds] at hd
    simp only [sIs_nil, sIs_cons, sI_lit, lset_zero, lset_succ, hd, cond_true] at hA
    subst hA
    gi_wp2
    refine ⟨v1, v2, by simp [sIs_nil, sIs_cons, sI_lit, lset_zero, lset_succ, mark, hd], hk, ?_, ?_⟩
    all_goals (simp only [mark, if_false, Nat.reduceEqDiff]; assumption)
  case o23 =>
    rintro b' a' w' hb hd ⟨v1, v2, hA, hk, hv1, hv2⟩
    simp [Region.binds] at hd
    have g0 : w'.cell? ⟨w.heap.size, 0, none⟩ = some (.slice a ss.length c) := (F.on hk).1.cell 0
    simp only [sIs_nil, sIs_cons, sI_lit, lset_zero, lset_succ, hd, cond_true] at hA
    subst hA
    gi_wp2
    refine ⟨v1, v2, by simp [sIs_nil, sIs_cons, sI_lit, lset_zero, lset_succ, mark, hd], hk, ?_, ?_⟩
    all_goals (simp only [mark, if_false, Nat.reduceEqDiff]; assumption)
  case o24 =>
    rintro b' a' w' hb hd ⟨v1, v2, hA, hk, hv1, hv2⟩
    simp [Region.binds] at hd
    have hcall := (Hn.out _ w' (Hp.out _ (F.on hk).2.2.1)).1
    simp only [sIs_nil, sIs_cons, sI_lit, lset_zero, lset_succ, hd, cond_true] at hA
    subst hA
    gi_wp2
    refine ⟨trivial, ?_⟩
    refine (callsIn_wide.2 hcall).mono ?_
    clear hcall
    rintro e w3 ⟨v1', rfl, hs', hk3⟩
    gi_wp2
    refine ⟨v1', v2, by simp [sIs_nil, sIs_cons, sI_lit, lset_zero, lset_succ, mark, hd], hk.trans hk3, fun _ => hs', ?_⟩
    · intro h; exact (hv2 (by simpa [mark] using h)).keep hk3 fun _ _ h => h
  case o25 =>
    rintro b' a' w' hb hd ⟨v1, v2, hA, hk, hv1, hv2⟩
    simp [Region.binds] at hd
    have g0 : w'.cell? ⟨w.heap.size, 0, none⟩ = some (.slice a ss.length c) := (F.on hk).1.cell 0
    simp only [sIs_nil, sIs_cons, sI_lit, lset_zero, lset_succ, hd, cond_true] at hA
    subst hA
    gi_wp2
    refine ⟨v1, v2, by simp [sIs_nil, sIs_cons, sI_lit, lset_zero, lset_succ, mark, hd], hk, ?_, ?_⟩
    all_goals (simp only [mark, if_false, Nat.reduceEqDiff]; assumption)
  case o26 =>
    rintro b' a' w' hb hd ⟨v1, v2, hA, hk, hv1, hv2⟩
    simp [Region.binds] at hd
    have hcall := (Hn.out _ w' (Hp.out _ (F.on hk).2.2.1)).2
    simp only [sIs_nil, sIs_cons, sI_lit, lset_zero, lset_succ, hd, cond_true] at hA
    subst hA
    gi_wp2
    refine ⟨trivial, ?_⟩
    refine (callsIn_wide.2 hcall).mono ?_
    clear hcall
    rintro e w3 ⟨v2', rfl, hs', hk3⟩
    gi_wp2
    refine ⟨v1, v2', by simp [sIs_nil, sIs_cons, sI_lit, lset_zero, lset_succ, mark, hd], hk.trans hk3, ?_, fun _ => hs'⟩
    · intro h; exact (hv1 (by simpa [mark] using h)).keep hk3 fun _ _ h => h
  case o27 =>
    rintro b' a' w' hb hd ⟨v1, v2, hA, hk, hv1, hv2⟩
    have e24 : b' 24 = true := hd { on := 24, ground := Ground.data } (by simp) rfl
    have e26 : b' 26 = true := hd { on := 26, ground := Ground.data } (by simp) rfl
    simp [Region.binds] at hd
    have hcall := EqualStr_c ns v1 v2 w' (hv1 e24) (hv2 e26)
    simp only [sIs_nil, sIs_cons, sI_lit, lset_zero, lset_succ, hd, cond_true] at hA
    subst hA
    gi_wp2
    refine ⟨trivial, ?_⟩
    refine (callsIn_wide.2 hcall).mono ?_
    clear hcall
    rintro e w3 ⟨rfl, hk3⟩
    gi_wp2
    refine ⟨v1, v2, by simp [sIs_nil, sIs_cons, sI_lit, lset_zero, lset_succ, mark, hd], hk.trans hk3, ?_, ?_⟩
    · intro h; exact (hv1 (by simpa [mark] using h)).keep hk3 fun _ _ h => h
    · intro h; exact (hv2 (by simpa [mark] using h)).keep hk3 fun _ _ h => h
  case o28 =>
    rintro b' a' w' hb hd ⟨v1, v2, hA, hk, hv1, hv2⟩
    simp [Region.binds] at hd
    simp only [sIs_nil, sIs_cons, sI_lit, lset_zero, lset_succ, hd, cond_true] at hA
    subst hA
    gi_wp2
    refine ⟨v1, v2, by simp [sIs_nil, sIs_cons, sI_lit, lset_zero, lset_succ, mark, hd], hk, ?_, ?_⟩
    all_goals (simp only [mark, if_false, Nat.reduceEqDiff]; assumption)
  case o29 =>
    rintro b' a' w' hb hd ⟨v1, v2, hA, hk, hv1, hv2⟩
    simp [Region.binds] at hd
    simp only [sIs_nil, sIs_cons, sI_lit, lset_zero, lset_succ, hd, cond_true] at hA
    subst hA
    gi_wp2
    refine ⟨v1, v2, by simp [sIs_nil, sIs_cons, sI_lit, lset_zero, lset_succ, mark, hd], hk, ?_, ?_⟩
    all_goals (simp only [mark, if_false, Nat.reduceEqDiff]; assumption)
  case o30 =>
    rintro b' a' w' hb hd ⟨v1, v2, hA, hk, hv1, hv2⟩
    simp [Region.binds] at hd
    have hcall := awake_c w' (Htb.out _ (F.on hk).2.2.1)
    simp only [sIs_nil, sIs_cons, sI_lit, lset_zero, lset_succ, hd, cond_true] at hA
    subst hA
    gi_wp2
    refine ⟨trivial, ?_⟩
    refine (callsIn_wide.2 hcall).mono ?_
    clear hcall
    rintro e w3 ⟨rfl, hk3⟩
    gi_wp2
    refine ⟨v1, v2, by simp [sIs_nil, sIs_cons, sI_lit, lset_zero, lset_succ, mark, hd], hk.trans hk3, ?_, ?_⟩
    · intro h; exact (hv1 (by simpa [mark] using h)).keep hk3 fun _ _ h => h
    · intro h; exact (hv2 (by simpa [mark] using h)).keep hk3 fun _ _ h => h
  case o31 =>
    rintro b' a' w' hb hd ⟨v1, v2, hA, hk, hv1, hv2⟩
    simp [Region.binds] at hd
    simp only [sIs_nil, sIs_cons, sI_lit, lset_zero, lset_succ, hd, cond_true] at hA
    subst hA
    gi_wp2
    refine ⟨v1, v2, by simp [sIs_nil, sIs_cons, sI_lit, lset_zero, lset_succ, mark, hd], hk, ?_, ?_⟩
    all_goals (simp only [mark, if_false, Nat.reduceEqDiff]; assumption)
  case o32 =>
    rintro b' a' w' hb hd ⟨v1, v2, hA, hk, hv1, hv2⟩
    simp [Region.binds] at hd
    simp only [sIs_nil, sIs_cons, sI_lit, lset_zero, lset_succ, hd, cond_true] at hA
    subst hA
    gi_wp2
    refine ⟨v1, v2, by simp [sIs_nil, sIs_cons, sI_lit, lset_zero, lset_succ, mark, hd], hk, ?_, ?_⟩
    all_goals (simp only [mark, if_false, Nat.reduceEqDiff]; assumption)
  case fin =>
    rintro b' a' w' hb ⟨v1, v2, rfl, hk, -, -⟩
    have e0 := hb 0 (by decide)
    have e1 := hb 1 (by decide)
    have e2 := hb 2 (by decide)
    have e3 := hb 3 (by decide)
    have e4 := hb 4 (by decide)
    have e5 := hb 5 (by decide)
    have e6 := hb 6 (by decide)
    have e7 := hb 7 (by decide)
    have e8 := hb 8 (by decide)
    have e9 := hb 9 (by decide)
    have e10 := hb 10 (by decide)
    have e11 := hb 11 (by decide)
    have e12 := hb 12 (by decide)
    have e13 := hb 13 (by decide)
    have e14 := hb 14 (by decide)
    have e15 := hb 15 (by decide)
    have e16 := hb 16 (by decide)
    have e17 := hb 17 (by decide)
    have e18 := hb 18 (by decide)
    have e19 := hb 19 (by decide)
    have e20 := hb 20 (by decide)
    have e21 := hb 21 (by decide)
    have e22 := hb 22 (by decide)
    have e23 := hb 23 (by decide)
    have e24 := hb 24 (by decide)
    have e25 := hb 25 (by decide)
    have e26 := hb 26 (by decide)
    have e27 := hb 27 (by decide)
    have e28 := hb 28 (by decide)
    have e29 := hb 29 (by decide)
    have e30 := hb 30 (by decide)
    have e31 := hb 31 (by decide)
    have e32 := hb 32 (by decide)
    clear hb
    simp only [sIs_nil, sIs_cons, sI_lit, lset_zero, lset_succ, e0, e1, e2, e3, e4, e5, e6, e7, e8, e9, e10, e11, e12, e13, e14, e15, e16, e17, e18, e19, e20, e21, e22, e23, e24, e25, e26, e27, e28, e29, e30, e31, e32, cond_true]
    clear e0 e1 e2 e3 e4 e5 e6 e7 e8 e9 e10 e11 e12 e13 e14 e15 e16 e17 e18 e19 e20 e21 e22 e23 e24 e25 e26 e27 e28 e29 e30 e31 e32
    have hkw := (F.on hk).2.2.1
    gi_wp2
    exact bodyPost_ret (v := .bool true) (by simp [results, Tryd.results5, go_sem]) rfl ⟨rfl, hkw⟩

theorem GraphForms_c (ss ts : List Stp) (va vb : Value) (most at_ : Int) (w : World) (h1 : IsSteps All w va ss) (h2 : IsSteps All w vb ts) (htab : Tab w) (hm : most ≤ 9223372036854775807) :
    Calls Tryd.prog 5 #[.agg #[va], .agg #[vb], .int .i64 most, .int .i64 at_] w fun e w' => e = .returned (.bool true) ∧ Keeps All w w' := by
  cases f1 : fewM ss 150 with
  | true =>
    cases f2 : fewM ts 150 with
    | true => exact GraphForms_c1 ss ts va vb most at_ w h1 h2 htab hm f1 f2
    | false => exact GraphForms_m2 ss ts va vb most at_ w h1 h2 htab f1 f2
  | false =>
    by_cases hs : ss.length ≤ 2000
    · exact GraphForms_m1 ss ts va vb most at_ w h1 h2 htab f1 hs
    · cases f2 : fewM ts 150 with
      | false => exact GraphForms_m3 ss ts va vb most at_ w h1 h2 htab f1 (by omega) f2
      | true =>
        by_cases hs2 : ss.length ≤ 6000
        · exact GraphForms_c2 ss ts va vb most at_ w h1 h2 htab hm f1 (by omega) hs2 f2
        · exact GraphForms_m4 ss ts va vb most at_ w h1 h2 htab f1 (by omega) f2

end Go.Proofs.YtcbmljfgmeeadaaDoor
