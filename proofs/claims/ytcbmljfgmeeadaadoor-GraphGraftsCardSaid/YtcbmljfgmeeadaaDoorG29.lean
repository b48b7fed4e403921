/-
  CONTRACT: GraphGrafts, where Share refuses.
-/
import Derived.Test.YtcbmljfgmeeadaaDoorG28
namespace Go.Proofs.YtcbmljfgmeeadaaDoor
open Go.RowKit Go.Shelf

attribute [local go_sem] Oper.semAt_some

theorem GraphGrafts_bad (ss ts : List Stp) (va vb : Value) (x : Nat) (w : World) (h1 : IsSteps All w va ss) (h2 : IsSteps All w vb ts) (htab : Tab w) (hx : x < 256) (hf1 : fewM ss 60 = true) (hf2 : fewM ts 60 = true) (hne : ss ≠ []) (hbad : formM ss ≠ 0) :
    Calls Tryd.prog 4 #[.agg #[va], .agg #[vb], .int .u8 (x : Int)] w fun e w' => e = .returned (.bool true) ∧ Keeps All w w' := by
  have m := gg_start ss ts va vb w h1 h2 htab
  obtain ⟨a, c, rfl⟩ := h1.form
  obtain ⟨a2, c2, rfl⟩ := h2.form
  have hl := few_len hf1
  have hl1 : 1 ≤ ss.length := by cases ss with | nil => exact absurd rfl hne | cons _ _ => simp
  have hn0 : ((ss.length : Int) == 0) = false := by simp; omega
  have Hbad := hid hbad
  have hfew := Few_c ss 60 _ _ m.now.2.2.1
  rw [hf1] at hfew
  clear h1 h2 htab hf1 hne hbad
  go_enter Tryd.func4, Tryd.ntmps4
  go_wp2_with (go_at_call 6; refine Hid.out ?_)
  refine hid ?_
  refine hfew.mono ?_
  clear hfew
  rintro e w1 ⟨rfl, hk1⟩
  have m1 := m.on hk1
  obtain ⟨p1, p2, _⟩ := m1.now
  obtain ⟨d1, _⟩ := p2.one
  have hfew := Few_c ts 60 _ _ m1.now.2.2.2.1
  rw [hf2] at hfew
  clear p1 p2 hf2
  go_wp2_with (go_at_call 6; refine Hid.out ?_)
  refine hid ?_
  refine hfew.mono ?_
  clear hfew d1 m
  rintro e w2 ⟨rfl, hk2⟩
  have m2 := m1.on hk2
  obtain ⟨q1, q2, _⟩ := m2.now
  obtain ⟨d2, _⟩ := q1.one
  clear q1 q2
  have hsh := Share_bad ss _ w2 m2.now.2.2.1 Hbad.out
  generalize formM ss = e0 at hsh Hbad
  have hb2 : (e0 == 0) = false := by simpa using Hbad.out
  go_wp2_with (go_at_call 9; refine Hid.out ?_)
  refine hid ?_
  trace_state
  refine hsh.mono ?_
  clear hsh
  rintro e w3 ⟨rfl, hk3⟩
  have m3 := m2.on (hk3.trans ((Keeps.refl _ _).alloc (.cells #[.slice none 0 0] 24)))
  have haw := awake_c _ m3.now.2.2.2.2.2
  go_wp2_with (go_at_call 7; refine Hid.out ?_)
  refine hid ?_
  refine haw.mono ?_
  rintro e w4 ⟨rfl, hk4⟩
  go_wp2
  go_ret
  exact ⟨rfl, m3.now.2.2.2.2.1.trans hk4⟩

end Go.Proofs.YtcbmljfgmeeadaaDoor
