/-
  CONTRACT: GraphGrafts, where both proofs are of the form.
-/
import Derived.Test.YtcbmljfgmeeadaaDoorG29
namespace Go.Proofs.YtcbmljfgmeeadaaDoor
open Go.RowKit Go.Shelf

attribute [local go_sem] Oper.semAt_some

/-- What a proof's cells hold lies in no box of a slice. -/
theorem IsInts.off {w : World} {v : Value} {xs : List Int} {nb : Nat} {p : Option Addr} {q r : Nat} {e : TypeId} (h : IsInts All w v xs) (hr : IsRow w nb e [.slice p q r]) : IsInts (fun k => k ≠ nb) w v xs := by
  obtain ⟨a, cap, hv, hl, hx, h⟩ := h
  refine ⟨a, cap, hv, hl, hx, ?_⟩
  rcases h with h | ⟨b, off, ha, hB, _, hc⟩
  · exact Or.inl h
  · by_cases h0 : xs.length = 0
    · exact Or.inl ⟨List.eq_nil_of_length_eq_zero h0, trivial⟩
    · refine Or.inr ⟨b, off, ha, hB, fun e => ?_, hc⟩
      subst e
      have h1 := hc 0 (by omega)
      rw [hr.cell (off + 0)] at h1
      rcases off with _ | off <;> simp at h1
theorem IsSteps.off {w : World} {v : Value} {ss : List Stp} {nb : Nat} {p : Option Addr} {q r : Nat} {e : TypeId} (h : IsSteps All w v ss) (hr : IsRow w nb e [.slice p q r]) : IsSteps (fun k => k ≠ nb) w v ss := by
  obtain ⟨a, cap, hv, hl, h⟩ := h
  refine ⟨a, cap, hv, hl, ?_⟩
  rcases h with h | ⟨b, off, ha, hB, _, hc⟩
  · exact Or.inl h
  · by_cases h0 : ss.length = 0
    · exact Or.inl ⟨List.eq_nil_of_length_eq_zero h0, trivial⟩
    · refine Or.inr ⟨b, off, ha, hB, fun e => ?_, fun i hi => ?_⟩
      · subst e
        have h1 := (hc 0 (by omega)).1
        rw [hr.cell (off + 0 * 2)] at h1
        rcases off with _ | off <;> simp at h1
      · obtain ⟨h1, va, h2, h3⟩ := hc i hi
        exact ⟨h1, va, h2, h3.off hr⟩
theorem IsProof.off {w : World} {v : Value} {ss : List Stp} {nb : Nat} {p : Option Addr} {q r : Nat} {e : TypeId} (h : IsProof All w v ss) (hr : IsRow w nb e [.slice p q r]) : IsProof (fun k => k ≠ nb) w v ss := by
  obtain ⟨u, hu, h⟩ := h
  exact ⟨u, hu, h.off hr⟩
theorem IsProof.keep2 {S S' T : Nat → Prop} {w w' : World} {v : Value} {ss : List Stp} (h : IsProof S w v ss) (hk : Keeps T w w') (hs : ∀ k, k < w.heap.size → S k → S' k ∧ T k) : IsProof S' w' v ss := by
  obtain ⟨u, hu, h⟩ := h
  exact ⟨u, hu, h.move hk fun k hk hS => ⟨(hs k hk hS).2, (hs k hk hS).1⟩⟩

/-- The first Graft's region: the frame, and what lies. -/
def GGReg (n0 k : Nat) (a : Option Addr) (n c : Nat) (m : Nat) (rs : List Stp) (T : Array Value) (W0 : World) (b : Nat → Bool) (a' : Act) (w' : World) : Prop :=
  ∃ (nb : Nat) (ag : Option Addr) (cg : Nat), a' = Act.mk (sIs T [(b 0, 47, .agg #[.slice a n c]), (b 1, 48, .int .i64 (k : Int)), (b 2, 49, .pointer (some ⟨n0, 0, none⟩)), (b 3, 50, .slice a n c), (b 4, 51, .int .i64 (k : Int)), (b 5, 52, .int .i64 ((k : Int) + 1)),
      (b 6, 53, .slice a (k + 1) c), (b 7, 54, .agg #[.slice a (k + 1) c]), (b 8, 55, .tuple #[.agg #[.slice ag m cg], .int .i64 0]), (b 9, 46, .tuple #[.agg #[.slice ag m cg], .int .i64 0]), (b 10, 56, .agg #[.slice ag m cg]), (b 11, 57, .int .i64 0),
      (b 12, 10, .pointer (some ⟨nb, 0, none⟩)), (b 14, 9, .int .i64 0)]) [] ∧ Keeps All W0 w' ∧ (b 8 = true → IsProof All w' (.agg #[.slice ag m cg]) rs) ∧
    (b 12 = true → W0.heap.size ≤ nb ∧ IsRow w' nb 24 [bif b 13 then .slice ag m cg else .slice none 0 0]) ∧ (b 9 = true → b 8 = true) ∧ (b 10 = true → b 9 = true) ∧ (b 13 = true → b 10 = true) ∧ (b 13 = true → b 12 = true)

set_option maxHeartbeats 4000000 in
theorem GraphGrafts_good (ss ts : List Stp) (va vb : Value) (x : Nat) (w : World) (h1 : IsSteps All w va ss) (h2 : IsSteps All w vb ts) (hcap : ∃ a n c, va = .slice a n c ∧ n ≤ c ∧ c ≤ maxLen) (htab : Tab w) (hx : x < 256) (hf1 : fewM ss 60 = true) (hf2 : fewM ts 60 = true) (hok1 : Okay ss) (hok2 : formM ts = 0 ↔ Okay ts) :
    Calls Tryd.prog 4 #[.agg #[va], .agg #[vb], .int .u8 (x : Int)] w fun e w' => e = .returned (.bool true) ∧ Keeps All w w' := by
  have m := gg_start ss ts va vb w h1 h2 htab
  obtain ⟨a, c, rfl⟩ := h1.form
  obtain ⟨a2, c2, rfl⟩ := h2.form
  obtain ⟨_, _, _, he, hc1, hc2⟩ := hcap
  cases he
  unfold maxLen at hc2
  obtain ⟨bq, off, rfl⟩ : ∃ b off, a = some ⟨b, off, none⟩ := by
    obtain ⟨_, _, he, _, h⟩ := h1
    cases he
    rcases h with ⟨h, _⟩ | ⟨b, off, h, _⟩
    · exact absurd hok1.1 (by rw [h]; simp)
    · exact ⟨b, off, h⟩
  have hl := few_len hf1
  have hl2 := few_len hf2
  have hl1 : 1 ≤ ss.length := hok1.1
  have hn0 : ((ss.length : Int) == 0) = false := by rw [beq_eq_false_iff_ne]; omega
  have Hok1 := hid hok1
  have Hok2 := hid hok2
  obtain ⟨k, hkx⟩ : ∃ k : Nat, k = x % ss.length := ⟨_, rfl⟩
  have hk1 : k < ss.length := by rw [hkx]; exact Nat.mod_lt _ hl1
  have Hkx : Hid ((x : Int) % (ss.length : Int) = (k : Int)) := by rw [hkx]; exact (Int.natCast_emod _ _).symm
  have hfew := Few_c ss 60 _ _ m.now.2.2.1
  rw [hf1] at hfew
  clear h1 h2 htab hf1 hok1 hok2 hkx
  refine (callsIn_wide (n := 5)).1 ?_
  refine callsIn_of_wp Tryd.func4 rfl trivial ?_ rfl
  simp only [Tryd.ntmps4, List.size_toArray, List.length_cons, List.length_nil, Nat.reduceAdd, Nat.reduceSub, Array.replicate_succ, Array.replicate_zero, List.push_toArray, List.append_toArray, List.nil_append, List.cons_append]
  gi_wp2
  refine ⟨trivial, ?_⟩
  refine (callsIn_wide.2 hfew).mono ?_
  clear hfew
  rintro e w1 ⟨rfl, hk⟩
  replace m := m.on hk
  clear hk
  obtain ⟨p1, p2, _⟩ := m.now
  obtain ⟨d1, _⟩ := p2.one
  have hfew := Few_c ts 60 _ _ m.now.2.2.2.1
  rw [hf2] at hfew
  clear p1 p2 hf2
  gi_wp2
  refine ⟨trivial, ?_⟩
  refine (callsIn_wide.2 hfew).mono ?_
  clear hfew d1
  rintro e w2 ⟨rfl, hk⟩
  replace m := m.on hk
  clear hk
  obtain ⟨q1, q2, _⟩ := m.now
  obtain ⟨d2, _⟩ := q1.one
  clear q1 q2
  have hsh := Share_good ss _ w2 m.now.2.2.1 Hok1.out m.now.2.2.2.2.2
  gi_wp2
  simp only [Hkx.out]
  refine ⟨trivial, ?_⟩
  refine (callsIn_wide.2 hsh).mono ?_
  clear hsh d2
  rintro e w3 ⟨vr, rfl, ⟨us, rfl, hsb⟩, hk⟩
  obtain ⟨ab, cb, rfl⟩ := hsb.form
  obtain ⟨lS, hlS⟩ : ∃ n, (shareM ss).length = n := ⟨_, rfl⟩
  rw [hlS] at hsb ⊢
  have HlS := hid hlS
  clear hlS
  have hka : Keeps All w3 (w3.alloc (.cells #[.slice ab lS cb] 24)) := (Keeps.refl _ _).alloc _
  replace m := m.on (hk.trans hka)
  have s := (show IsRow (w3.alloc (.cells #[.slice ab lS cb] 24)) w3.heap.size 24 [.slice ab lS cb] from IsRow.new _ _ _).kept.and (show IsProof All _ (.agg #[.slice ab lS cb]) (shareM ss) from ⟨_, rfl, hsb.keep hka fun _ _ h => h⟩).kept
  clear hk hka hsb
  gi_wp2
  generalize w3.alloc (.cells #[.slice ab lS cb] 24) = w4 at m s ⊢
  refine wpIn_region_inv (GGReg w.heap.size k (some ⟨bq, off, none⟩) ss.length c lS (shareM ss)) mixed (by kernel_rfl) ?start ⟨?o0, ?o1, ?o2, ?o3, ?o4, ?o5, ?o6, ?o7, ?o8, ?o9, ?o10, ?o11, ?o12, ?o13, ?o14, trivial⟩ ?fin
  case start =>
    refine ⟨0, none, 0, by simp only [sIs_nil, sIs_cons, sI_false], (Keeps.refl _ _).drew, ?_, ?_, ?_, ?_, ?_, ?_⟩
    all_goals (intro h; cases h)
  case o0 =>
    rintro b' a' w' hb hd ⟨nb, ag, cg, rfl, hk, hr, hbx, e98, e109, e1310, e1312⟩
    have g0 : w'.cell? ⟨w.heap.size, 0, none⟩ = some (.slice (some ⟨bq, off, none⟩) ss.length c) := (m.on hk).now.1.cell 0
    simp only [sIs_nil, sIs_cons, sI_lit, lset_zero, lset_succ]
    clear hd
    gi_wp2
    refine ⟨nb, ag, cg, by simp [sIs_nil, sIs_cons, sI_lit, lset_zero, lset_succ, mark], hk, ?_, ?_, ?_, ?_, ?_, ?_⟩
    all_goals (simp only [mark, if_false, Nat.reduceEqDiff]; assumption)
  case o1 =>
    rintro b' a' w' hb hd ⟨nb, ag, cg, rfl, hk, hr, hbx, e98, e109, e1310, e1312⟩
    simp only [sIs_nil, sIs_cons, sI_lit, lset_zero, lset_succ]
    clear hd
    gi_wp2
    refine ⟨nb, ag, cg, by simp [sIs_nil, sIs_cons, sI_lit, lset_zero, lset_succ, mark], hk, ?_, ?_, ?_, ?_, ?_, ?_⟩
    all_goals (simp only [mark, if_false, Nat.reduceEqDiff]; assumption)
  case o2 =>
    rintro b' a' w' hb hd ⟨nb, ag, cg, rfl, hk, hr, hbx, e98, e109, e1310, e1312⟩
    simp only [sIs_nil, sIs_cons, sI_lit, lset_zero, lset_succ]
    clear hd
    gi_wp2
    refine ⟨nb, ag, cg, by simp [sIs_nil, sIs_cons, sI_lit, lset_zero, lset_succ, mark], hk, ?_, ?_, ?_, ?_, ?_, ?_⟩
    all_goals (simp only [mark, if_false, Nat.reduceEqDiff]; assumption)
  case o3 =>
    rintro b' a' w' hb hd ⟨nb, ag, cg, rfl, hk, hr, hbx, e98, e109, e1310, e1312⟩
    have e2 : b' 2 = true := hd { on := 2, ground := Ground.data } (by simp) rfl
    have g0 : w'.cell? ⟨w.heap.size, 0, none⟩ = some (.slice (some ⟨bq, off, none⟩) ss.length c) := (m.on hk).now.1.cell 0
    simp only [sIs_nil, sIs_cons, sI_lit, lset_zero, lset_succ, e2, cond_true]
    clear hd
    gi_wp2
    refine ⟨nb, ag, cg, by simp [sIs_nil, sIs_cons, sI_lit, lset_zero, lset_succ, mark, e2], hk, ?_, ?_, ?_, ?_, ?_, ?_⟩
    all_goals (simp only [mark, if_false, Nat.reduceEqDiff]; assumption)
  case o4 =>
    rintro b' a' w' hb hd ⟨nb, ag, cg, rfl, hk, hr, hbx, e98, e109, e1310, e1312⟩
    simp only [sIs_nil, sIs_cons, sI_lit, lset_zero, lset_succ]
    clear hd
    gi_wp2
    refine ⟨nb, ag, cg, by simp [sIs_nil, sIs_cons, sI_lit, lset_zero, lset_succ, mark], hk, ?_, ?_, ?_, ?_, ?_, ?_⟩
    all_goals (simp only [mark, if_false, Nat.reduceEqDiff]; assumption)
  case o5 =>
    rintro b' a' w' hb hd ⟨nb, ag, cg, rfl, hk, hr, hbx, e98, e109, e1310, e1312⟩
    have e4 : b' 4 = true := hd { on := 4, ground := Ground.data } (by simp) rfl
    simp only [sIs_nil, sIs_cons, sI_lit, lset_zero, lset_succ, e4, cond_true]
    clear hd
    gi_wp2
    refine ⟨nb, ag, cg, by simp [sIs_nil, sIs_cons, sI_lit, lset_zero, lset_succ, mark, e4], hk, ?_, ?_, ?_, ?_, ?_, ?_⟩
    all_goals (simp only [mark, if_false, Nat.reduceEqDiff]; assumption)
  case o6 =>
    rintro b' a' w' hb hd ⟨nb, ag, cg, rfl, hk, hr, hbx, e98, e109, e1310, e1312⟩
    have e3 : b' 3 = true := hd { on := 3, ground := Ground.data } (by simp) rfl
    have e5 : b' 5 = true := hd { on := 5, ground := Ground.data } (by simp) rfl
    simp only [sIs_nil, sIs_cons, sI_lit, lset_zero, lset_succ, e3, e5, cond_true]
    clear hd
    gi_wp2
    refine ⟨nb, ag, cg, by simp [sIs_nil, sIs_cons, sI_lit, lset_zero, lset_succ, mark, e3, e5], hk, ?_, ?_, ?_, ?_, ?_, ?_⟩
    all_goals (simp only [mark, if_false, Nat.reduceEqDiff]; assumption)
  case o7 =>
    rintro b' a' w' hb hd ⟨nb, ag, cg, rfl, hk, hr, hbx, e98, e109, e1310, e1312⟩
    have e6 : b' 6 = true := hd { on := 6, ground := Ground.data } (by simp) rfl
    simp only [sIs_nil, sIs_cons, sI_lit, lset_zero, lset_succ, e6, cond_true]
    clear hd
    gi_wp2
    refine ⟨nb, ag, cg, by simp [sIs_nil, sIs_cons, sI_lit, lset_zero, lset_succ, mark, e6], hk, ?_, ?_, ?_, ?_, ?_, ?_⟩
    all_goals (simp only [mark, if_false, Nat.reduceEqDiff]; assumption)
  case o8 =>
    rintro b' a' w' hb hd ⟨nb, ag, cg, rfl, hk, hr, hbx, e98, e109, e1310, e1312⟩
    have e0 : b' 0 = true := hd { on := 0, ground := Ground.data } (by simp) rfl
    have e1 : b' 1 = true := hd { on := 1, ground := Ground.data } (by simp) rfl
    have e7 : b' 7 = true := hd { on := 7, ground := Ground.data } (by simp) rfl
    have n9 : b' 9 = false := by
      cases h : b' 9 with
      | false => rfl
      | true => rw [e98 h] at hb; cases hb
    have n10 : b' 10 = false := by
      cases h : b' 10 with
      | false => rfl
      | true => rw [e109 h] at n9; cases n9
    have n13 : b' 13 = false := by
      cases h : b' 13 with
      | false => rfl
      | true => rw [e1310 h] at n10; cases n10
    have hp := (m.on hk).now
    have hcall := Graft_good ss (ss.take (k + 1)) (.agg #[.slice (some ⟨bq, off, none⟩) ss.length c]) (.agg #[.slice (some ⟨bq, off, none⟩) (k + 1) c]) k w' hp.2.2.1 (by obtain ⟨u, hu, hs⟩ := hp.2.2.1; cases hu; exact ⟨_, rfl, hs.first (by omega)⟩) Hok1.out (take_okay Hok1.out hk1) hk1 (by rw [List.length_take]; omega) hp.2.2.2.2.2
    rw [share_of_tree (graftM_okay Hok1.out (take_okay Hok1.out hk1) k (by rw [List.length_take]; omega)) Hok1.out (graftM_same Hok1.out k hk1 (by omega))] at hcall
    clear hp
    simp only [sIs_nil, sIs_cons, sI_lit, lset_zero, lset_succ, e0, e1, e7, cond_true]
    clear hd
    gi_wp2
    refine ⟨trivial, ?_⟩
    refine (callsIn_wide.2 hcall).mono ?_
    clear hcall
    rintro e w5 ⟨vr, rfl, ⟨ug, rfl, hsg⟩, hk5⟩
    obtain ⟨ag', cg', rfl⟩ := hsg.form
    rw [HlS.out] at hsg ⊢
    gi_wp2
    refine ⟨nb, ag', cg', by simp [sIs_nil, sIs_cons, sI_lit, lset_zero, lset_succ, mark, e0, e1, e7, n9, n10], hk.trans hk5, fun _ => ⟨_, rfl, hsg⟩, ?_, ?_, ?_, ?_, ?_⟩
    · intro h
      obtain ⟨g1, g2⟩ := hbx (by simpa [mark] using h)
      simp only [n13, cond_false] at g2
      exact ⟨g1, by simp only [mark, if_false, Nat.reduceEqDiff, n13, cond_false]; exact g2.keep hk5 trivial⟩
    · simp [mark]
    all_goals (simp only [mark, if_false, Nat.reduceEqDiff]; assumption)
  case o9 =>
    rintro b' a' w' hb hd ⟨nb, ag, cg, rfl, hk, hr, hbx, e98, e109, e1310, e1312⟩
    have e8 : b' 8 = true := hd { on := 8, ground := Ground.data } (by simp) rfl
    simp only [sIs_nil, sIs_cons, sI_lit, lset_zero, lset_succ, e8, cond_true]
    clear hd
    gi_wp2
    refine ⟨nb, ag, cg, by simp [sIs_nil, sIs_cons, sI_lit, lset_zero, lset_succ, mark, e8], hk, ?_, ?_, fun _ => mark_mono _ e8, fun _ => mark_self _ _, ?_, ?_⟩
    all_goals (simp only [mark, if_false, Nat.reduceEqDiff]; assumption)
  case o10 =>
    rintro b' a' w' hb hd ⟨nb, ag, cg, rfl, hk, hr, hbx, e98, e109, e1310, e1312⟩
    have e9 : b' 9 = true := hd { on := 9, ground := Ground.data } (by simp) rfl
    simp only [sIs_nil, sIs_cons, sI_lit, lset_zero, lset_succ, e9, cond_true]
    clear hd
    gi_wp2
    refine ⟨nb, ag, cg, by simp [sIs_nil, sIs_cons, sI_lit, lset_zero, lset_succ, mark, e9], hk, ?_, ?_, ?_, fun _ => mark_mono _ e9, fun _ => mark_self _ _, ?_⟩
    all_goals (simp only [mark, if_false, Nat.reduceEqDiff]; assumption)
  case o11 =>
    rintro b' a' w' hb hd ⟨nb, ag, cg, rfl, hk, hr, hbx, e98, e109, e1310, e1312⟩
    have e9 : b' 9 = true := hd { on := 9, ground := Ground.data } (by simp) rfl
    simp only [sIs_nil, sIs_cons, sI_lit, lset_zero, lset_succ, e9, cond_true]
    clear hd
    gi_wp2
    refine ⟨nb, ag, cg, by simp [sIs_nil, sIs_cons, sI_lit, lset_zero, lset_succ, mark, e9], hk, ?_, ?_, ?_, ?_, ?_, ?_⟩
    all_goals (simp only [mark, if_false, Nat.reduceEqDiff]; assumption)
  case o12 =>
    rintro b' a' w' hb hd ⟨nb, ag, cg, rfl, hk, hr, hbx, e98, e109, e1310, e1312⟩
    have n13 : b' 13 = false := by
      cases h : b' 13 with
      | false => rfl
      | true => rw [e1312 h] at hb; cases hb
    simp only [sIs_nil, sIs_cons, sI_lit, lset_zero, lset_succ]
    clear hd
    gi_wp2
    refine ⟨w'.heap.size, ag, cg, by simp [sIs_nil, sIs_cons, sI_lit, lset_zero, lset_succ, mark], hk.alloc _, fun h => (hr (by simpa [mark] using h)).keep ((Keeps.refl _ _).alloc _) (fun _ _ h => h), fun _ => ⟨hk.size, ?_⟩, ?_, ?_, ?_, fun _ => mark_self _ _⟩
    · simp only [mark, if_false, Nat.reduceEqDiff, n13, cond_false]
      exact IsRow.new _ _ _
    all_goals (simp only [mark, if_false, Nat.reduceEqDiff]; assumption)
  case o13 =>
    rintro b' a' w' hb hd ⟨nb, ag, cg, rfl, hk, hr, hbx, e98, e109, e1310, e1312⟩
    have e12 : b' 12 = true := hd { on := 12, ground := Ground.data } (by simp) rfl
    have e10 : b' 10 = true := hd { on := 10, ground := Ground.data } (by simp) rfl
    obtain ⟨g1, g2⟩ := hbx e12
    simp only [hb, cond_false] at g2
    obtain ⟨f1, f2⟩ := g2.one
    have hp := (hr (e98 (e109 e10))).off g2
    simp only [sIs_nil, sIs_cons, sI_lit, lset_zero, lset_succ, e12, e10, cond_true]
    clear hd
    gi_wp2
    refine ⟨nb, ag, cg, by simp [sIs_nil, sIs_cons, sI_lit, lset_zero, lset_succ, mark, e12, e10], hk.setCell (fun h => absurd (show nb < w4.heap.size from h) (by omega)) _, fun _ => ?_, fun _ => ⟨g1, ?_⟩, ?_, ?_, fun _ => mark_mono _ e10, fun _ => mark_mono _ e12⟩
    · exact hp.keep2 ((Keeps.refl (fun q => q ≠ nb) _).setCell (fun _ hn => hn rfl) _) fun q _ hq => ⟨trivial, hq⟩
    · simp only [mark, if_true, cond_true]
      exact g2.set 0 _
    all_goals (simp only [mark, if_false, Nat.reduceEqDiff]; assumption)
  case o14 =>
    rintro b' a' w' hb hd ⟨nb, ag, cg, rfl, hk, hr, hbx, e98, e109, e1310, e1312⟩
    have e11 : b' 11 = true := hd { on := 11, ground := Ground.data } (by simp) rfl
    simp only [sIs_nil, sIs_cons, sI_lit, lset_zero, lset_succ, e11, cond_true]
    clear hd
    gi_wp2
    refine ⟨nb, ag, cg, by simp [sIs_nil, sIs_cons, sI_lit, lset_zero, lset_succ, mark, e11], hk, ?_, ?_, ?_, ?_, ?_, ?_⟩
    all_goals (simp only [mark, if_false, Nat.reduceEqDiff]; assumption)
  case fin =>
    rintro b' a' w' hb ⟨nb, ag, cg, rfl, hk, hr, hbx, -, -, -, -⟩
    have e0 := hb 0 (by decide)
    have e1 := hb 1 (by decide)
    have e2 := hb 2 (by decide)
    have e3 := hb 3 (by decide)
    have e4 := hb 4 (by decide)
    have e5 := hb 5 (by decide)
    have e6 := hb 6 (by decide)
    have e7 := hb 7 (by decide)
    have e8 := hb 8 (by decide)
    have e9 := hb 9 (by decide)
    have e10 := hb 10 (by decide)
    have e11 := hb 11 (by decide)
    have e12 := hb 12 (by decide)
    have e13 := hb 13 (by decide)
    have e14 := hb 14 (by decide)
    clear hb
    obtain ⟨g1, g2⟩ := hbx e12
    rw [e13, cond_true] at g2
    simp only [sIs_nil, sIs_cons, sI_lit, lset_zero, lset_succ, e0, e1, e2, e3, e4, e5, e6, e7, e8, e9, e10, e11, e12, e14, cond_true]
    replace m := m.on hk
    replace s := (s.on hk).and (g2.kept.and (hr e8).kept)
    clear hk hr hbx e0 e1 e2 e3 e4 e5 e6 e7 e8 e9 e10 e11 e12 e13 e14 g1 g2
    obtain ⟨⟨r1, q1⟩, r2, q2⟩ := s.now
    obtain ⟨f1, _⟩ := r1.one
    obtain ⟨f2, _⟩ := r2.one
    have heq := equal_c (shareM ss) (shareM ss) _ _ w' q2 q1
    simp only [decide_true] at heq
    gi_wp2
    refine ⟨trivial, ?_⟩
    refine (callsIn_wide.2 heq).mono ?_
    clear heq f1 f2 r1 r2 q1 q2 s
    rintro e w5 ⟨rfl, hk⟩
    replace m := m.on hk
    clear hk
    obtain ⟨p1, p2, _⟩ := m.now
    obtain ⟨d2, _⟩ := p2.one
    clear p1 p2
    by_cases hq : formM ts = 0
    · have Hq := hid (Hok2.out.1 hq)
      have hsh := Share_good ts _ w5 m.now.2.2.2.1 Hq.out m.now.2.2.2.2.2
      clear hq
      gi_wp2
      refine ⟨trivial, ?_⟩
      refine (callsIn_wide.2 hsh).mono ?_
      clear hsh d2
      rintro e w6 ⟨vr, rfl, ⟨uo, rfl, hso⟩, hk⟩
      obtain ⟨ao, co, rfl⟩ := hso.form
      obtain ⟨lO, hlO⟩ : ∃ n, (shareM ts).length = n := ⟨_, rfl⟩
      rw [hlO] at hso ⊢
      have HlO := hid hlO
      clear hlO
      have hka : Keeps All w6 (w6.alloc (.cells #[.slice ao lO co] 24)) := (Keeps.refl _ _).alloc _
      replace m := m.on (hk.trans hka)
      have s := (show IsRow (w6.alloc (.cells #[.slice ao lO co] 24)) w6.heap.size 24 [.slice ao lO co] from IsRow.new _ _ _).kept.and (show IsProof All _ (.agg #[.slice ao lO co]) (shareM ts) from ⟨_, rfl, hso.keep hka fun _ _ h => h⟩).kept
      clear hk hka hso
      obtain ⟨p1, p2, _⟩ := m.now
      obtain ⟨d1, _⟩ := p1.one
      obtain ⟨d2, _⟩ := p2.one
      have hgr := Graft_good ss ts _ _ k _ m.now.2.2.1 m.now.2.2.2.1 Hok1.out Hq.out hk1 (by omega) m.now.2.2.2.2.2
      clear p1 p2
      gi_wp2
      refine ⟨trivial, ?_⟩
      refine (callsIn_wide.2 hgr).mono ?_
      clear hgr d1 d2
      rintro e w7 ⟨vr, rfl, ⟨ug, rfl, hsg⟩, hk⟩
      obtain ⟨a3, c3, rfl⟩ := hsg.form
      obtain ⟨gs, hgs⟩ : ∃ gs, shareM (graftM ss k ts) = gs := ⟨_, rfl⟩
      have hgo : Okay gs := by rw [← hgs]; exact shareM_okay (graftM_okay Hok1.out Hq.out k (by omega))
      have Hgn : Hid (∀ x ∈ namesM gs, x ∈ namesM ss ∨ x ∈ namesM ts) := by rw [← hgs]; exact names_graft Hok1.out Hq.out k (by omega)
      have Hgo := hid hgo
      rw [hgs] at hsg ⊢
      clear hgs hgo
      obtain ⟨lG, hlG⟩ : ∃ n, gs.length = n := ⟨_, rfl⟩
      rw [hlG] at hsg ⊢
      clear hlG
      have hka : Keeps All w7 (w7.alloc (.cells #[.slice a3 lG c3] 24)) := (Keeps.refl _ _).alloc _
      replace m := m.on (hk.trans hka)
      replace s := s.on (hk.trans hka)
      have g := (show IsRow (w7.alloc (.cells #[.slice a3 lG c3] 24)) w7.heap.size 24 [.slice a3 lG c3] from IsRow.new _ _ _).kept.and (show IsProof All _ (.agg #[.slice a3 lG c3]) gs from ⟨_, rfl, hsg.keep hka fun _ _ h => h⟩).kept
      clear hk hka hsg
      obtain ⟨p1, p2, _⟩ := m.now
      obtain ⟨d1, _⟩ := p1.one
      obtain ⟨d2, _⟩ := p2.one
      have hgr := Graft_good ss ts _ _ (ss.length - 1) _ m.now.2.2.1 m.now.2.2.2.1 Hok1.out Hq.out (by omega) (by omega) m.now.2.2.2.2.2
      rw [show graftM ss (ss.length - 1) ts = ts by unfold graftM; rw [if_pos (by omega)], show ((ss.length - 1 : Nat) : Int) = (ss.length : Int) - 1 by omega] at hgr
      clear p1 p2
      gi_wp2
      refine ⟨trivial, ?_⟩
      refine (callsIn_wide.2 hgr).mono ?_
      clear hgr d1 d2
      rintro e w8 ⟨vr, rfl, ⟨ul, rfl, hsl⟩, hk⟩
      obtain ⟨a4, c4, rfl⟩ := hsl.form
      rw [HlO.out] at hsl ⊢
      have hka : Keeps All w8 (w8.alloc (.cells #[.slice a4 lO c4] 24)) := (Keeps.refl _ _).alloc _
      replace m := m.on (hk.trans hka)
      replace s := s.on (hk.trans hka)
      replace g := g.on (hk.trans hka)
      have hlr : IsRow (w8.alloc (.cells #[.slice a4 lO c4] 24)) w8.heap.size 24 [.slice a4 lO c4] := IsRow.new _ _ _
      have heq := equal_c (shareM ts) (shareM ts) _ _ _ (show IsProof All (w8.alloc (.cells #[.slice a4 lO c4] 24)) (.agg #[.slice a4 lO c4]) (shareM ts) from ⟨_, rfl, hsl.keep hka fun _ _ h => h⟩) s.now.2
      simp only [decide_true] at heq
      obtain ⟨d1, _⟩ := s.now.1.one
      obtain ⟨d2, _⟩ := hlr.one
      clear hk hka hsl hlr s
      gi_wp2
      refine ⟨trivial, ?_⟩
      refine (callsIn_wide.2 heq).mono ?_
      clear heq d1 d2
      rintro e w9 ⟨rfl, hk⟩
      replace m := m.on hk
      replace g := g.on hk
      clear hk
      have hnm := Names_good gs _ w9 g.now.2 Hgo.out
      obtain ⟨d1, _⟩ := g.now.1.one
      gi_wp2
      refine ⟨trivial, ?_⟩
      refine (callsIn_wide.2 hnm).mono ?_
      clear hnm d1 g
      rintro e w10 ⟨vn, rfl, hvn, hk⟩
      obtain ⟨nm, hnmE⟩ : ∃ nm, namesM gs = nm := ⟨_, rfl⟩
      rw [hnmE] at hvn Hgn
      clear hnmE
      replace m := m.on hk
      have nk : Kept (fun W => IsStrs All W vn nm) w10 := fun B hB => (hvn.sub fun _ _ _ => trivial).keep hB fun _ _ h => h
      obtain ⟨a5, c5, rfl⟩ := hvn.form
      have hnl : nm.length ≤ 140737488351232 := by obtain ⟨_, _, _, h, _⟩ := hvn; exact h
      clear hk hvn
      gi_wp2
      gi_loopw [16, 106] (fun _ iv wr => ∃ j : Nat, j ≤ nm.length ∧ iv = .int .i64 j ∧ Keeps All w10 wr) (fun _ iv _ => nm.length - (intOf iv).toNat)
      case atStart => exact ⟨0, Nat.zero_le _, rfl, Keeps.refl _ _⟩
      case round =>
        obtain ⟨j, hj, rfl, hkj⟩ := hrel
        replace m := m.on hkj
        by_cases hlt : j < nm.length
        · obtain ⟨b5, off5, rfl, d5⟩ := (nk.on hkj).now.at hlt
          have hmem := hid (Hgn.out nm[j] (List.getElem_mem hlt))
          generalize nm[j] = y at d5 hmem
          obtain ⟨p1, p2, _⟩ := m.now
          obtain ⟨d1, _⟩ := p1.one
          have hn1 := Names_good ss _ wr m.now.2.2.1 Hok1.out
          clear p1 p2
          gi_wp2
          refine ⟨trivial, ?_⟩
          refine (callsIn_wide.2 hn1).mono ?_
          clear hn1 d1
          rintro e w11 ⟨v1, rfl, hv1, hk⟩
          replace m := m.on hk
          have hkk := hkj.trans hk
          clear hk
          have hco := ContainsStr_c (namesM ss) v1 y w11 (hv1.sub fun _ _ _ => trivial)
          obtain ⟨a6, c6, rfl⟩ := hv1.form
          cases hc1 : Lib.containsS (namesM ss) y with
          | true =>
            rw [hc1] at hco
            clear hc1 hv1
            gi_wp2
            refine ⟨trivial, ?_⟩
            refine (callsIn_wide.2 hco).mono ?_
            clear hco
            rintro e w12 ⟨rfl, rfl⟩
            gi_wp2
            refine ⟨trivial, ?_⟩
            gi_wp2
            refine ⟨trivial, ?_⟩
            gi_wp2
            go_roundw
            case rel => exact ⟨j + 1, by omega, by go_num, hkk⟩
            case measure => simp [intOf]; omega
          | false =>
            rw [hc1] at hco
            have hy2 : Lib.containsS (namesM ts) y = true := by
              rcases hmem.out with h | h
              · rw [(Lib.containsS_iff _ _).2 h] at hc1; cases hc1
              · exact (Lib.containsS_iff _ _).2 h
            clear hc1 hv1
            gi_wp2
            refine ⟨trivial, ?_⟩
            refine (callsIn_wide.2 hco).mono ?_
            clear hco
            rintro e w12 ⟨rfl, rfl⟩
            obtain ⟨p1, p2, _⟩ := m.now
            obtain ⟨d2, _⟩ := p2.one
            have hn1 := Names_good ts _ w11 m.now.2.2.2.1 Hq.out
            have Hy2 := hid hy2
            clear p1 p2 hy2
            gi_wp2
            refine ⟨trivial, ?_⟩
            refine (callsIn_wide.2 hn1).mono ?_
            clear hn1 d2
            rintro e w13 ⟨v2, rfl, hv2, hk⟩
            replace m := m.on hk
            replace hkk := hkk.trans hk
            clear hk
            have hco := ContainsStr_c (namesM ts) v2 y w13 (hv2.sub fun _ _ _ => trivial)
            rw [Hy2.out] at hco
            obtain ⟨a7, c7, rfl⟩ := hv2.form
            clear hv2
            gi_wp2
            refine ⟨trivial, ?_⟩
            refine (callsIn_wide.2 hco).mono ?_
            clear hco
            rintro e w14 ⟨rfl, rfl⟩
            gi_wp2
            go_roundw
            case rel => exact ⟨j + 1, by omega, by go_num, hkk⟩
            case measure => simp [intOf]; omega
        · have haw := awake_c wr m.now.2.2.2.2.2
          gi_wp2
          refine ⟨trivial, ?_⟩
          refine (callsIn_wide.2 haw).mono ?_
          clear haw
          rintro e w11 ⟨rfl, hk⟩
          gi_wp2
          go_ret
          exact ⟨rfl, m.now.2.2.2.2.1.trans hk⟩
    · have hsh := Share_bad ts _ w5 m.now.2.2.2.1 hq
      generalize formM ts = e0 at hsh hq Hok2
      have hb2 : (e0 == 0) = false := by simpa using hq
      clear hq
      gi_wp2
      refine ⟨trivial, ?_⟩
      refine (callsIn_wide.2 hsh).mono ?_
      clear hsh d2
      rintro e w6 ⟨rfl, hk⟩
      replace m := m.on (hk.trans ((Keeps.refl _ _).alloc (.cells #[.slice none 0 0] 24)))
      have haw := awake_c _ m.now.2.2.2.2.2
      gi_wp2
      refine ⟨trivial, ?_⟩
      refine (callsIn_wide.2 haw).mono ?_
      clear haw
      rintro e w7 ⟨rfl, hk7⟩
      gi_wp2
      go_ret
      exact ⟨rfl, m.now.2.2.2.2.1.trans hk7⟩

/-- GraphGrafts returns true. -/
theorem GraphGrafts_c (ss ts : List Stp) (va vb : Value) (x : Nat) (w : World) (h1 : IsSteps All w va ss) (h2 : IsSteps All w vb ts) (hcap : ∃ a n c, va = .slice a n c ∧ n ≤ c ∧ c ≤ maxLen) (htab : Tab w) (hx : x < 256) :
    Calls Tryd.prog 4 #[.agg #[va], .agg #[vb], .int .u8 (x : Int)] w fun e w' => e = .returned (.bool true) ∧ Keeps All w w' := by
  cases hf1 : fewM ss 60 with
  | false => exact GraphGrafts_many ss ts va vb x w h1 h2 htab (Or.inl hf1)
  | true =>
    cases hf2 : fewM ts 60 with
    | false => exact GraphGrafts_many ss ts va vb x w h1 h2 htab (Or.inr (Or.inl hf2))
    | true =>
      by_cases hne : ss = []
      · exact GraphGrafts_many ss ts va vb x w h1 h2 htab (Or.inr (Or.inr hne))
      · by_cases h0 : formM ss = 0
        · exact GraphGrafts_good ss ts va vb x w h1 h2 hcap htab hx hf1 hf2 ((formM_zero ss).1 h0) (formM_zero ts)
        · exact GraphGrafts_bad ss ts va vb x w h1 h2 htab hx hf1 hf2 hne h0

end Go.Proofs.YtcbmljfgmeeadaaDoor
