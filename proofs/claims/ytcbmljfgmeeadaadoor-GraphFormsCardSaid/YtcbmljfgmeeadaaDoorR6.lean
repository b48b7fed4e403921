/-
  CONTRACT: the reference's Ordered.
-/
import Derived.Test.YtcbmljfgmeeadaaDoorJH
import Derived.Test.YtcbmljfgmeeadaaDoorR2
import Derived.Test.YtcbmljfgmeeadaaDoorR5
namespace Go.Proofs.YtcbmljfgmeeadaaDoor
open Go.RowKit

attribute [local go_sem] Oper.semAt_some

theorem field_order (u v : Value) (w : World) : (Instr.field 63 (.agg #[u, v]) 0).run Tryd.prog w = .ok u w := by kernel_rfl

/-- What a function returns that returns a proof and an error. -/
def RetP (out : List Stp) (er : Int) (w : World) (e : Ending) (w' : World) : Prop := ∃ a c, e = .returned (.tuple #[.agg #[.slice a out.length c], .int .i64 er]) ∧ IsSteps All w' (.slice a out.length c) out ∧ Keeps All w w'
theorem steps_nil_any (S : Nat → Prop) (w : World) : IsSteps S w (.slice none ([] : List Stp).length 0) [] := ⟨none, 0, rfl, by simp, Or.inl ⟨rfl, trivial⟩⟩

theorem OwnIn.isSteps' {S T : Nat → Prop} {lo : Nat} {W : World} {v : Value} {ss : List Stp} (h : OwnIn S lo W v ss) (hn : ss.length ≤ 140737488351232) (hg0 : ∀ q, v.ownBlock = some q → T q) (hT : ∀ q, S q → T q) : IsSteps T W v ss := by
  obtain ⟨vs, hl, ho, hi⟩ := h
  rcases ho.2 with ⟨rfl, h0⟩ | ⟨g, cap, cur, rfl, hb, hg, _⟩
  · have : ss = [] := List.eq_nil_of_length_eq_zero h0
    subst this
    exact ⟨none, 0, rfl, hn, Or.inl ⟨rfl, trivial⟩⟩
  · refine ⟨_, cap, rfl, hn, Or.inr ⟨g, 0, rfl, (Array.getElem?_eq_some_iff.1 hg).1, hg0 g rfl, fun i h => ?_⟩⟩
    have hc := ho.cells (g := g) rfl
    obtain ⟨h1, h2⟩ := stepCells_get ss vs hl i h (by omega)
    have a1 := hc _ _ h1
    have a2 := hc _ _ h2
    have hadd : ∀ j, (⟨g, 0, none⟩ : Addr).add j = ⟨g, j, none⟩ := fun j => by unfold Addr.add; split <;> simp_all
    rw [hadd] at a1 a2
    exact ⟨by rw [Nat.zero_add]; exact a1, _, by rw [Nat.zero_add]; exact a2, (hi i h).sub fun q _ hq => hT q hq.1⟩

/-- The visit of a whole proof. -/
theorem visit_all (ss : List Stp) (hok : Okay ss) (v : Value) (nb B : Nat) (w : World) (hv : IsProof (fun q => q ≠ nb) w v ss) (hr : IsRow w nb 3 (ints (List.replicate ss.length (-1)))) (hB : B ≤ nb) :
    Calls Tryd.prog 44 #[v, .int .i64 ((ss.length : Int) - 1), .agg #[.slice none 0 0, .slice (some ⟨nb, 0, none⟩) ss.length ss.length]] w fun e w' => ∃ a c, e = .returned (.agg #[.slice a (orderedM ss).length c, .slice (some ⟨nb, 0, none⟩) ss.length ss.length]) ∧
      IsSteps (fun q => B ≤ q) w' (.slice a (orderedM ss).length c) (orderedM ss) ∧ Keeps (fun q => q ≠ nb) w w' := by
  have h1 := hok.1
  have h2 := hok.2.1
  have hnl := hr.lt
  have h := rvisit_c ss hok ss.length (ss.length - 1) (by omega) (by omega) (.slice none 0 0) v [] (List.replicate ss.length (-1)) nb (fun _ => False) w.heap.size w (Vis.nil ss) (NowOk.start ss)
    (by obtain ⟨u, hu, hs⟩ := hv; exact ⟨u, hu, hs.sub fun q _ h => ⟨by simp [Value.ownBlock], h⟩⟩) hr (OwnIn.nil _ _ _) (by simp [Value.ownBlock]) (fun q h => h.elim) (Nat.le_refl _)
  rw [show ((ss.length - 1 : Nat) : Int) = (ss.length : Int) - 1 by omega] at h
  refine h.mono ?_
  rintro e w' ⟨sv, rfl, ⟨L, _, _, ho, _⟩, hk⟩
  have hpo : stepsOf ss (trav (kidsOf ss) ss.length (ss.length - 1) []) = orderedM ss := rfl
  rw [hpo] at ho
  obtain ⟨a, c, rfl⟩ := ho.form
  refine ⟨a, c, rfl, ho.isSteps' (by rw [orderedM_length]; have := post_length_le hok; omega) (fun q e => by have := ho.lt e; omega) (fun q h => h.elim (fun h => h.elim) fun h => by omega), hk.sub fun q _ h => ⟨by simp [Value.ownBlock], h⟩⟩

/-- The region that visits a whole proof. -/
def OrdReg (bx rb n : Nat) (ua : Value) (os : List Stp) (T : Array Value) (W0 : World) (b : Nat → Bool) (a' : Act) (w' : World) : Prop :=
  ∃ (nb : Nat) (a3 : Option Addr) (c3 : Nat), a' = Act.mk (sIs T [(b 0, 11, .agg #[ua]), (b 1, 12, .pointer (some ⟨bx, 0, none⟩)), (b 2, 13, ua), (b 3, 14, .int .i64 (n : Int)), (b 4, 15, .int .i64 ((n : Int) - 1)), (b 5, 16, .pointer (some ⟨bx, 0, none⟩)), (b 6, 17, ua), (b 7, 18, .int .i64 (n : Int)),
      (b 8, 19, .slice (some ⟨nb, 0, none⟩) n n), (b 9, 20, .agg #[.slice none 0 0, .slice (some ⟨nb, 0, none⟩) n n]), (b 10, 21, .agg #[.slice a3 os.length c3, .slice (some ⟨nb, 0, none⟩) n n]), (b 11, 22, .slice a3 os.length c3), (b 12, 23, .agg #[.slice a3 os.length c3]), (b 14, 3, .int .i64 0)]) [] ∧
    Keeps (fun q => q ≠ rb) W0 w' ∧ (b 8 = true → b 10 = false → W0.heap.size ≤ nb ∧ IsRow w' nb 3 (ints (List.replicate n (-1)))) ∧ (b 10 = true → IsSteps (fun q => W0.heap.size ≤ q) w' (.slice a3 os.length c3) os) ∧
    IsRow w' rb 24 [bif b 13 then .slice a3 os.length c3 else .slice none 0 0] ∧ (b 9 = true → b 8 = true) ∧ (b 10 = true → b 9 = true) ∧ (b 11 = true → b 10 = true) ∧ (b 12 = true → b 11 = true) ∧ (b 13 = true → b 12 = true)

theorem rOrdered_bad (ss : List Stp) (v : Value) (w : World) (hv : IsProof All w v ss) (hf : formM ss ≠ 0) : Calls Tryd.prog 17 #[v] w (RetP [] (formM ss) w) := by
  obtain ⟨u, rfl, hs⟩ := hv
  have hform := rForm_c ss (.agg #[u]) (((w.alloc (.cells #[u] 24)).alloc (.cells #[.slice none 0 0] 24))) ⟨u, rfl, hs.keep (((Keeps.refl _ _).alloc _).alloc _) fun _ _ h => h⟩
  obtain ⟨a, cap, rfl, hl, h⟩ := hs
  clear h
  generalize formM ss = e0 at hform hf ⊢
  have h0 : (e0 == 0) = false := by simpa using hf
  go_enter Tryd.func17, Tryd.ntmps17
  go_wp2_with (go_at_call 43; refine Hid.out ?_)
  refine hid ?_
  refine hform.mono ?_
  clear hform
  rintro e w1 ⟨rfl, hk1⟩
  have r1 : IsRow w1 (w.heap.size + 1) 24 [.slice none 0 0] := IsRow.keep (S := All) (IsRow.newAt (by simp)) hk1 trivial
  obtain ⟨c1, c2⟩ := r1.one
  go_wp2
  have k2 := (r1.set 0 (.slice none 0 0)).one
  refine bodyPost_ret (v := .tuple #[.agg #[.slice none 0 0], .int .i64 e0]) (by simp [results, Tryd.results17, go_sem, k2]) rfl ⟨none, 0, rfl, steps_nil_any _ _, ?_⟩
  exact (((Keeps.refl All w).alloc _).trans (((Keeps.refl _ _).alloc _).trans hk1)).setCell (fun (h : w.heap.size + 1 < _) => absurd h (by omega)) _

set_option maxHeartbeats 4000000 in
theorem rOrdered_good (ss : List Stp) (v : Value) (w : World) (hv : IsProof All w v ss) (hok : Okay ss) : Calls Tryd.prog 17 #[v] w (RetP (orderedM ss) 0 w) := by
  obtain ⟨u, rfl, hs⟩ := hv
  have hform := rForm_c ss (.agg #[u]) (((w.alloc (.cells #[u] 24)).alloc (.cells #[.slice none 0 0] 24))) ⟨u, rfl, hs.keep (((Keeps.refl _ _).alloc _).alloc _) fun _ _ h => h⟩
  rw [(formM_zero ss).2 hok] at hform
  obtain ⟨a, cap, rfl⟩ := hs.form
  have hlen : ss.length ≤ 2000 := hok.2.1
  have hlen1 : 1 ≤ ss.length := hok.1
  have Hok := hid hok
  have Hs := hid hs
  clear hs hok
  refine (callsIn_wide (n := 5)).1 ?_
  refine callsIn_of_wp Tryd.func17 rfl trivial ?_ rfl
  simp only [Tryd.ntmps17, List.size_toArray, List.length_cons, List.length_nil, Nat.reduceAdd, Nat.reduceSub, Array.replicate_succ, Array.replicate_zero, List.push_toArray, List.append_toArray, List.nil_append, List.cons_append]
  gi_wp2
  refine ⟨trivial, ?_⟩
  refine (callsIn_wide.2 hform).mono ?_
  clear hform
  rintro e W0 ⟨rfl, hk1⟩
  have hk0 : Keeps All w W0 := (((Keeps.refl _ _).alloc _).alloc _).trans hk1
  have hsz := hk1.size
  simp at hsz
  have hrr : IsRow W0 (w.heap.size + 1) 24 [.slice none 0 0] := IsRow.keep (S := All) (IsRow.newAt (by simp)) hk1 trivial
  have hbx : IsRow W0 w.heap.size 24 [.slice a ss.length cap] := IsRow.keep (S := All) ((IsRow.new _ _ _).alloc _) hk1 trivial
  have hpr : ∀ W, Keeps (fun q => q ≠ w.heap.size + 1) W0 W → IsProof (fun q => q < W0.heap.size) W (.agg #[.slice a ss.length cap]) ss := fun W hW =>
    ⟨_, rfl, (Hs.out.move hk0 fun q hq _ => ⟨trivial, (show q < w.heap.size from hq)⟩).move hW fun q _ h => ⟨by omega, by omega⟩⟩
  have hbr : w.heap.size ≠ w.heap.size + 1 := by omega
  have hrb : w.heap.size + 1 < W0.heap.size := by omega
  gi_wp2
  obtain ⟨bx, hbE⟩ : ∃ bx, w.heap.size = bx := ⟨_, rfl⟩
  obtain ⟨rb, hrE⟩ : ∃ rb, w.heap.size + 1 = rb := ⟨_, rfl⟩
  rw [hrE] at hrr hpr hbr hrb ⊢
  rw [hbE] at hbx hbr ⊢
  have HbE := hid hbE
  have HrE := hid hrE
  clear hbE hrE hk1
  refine wpIn_region_inv (OrdReg bx rb ss.length (.slice a ss.length cap) (orderedM ss)) mixed (by kernel_rfl) ?start ⟨?o0, ?o1, ?o2, ?o3, ?o4, ?o5, ?o6, ?o7, ?o8, ?o9, ?o10, ?o11, ?o12, ?o13, ?o14, trivial⟩ ?fin
  case start =>
    refine ⟨0, none, 0, by simp only [sIs_nil, sIs_cons, sI_false], (Keeps.refl _ _).drew, ?_, ?_, hrr, ?_, ?_, ?_, ?_, ?_⟩
    all_goals (intro h; cases h)
  case o0 =>
    rintro b' a' w' hb hd ⟨nb, a3, c3, rfl, hk, hn8, hres, hrow, h98, h109, h1110, h1211, h1312⟩
    have g0 : w'.cell? ⟨bx, 0, none⟩ = some (.slice a ss.length cap) := hk.cell (p := ⟨bx, 0, none⟩) hbr (hbx.cell 0)
    simp only [sIs_nil, sIs_cons, sI_lit, lset_zero, lset_succ]
    gi_wp2
    refine ⟨nb, a3, c3, by simp [sIs_nil, sIs_cons, sI_lit, lset_zero, lset_succ, mark], hk, ?_, ?_, ?_, ?_, ?_, ?_, ?_, ?_⟩
    all_goals (simp only [mark, if_false, Nat.reduceEqDiff]; assumption)
  case o1 =>
    rintro b' a' w' hb hd ⟨nb, a3, c3, rfl, hk, hn8, hres, hrow, h98, h109, h1110, h1211, h1312⟩
    simp only [sIs_nil, sIs_cons, sI_lit, lset_zero, lset_succ]
    gi_wp2
    refine ⟨nb, a3, c3, by simp [sIs_nil, sIs_cons, sI_lit, lset_zero, lset_succ, mark], hk, ?_, ?_, ?_, ?_, ?_, ?_, ?_, ?_⟩
    all_goals (simp only [mark, if_false, Nat.reduceEqDiff]; assumption)
  case o2 =>
    rintro b' a' w' hb hd ⟨nb, a3, c3, rfl, hk, hn8, hres, hrow, h98, h109, h1110, h1211, h1312⟩
    simp [Region.binds] at hd
    have g0 : w'.cell? ⟨bx, 0, none⟩ = some (.slice a ss.length cap) := hk.cell (p := ⟨bx, 0, none⟩) hbr (hbx.cell 0)
    simp only [sIs_nil, sIs_cons, sI_lit, lset_zero, lset_succ, hd, cond_true]
    gi_wp2
    refine ⟨nb, a3, c3, by simp [sIs_nil, sIs_cons, sI_lit, lset_zero, lset_succ, mark, hd], hk, ?_, ?_, ?_, ?_, ?_, ?_, ?_, ?_⟩
    all_goals (simp only [mark, if_false, Nat.reduceEqDiff]; assumption)
  case o3 =>
    rintro b' a' w' hb hd ⟨nb, a3, c3, rfl, hk, hn8, hres, hrow, h98, h109, h1110, h1211, h1312⟩
    simp [Region.binds] at hd
    simp only [sIs_nil, sIs_cons, sI_lit, lset_zero, lset_succ, hd, cond_true]
    gi_wp2
    refine ⟨nb, a3, c3, by simp [sIs_nil, sIs_cons, sI_lit, lset_zero, lset_succ, mark, hd], hk, ?_, ?_, ?_, ?_, ?_, ?_, ?_, ?_⟩
    all_goals (simp only [mark, if_false, Nat.reduceEqDiff]; assumption)
  case o4 =>
    rintro b' a' w' hb hd ⟨nb, a3, c3, rfl, hk, hn8, hres, hrow, h98, h109, h1110, h1211, h1312⟩
    simp [Region.binds] at hd
    simp only [sIs_nil, sIs_cons, sI_lit, lset_zero, lset_succ, hd, cond_true]
    gi_wp2
    refine ⟨nb, a3, c3, by simp [sIs_nil, sIs_cons, sI_lit, lset_zero, lset_succ, mark, hd], hk, ?_, ?_, ?_, ?_, ?_, ?_, ?_, ?_⟩
    all_goals (simp only [mark, if_false, Nat.reduceEqDiff]; assumption)
  case o5 =>
    rintro b' a' w' hb hd ⟨nb, a3, c3, rfl, hk, hn8, hres, hrow, h98, h109, h1110, h1211, h1312⟩
    simp only [sIs_nil, sIs_cons, sI_lit, lset_zero, lset_succ]
    gi_wp2
    refine ⟨nb, a3, c3, by simp [sIs_nil, sIs_cons, sI_lit, lset_zero, lset_succ, mark], hk, ?_, ?_, ?_, ?_, ?_, ?_, ?_, ?_⟩
    all_goals (simp only [mark, if_false, Nat.reduceEqDiff]; assumption)
  case o6 =>
    rintro b' a' w' hb hd ⟨nb, a3, c3, rfl, hk, hn8, hres, hrow, h98, h109, h1110, h1211, h1312⟩
    simp [Region.binds] at hd
    have g0 : w'.cell? ⟨bx, 0, none⟩ = some (.slice a ss.length cap) := hk.cell (p := ⟨bx, 0, none⟩) hbr (hbx.cell 0)
    simp only [sIs_nil, sIs_cons, sI_lit, lset_zero, lset_succ, hd, cond_true]
    gi_wp2
    refine ⟨nb, a3, c3, by simp [sIs_nil, sIs_cons, sI_lit, lset_zero, lset_succ, mark, hd], hk, ?_, ?_, ?_, ?_, ?_, ?_, ?_, ?_⟩
    all_goals (simp only [mark, if_false, Nat.reduceEqDiff]; assumption)
  case o7 =>
    rintro b' a' w' hb hd ⟨nb, a3, c3, rfl, hk, hn8, hres, hrow, h98, h109, h1110, h1211, h1312⟩
    simp [Region.binds] at hd
    simp only [sIs_nil, sIs_cons, sI_lit, lset_zero, lset_succ, hd, cond_true]
    gi_wp2
    refine ⟨nb, a3, c3, by simp [sIs_nil, sIs_cons, sI_lit, lset_zero, lset_succ, mark, hd], hk, ?_, ?_, ?_, ?_, ?_, ?_, ?_, ?_⟩
    all_goals (simp only [mark, if_false, Nat.reduceEqDiff]; assumption)
  case o8 =>
    rintro b' a' w' hb hd ⟨nb, a3, c3, rfl, hk, hn8, hres, hrow, h98, h109, h1110, h1211, h1312⟩
    simp [Region.binds] at hd
    have n9 : b' 9 = false := by
      cases h : b' 9 with
      | false => rfl
      | true => rw [h98 h] at hb; cases hb
    have n10 : b' 10 = false := by
      cases h : b' 10 with
      | false => rfl
      | true => rw [h109 h] at n9; cases n9
    have hcall := rnone_c ss.length w' (by omega)
    simp only [sIs_nil, sIs_cons, sI_lit, lset_zero, lset_succ, hd, cond_true]
    gi_wp2
    refine ⟨trivial, ?_⟩
    refine (callsIn_wide.2 hcall).mono ?_
    clear hcall
    rintro e w3 ⟨nb', rfl, hnb, hrn, hk3⟩
    gi_wp2
    refine ⟨nb', a3, c3, by simp [sIs_nil, sIs_cons, sI_lit, lset_zero, lset_succ, mark, hd, n9, n10], hk.trans (hk3.sub fun _ _ _ => trivial), fun _ _ => ⟨Nat.le_trans hk.size hnb, hrn⟩, ?_, ?_, fun _ => mark_self _ _, ?_, ?_, ?_, ?_⟩
    · simp [mark, n10]
    · simp only [mark, if_false, Nat.reduceEqDiff]; exact hrow.keep hk3 trivial
    all_goals (simp only [mark, if_false, Nat.reduceEqDiff]; assumption)
  case o9 =>
    rintro b' a' w' hb hd ⟨nb, a3, c3, rfl, hk, hn8, hres, hrow, h98, h109, h1110, h1211, h1312⟩
    simp [Region.binds] at hd
    simp only [sIs_nil, sIs_cons, sI_lit, lset_zero, lset_succ, hd, cond_true]
    gi_wp2
    refine ⟨nb, a3, c3, by simp [sIs_nil, sIs_cons, sI_lit, lset_zero, lset_succ, mark, hd], hk, ?_, ?_, ?_, fun _ => mark_mono _ hd, fun _ => mark_self _ _, ?_, ?_, ?_⟩
    all_goals (simp only [mark, if_false, Nat.reduceEqDiff]; assumption)
  case o10 =>
    rintro b' a' w' hb hd ⟨nb, a3, c3, rfl, hk, hn8, hres, hrow, h98, h109, h1110, h1211, h1312⟩
    have e9 : b' 9 = true := hd { on := 9, ground := Ground.data } (by simp) rfl
    simp [Region.binds] at hd
    have n11 : b' 11 = false := by
      cases h : b' 11 with
      | false => rfl
      | true => rw [h1110 h] at hb; cases hb
    have n12 : b' 12 = false := by
      cases h : b' 12 with
      | false => rfl
      | true => rw [h1211 h] at n11; cases n11
    have n13 : b' 13 = false := by
      cases h : b' 13 with
      | false => rfl
      | true => rw [h1312 h] at n12; cases n12
    obtain ⟨hnb, hrn⟩ := hn8 (h98 e9) hb
    have hcall := visit_all ss Hok.out (.agg #[.slice a ss.length cap]) nb W0.heap.size w' (by obtain ⟨u, hu, hs⟩ := hpr w' hk; exact ⟨u, hu, hs.sub fun q _ h => by omega⟩) hrn hnb
    simp only [sIs_nil, sIs_cons, sI_lit, lset_zero, lset_succ, hd, cond_true]
    gi_wp2
    refine ⟨trivial, ?_⟩
    refine (callsIn_wide.2 hcall).mono ?_
    clear hcall
    rintro e w3 ⟨a3', c3', rfl, hst, hk3⟩
    gi_wp2
    refine ⟨nb, a3', c3', by simp [sIs_nil, sIs_cons, sI_lit, lset_zero, lset_succ, mark, hd, n11, n12], hk.trans2 hk3 fun q hq _ => by omega, ?_, fun _ => hst, ?_, ?_, fun _ => mark_mono _ e9, fun _ => mark_self _ _, ?_, ?_⟩
    · simp [mark]
    · simp only [mark, if_false, Nat.reduceEqDiff, n13, cond_false] at hrow ⊢
      exact hrow.keep hk3 (by omega)
    all_goals (simp only [mark, if_false, Nat.reduceEqDiff]; assumption)
  case o11 =>
    rintro b' a' w' hb hd ⟨nb, a3, c3, rfl, hk, hn8, hres, hrow, h98, h109, h1110, h1211, h1312⟩
    have hfo := field_order
    simp [Region.binds] at hd
    simp only [sIs_nil, sIs_cons, sI_lit, lset_zero, lset_succ, hd, cond_true]
    gi_wp2
    refine ⟨nb, a3, c3, by simp [sIs_nil, sIs_cons, sI_lit, lset_zero, lset_succ, mark, hd], hk, ?_, ?_, ?_, ?_, ?_, fun _ => mark_mono _ hd, fun _ => mark_self _ _, ?_⟩
    all_goals (simp only [mark, if_false, Nat.reduceEqDiff]; assumption)
  case o12 =>
    rintro b' a' w' hb hd ⟨nb, a3, c3, rfl, hk, hn8, hres, hrow, h98, h109, h1110, h1211, h1312⟩
    simp [Region.binds] at hd
    simp only [sIs_nil, sIs_cons, sI_lit, lset_zero, lset_succ, hd, cond_true]
    gi_wp2
    refine ⟨nb, a3, c3, by simp [sIs_nil, sIs_cons, sI_lit, lset_zero, lset_succ, mark, hd], hk, ?_, ?_, ?_, ?_, ?_, ?_, fun _ => mark_mono _ hd, fun _ => mark_self _ _⟩
    all_goals (simp only [mark, if_false, Nat.reduceEqDiff]; assumption)
  case o13 =>
    rintro b' a' w' hb hd ⟨nb, a3, c3, rfl, hk, hn8, hres, hrow, h98, h109, h1110, h1211, h1312⟩
    have e12 : b' 12 = true := hd { on := 12, ground := Ground.data } (by simp) rfl
    simp [Region.binds] at hd
    have hr2 := hrow
    rw [hb, cond_false] at hr2
    obtain ⟨g1, g2⟩ := hr2.one
    have hst := hres (h1110 (h1211 e12))
    simp only [sIs_nil, sIs_cons, sI_lit, lset_zero, lset_succ, hd, cond_true]
    gi_wp2
    refine ⟨nb, a3, c3, by simp [sIs_nil, sIs_cons, sI_lit, lset_zero, lset_succ, mark, hd], hk.setCell (fun _ h => h rfl) _, fun _ h => ?_, fun _ => ?_, ?_, ?_, ?_, ?_, ?_, fun _ => mark_mono _ e12⟩
    · have h10 := h1110 (h1211 e12)
      simp [mark, h10] at h
    · exact hst.keep ((Keeps.refl (fun q => q ≠ rb) _).setCell (fun _ h => h rfl) _) fun q _ h => by omega
    · simp only [mark, if_true, cond_true]; exact hr2.set 0 _
    all_goals (simp only [mark, if_false, Nat.reduceEqDiff]; assumption)
  case o14 =>
    rintro b' a' w' hb hd ⟨nb, a3, c3, rfl, hk, hn8, hres, hrow, h98, h109, h1110, h1211, h1312⟩
    simp [Region.binds] at hd
    simp only [sIs_nil, sIs_cons, sI_lit, lset_zero, lset_succ, hd, cond_true]
    gi_wp2
    refine ⟨nb, a3, c3, by simp [sIs_nil, sIs_cons, sI_lit, lset_zero, lset_succ, mark, hd], hk, ?_, ?_, ?_, ?_, ?_, ?_, ?_, ?_⟩
    all_goals (simp only [mark, if_false, Nat.reduceEqDiff]; assumption)
  case fin =>
    rintro b' a' w' hb ⟨nb, a3, c3, rfl, hk, -, hres, hrow, -, -, -, -, -⟩
    have e0 := hb 0 (by decide)
    have e1 := hb 1 (by decide)
    have e2 := hb 2 (by decide)
    have e3 := hb 3 (by decide)
    have e4 := hb 4 (by decide)
    have e5 := hb 5 (by decide)
    have e6 := hb 6 (by decide)
    have e7 := hb 7 (by decide)
    have e8 := hb 8 (by decide)
    have e9 := hb 9 (by decide)
    have e10 := hb 10 (by decide)
    have e11 := hb 11 (by decide)
    have e12 := hb 12 (by decide)
    have e13 := hb 13 (by decide)
    have e14 := hb 14 (by decide)
    clear hb
    simp only [sIs_nil, sIs_cons, sI_lit, lset_zero, lset_succ, e0, e1, e2, e3, e4, e5, e6, e7, e8, e9, e10, e11, e12, e14, cond_true]
    rw [e13, cond_true] at hrow
    have hst := hres e10
    clear hres e0 e1 e2 e3 e4 e5 e6 e7 e8 e9 e10 e11 e12 e13 e14
    have k2 := hrow.one
    gi_wp2
    refine bodyPost_ret (v := .tuple #[.agg #[.slice a3 (orderedM ss).length c3], .int .i64 0]) (by simp [results, Tryd.results17, go_sem, k2]) rfl ⟨a3, c3, rfl, hst.sub fun _ _ _ => trivial, ?_⟩
    exact hk0.upto hk fun q hq => by have := HrE.out; omega

end Go.Proofs.YtcbmljfgmeeadaaDoor
