/-
  WHAT A PROOF's CELLS HOLD LIES IN NO BOX OF A SLICE.
  CONTRACTS: the reference's merged, Shared, Share.
  CONTRACT: the reference's Same.
-/
import Derived.Test.YtcbmljfgmeeadaaDoorOwn
import Derived.Test.YtcbmljfgmeeadaaDoorR7
import Derived.Test.YtcbmljfgmeeadaaDoorG22
import Derived.Test.YtcbmljfgmeeadaaDoorG16
import Derived.Test.YtcbmljfgmeeadaaDoorJP
namespace Go.Proofs.YtcbmljfgmeeadaaDoor
open Go.RowKit

/-- What a proof's cells hold lies in no box of a slice. -/
theorem IsInts.off {w : World} {v : Value} {xs : List Int} {nb : Nat} {p : Option Addr} {q r : Nat} {e : TypeId} (h : IsInts All w v xs) (hr : IsRow w nb e [.slice p q r]) : IsInts (fun k => k ≠ nb) w v xs := by
  obtain ⟨a, cap, hv, hl, hx, h⟩ := h
  refine ⟨a, cap, hv, hl, hx, ?_⟩
  rcases h with h | ⟨b, off, ha, hB, _, hc⟩
  · exact Or.inl h
  · by_cases h0 : xs.length = 0
    · exact Or.inl ⟨List.eq_nil_of_length_eq_zero h0, trivial⟩
    · refine Or.inr ⟨b, off, ha, hB, fun e => ?_, hc⟩
      subst e
      have h1 := hc 0 (by omega)
      rw [hr.cell (off + 0)] at h1
      rcases off with _ | off <;> simp at h1
theorem IsSteps.off {w : World} {v : Value} {ss : List Stp} {nb : Nat} {p : Option Addr} {q r : Nat} {e : TypeId} (h : IsSteps All w v ss) (hr : IsRow w nb e [.slice p q r]) : IsSteps (fun k => k ≠ nb) w v ss := by
  obtain ⟨a, cap, hv, hl, h⟩ := h
  refine ⟨a, cap, hv, hl, ?_⟩
  rcases h with h | ⟨b, off, ha, hB, _, hc⟩
  · exact Or.inl h
  · by_cases h0 : ss.length = 0
    · exact Or.inl ⟨List.eq_nil_of_length_eq_zero h0, trivial⟩
    · refine Or.inr ⟨b, off, ha, hB, fun e => ?_, fun i hi => ?_⟩
      · subst e
        have h1 := (hc 0 (by omega)).1
        rw [hr.cell (off + 0 * 2)] at h1
        rcases off with _ | off <;> simp at h1
      · obtain ⟨h1, va, h2, h3⟩ := hc i hi
        exact ⟨h1, va, h2, h3.off hr⟩
theorem IsProof.off {w : World} {v : Value} {ss : List Stp} {nb : Nat} {p : Option Addr} {q r : Nat} {e : TypeId} (h : IsProof All w v ss) (hr : IsRow w nb e [.slice p q r]) : IsProof (fun k => k ≠ nb) w v ss := by
  obtain ⟨u, hu, h⟩ := h
  exact ⟨u, hu, h.off hr⟩
theorem IsProof.keep2 {S S' T : Nat → Prop} {w w' : World} {v : Value} {ss : List Stp} (h : IsProof S w v ss) (hk : Keeps T w w') (hs : ∀ k, k < w.heap.size → S k → S' k ∧ T k) : IsProof S' w' v ss := by
  obtain ⟨u, hu, h⟩ := h
  exact ⟨u, hu, h.move hk fun k hk hS => ⟨(hs k hk hS).2, (hs k hk hS).1⟩⟩

end Go.Proofs.YtcbmljfgmeeadaaDoor

namespace Go.Proofs.YtcbmljfgmeeadaaDoor
open Go.RowKit

attribute [local go_sem] Oper.semAt_some

set_option maxHeartbeats 1000000 in
theorem rmerged_c (ss : List Stp) (hok : Okay ss) (v : Value) (w : World) (hv : IsSteps All w v ss) :
    Calls Tryd.prog 50 #[v] w fun e w' => ∃ a c, e = .returned (.slice a (mergedM ss).length c) ∧ IsSteps All w' (.slice a (mergedM ss).length c) (mergedM ss) ∧ Keeps All w w' := by
  have hcall := rMerged_c ss hok v w hv
  obtain ⟨hl1, hl2, _⟩ := mgLast_spec hok
  have h1 := hok.1
  have h2 := hok.2.1
  have hml : Hid ((mergedM ss).length = mgLast ss + 1) := by rw [Hid, mergedM, List.length_take]; omega
  have hmm : Hid (mergedM ss = (mgTo ss ss.length).1.take (mgLast ss + 1)) := rfl
  have hol := (mgTo_st hok ss.length (Nat.le_refl _)).olen
  have hnl := hid (mgTo_st hok ss.length (Nat.le_refl _)).len
  obtain ⟨a, cap, rfl⟩ := hv.form
  have Hl1 := hid hl1
  clear hl1 hv
  generalize hM : (mgTo ss ss.length).1 = M at *
  generalize hN : (mgTo ss ss.length).2 = nw at *
  generalize mgLast ss = x at *
  clear hM hN
  go_enter Tryd.func50, Tryd.ntmps50
  go_wp2_with (go_at_call 62; refine Hid.out ?_)
  refine hid ?_
  refine hcall.mono ?_
  clear hcall
  rintro e w1 ⟨g, c, gn, cn, rfl, hc1, hc2, hst, hown, hk⟩
  unfold maxLen at hc2
  have hxl : ss.length - 1 < nw.length := by rw [hnl.out]; omega
  have d0 : w1.cell? ⟨gn, ss.length - 1, none⟩ = some (.int .i64 (x : Int)) := by
    rw [owns_int_at hown hxl]
    have h := Hl1.out
    rw [List.getElem?_eq_getElem hxl] at h
    rw [Option.some.inj h]
  have hka : Keeps All w1 (w1.alloc (.cells #[.slice (some ⟨g, 0, none⟩) M.length c, .slice (some ⟨gn, 0, none⟩) ss.length cn] 84)) := (Keeps.refl _ _).alloc _
  have d1 : (w1.alloc (.cells #[.slice (some ⟨g, 0, none⟩) M.length c, .slice (some ⟨gn, 0, none⟩) ss.length cn] 84)).cell? ⟨gn, ss.length - 1, none⟩ = some (.int .i64 (x : Int)) := hka.cell (p := ⟨gn, ss.length - 1, none⟩) trivial d0
  have Hst := hid hst
  clear hown hst d0 hxl
  go_wp2
  go_region
  go_wp2
  go_ret
  refine ⟨some ⟨g, 0, none⟩, c, by rw [hml.out]; rfl, ?_, (hk.trans hka).trans (Keeps.refl All _).drew⟩
  have h := (Hst.out.keep hka fun _ _ h => h).first (k := x + 1) (by omega)
  rw [hml.out, hmm.out]
  exact h

/-- The region that visits a whole proof. -/
def ShdReg (bx rb n : Nat) (ua : Value) (os : List Stp) (T : Array Value) (W0 : World) (b : Nat → Bool) (a' : Act) (w' : World) : Prop :=
  ∃ (nb : Nat) (a3 : Option Addr) (c3 : Nat), a' = Act.mk (sIs T [(b 0, 8, .agg #[ua]), (b 1, 9, .pointer (some ⟨bx, 0, none⟩)), (b 2, 10, ua), (b 3, 11, .int .i64 (n : Int)), (b 4, 12, .int .i64 ((n : Int) - 1)), (b 5, 13, .pointer (some ⟨bx, 0, none⟩)), (b 6, 14, ua), (b 7, 15, .int .i64 (n : Int)),
      (b 8, 16, .slice (some ⟨nb, 0, none⟩) n n), (b 9, 17, .agg #[.slice none 0 0, .slice (some ⟨nb, 0, none⟩) n n]), (b 10, 18, .agg #[.slice a3 os.length c3, .slice (some ⟨nb, 0, none⟩) n n]), (b 11, 19, .slice a3 os.length c3), (b 12, 20, .agg #[.slice a3 os.length c3])]) [] ∧
    Keeps (fun q => q ≠ rb) W0 w' ∧ (b 8 = true → b 10 = false → W0.heap.size ≤ nb ∧ IsRow w' nb 3 (ints (List.replicate n (-1)))) ∧ (b 10 = true → IsSteps (fun q => W0.heap.size ≤ q) w' (.slice a3 os.length c3) os) ∧
    IsRow w' rb 24 [bif b 13 then .slice a3 os.length c3 else .slice none 0 0] ∧ (b 9 = true → b 8 = true) ∧ (b 10 = true → b 9 = true) ∧ (b 11 = true → b 10 = true) ∧ (b 12 = true → b 11 = true) ∧ (b 13 = true → b 12 = true)

set_option maxHeartbeats 4000000 in
theorem rShared_c (ss : List Stp) (hok : Okay ss) (v : Value) (w : World) (hv : IsProof All w v ss) :
    Calls Tryd.prog 47 #[v] w fun e w' => ∃ a c, e = .returned (.agg #[.slice a (shareM ss).length c]) ∧ IsSteps All w' (.slice a (shareM ss).length c) (shareM ss) ∧ Keeps All w w' := by
  obtain ⟨u, rfl, hs⟩ := hv
  have hcall := rmerged_c ss hok u ((w.alloc (.cells #[u] 24)).alloc (.cells #[.slice none 0 0] 24)) (hs.keep (((Keeps.refl _ _).alloc _).alloc _) fun _ _ h => h)
  have hqo := (mergedM_spec hok).1
  have hqs := share_ref hok
  obtain ⟨qs, hq⟩ : ∃ qs, mergedM ss = qs := ⟨_, rfl⟩
  rw [hq] at hcall hqo hqs
  rw [← hqs]
  have hlen : qs.length ≤ 2000 := hqo.2.1
  have hlen1 : 1 ≤ qs.length := hqo.1
  have Hok := hid hqo
  obtain ⟨a0, cap0, rfl⟩ := hs.form
  clear hs hqo hqs hq
  refine (callsIn_wide (n := 5)).1 ?_
  refine callsIn_of_wp Tryd.func47 rfl trivial ?_ rfl
  simp only [Tryd.ntmps47, List.size_toArray, List.length_cons, List.length_nil, Nat.reduceAdd, Nat.reduceSub, Array.replicate_succ, Array.replicate_zero, List.push_toArray, List.append_toArray, List.nil_append, List.cons_append]
  gi_wp2
  refine ⟨trivial, ?_⟩
  refine (callsIn_wide.2 hcall).mono ?_
  clear hcall
  rintro e w3 ⟨a, cap, rfl, hst, hk1⟩
  have hk0 : Keeps All w w3 := (((Keeps.refl _ _).alloc _).alloc _).trans hk1
  have hsz := hk1.size
  simp at hsz
  have hrr3 : IsRow w3 (w.heap.size + 1) 24 [.slice none 0 0] := IsRow.keep (S := All) (IsRow.newAt (by simp)) hk1 trivial
  have hka : Keeps All w3 (w3.alloc (.cells #[.slice a qs.length cap] 24)) := (Keeps.refl _ _).alloc _
  have hbx0 : IsRow (w3.alloc (.cells #[.slice a qs.length cap] 24)) w3.heap.size 24 [.slice a qs.length cap] := IsRow.new _ _ _
  have hrr := hrr3.keep hka trivial
  have hst0 := hst.keep hka fun _ _ h => h
  have hsz2 : w3.heap.size < (w3.alloc (.cells #[.slice a qs.length cap] 24)).heap.size := by simp
  have hk00 := hk0.trans hka
  have Hst := hid hst0
  clear hst hst0 hrr3
  gi_wp2
  generalize w3.alloc (.cells #[.slice a qs.length cap] 24) = W0 at *
  have hpr : ∀ W, Keeps (fun q => q ≠ w.heap.size + 1) W0 W → IsProof (fun q => q < W0.heap.size) W (.agg #[.slice a qs.length cap]) qs := fun W hW =>
    ⟨_, rfl, ((Hst.out.off hrr).move (Keeps.refl All W0) fun q hq h => ⟨trivial, (show q < W0.heap.size ∧ q ≠ w.heap.size + 1 from ⟨hq, h⟩)⟩).move hW fun q _ h => ⟨h.2, h.1⟩⟩
  have hbr : w3.heap.size ≠ w.heap.size + 1 := by omega
  have hrb : w.heap.size + 1 < W0.heap.size := by omega
  obtain ⟨bx, hbE⟩ : ∃ bx, w3.heap.size = bx := ⟨_, rfl⟩
  obtain ⟨rb, hrE⟩ : ∃ rb, w.heap.size + 1 = rb := ⟨_, rfl⟩
  have hbx := hbx0
  rw [hrE] at hrr hpr hbr hrb ⊢
  rw [hbE] at hbx hbr ⊢
  have HrE := hid hrE
  clear hbE hrE hk1 hka hbx0 hsz2
  refine wpIn_region_inv (ShdReg bx rb qs.length (.slice a qs.length cap) (orderedM qs)) mixed (by kernel_rfl) ?start ⟨?o0, ?o1, ?o2, ?o3, ?o4, ?o5, ?o6, ?o7, ?o8, ?o9, ?o10, ?o11, ?o12, ?o13, trivial⟩ ?fin
  case start =>
    refine ⟨0, none, 0, by simp only [sIs_nil, sIs_cons, sI_false], (Keeps.refl _ _).drew, ?_, ?_, hrr, ?_, ?_, ?_, ?_, ?_⟩
    all_goals (intro h; cases h)
  case o0 =>
    rintro b' a' w' hb hd ⟨nb, a3, c3, rfl, hk, hn8, hres, hrow, h98, h109, h1110, h1211, h1312⟩
    have g0 : w'.cell? ⟨bx, 0, none⟩ = some (.slice a qs.length cap) := hk.cell (p := ⟨bx, 0, none⟩) hbr (hbx.cell 0)
    simp only [sIs_nil, sIs_cons, sI_lit, lset_zero, lset_succ]
    gi_wp2
    refine ⟨nb, a3, c3, by simp [sIs_nil, sIs_cons, sI_lit, lset_zero, lset_succ, mark], hk, ?_, ?_, ?_, ?_, ?_, ?_, ?_, ?_⟩
    all_goals (simp only [mark, if_false, Nat.reduceEqDiff]; assumption)
  case o1 =>
    rintro b' a' w' hb hd ⟨nb, a3, c3, rfl, hk, hn8, hres, hrow, h98, h109, h1110, h1211, h1312⟩
    simp only [sIs_nil, sIs_cons, sI_lit, lset_zero, lset_succ]
    gi_wp2
    refine ⟨nb, a3, c3, by simp [sIs_nil, sIs_cons, sI_lit, lset_zero, lset_succ, mark], hk, ?_, ?_, ?_, ?_, ?_, ?_, ?_, ?_⟩
    all_goals (simp only [mark, if_false, Nat.reduceEqDiff]; assumption)
  case o2 =>
    rintro b' a' w' hb hd ⟨nb, a3, c3, rfl, hk, hn8, hres, hrow, h98, h109, h1110, h1211, h1312⟩
    simp [Region.binds] at hd
    have g0 : w'.cell? ⟨bx, 0, none⟩ = some (.slice a qs.length cap) := hk.cell (p := ⟨bx, 0, none⟩) hbr (hbx.cell 0)
    simp only [sIs_nil, sIs_cons, sI_lit, lset_zero, lset_succ, hd, cond_true]
    gi_wp2
    refine ⟨nb, a3, c3, by simp [sIs_nil, sIs_cons, sI_lit, lset_zero, lset_succ, mark, hd], hk, ?_, ?_, ?_, ?_, ?_, ?_, ?_, ?_⟩
    all_goals (simp only [mark, if_false, Nat.reduceEqDiff]; assumption)
  case o3 =>
    rintro b' a' w' hb hd ⟨nb, a3, c3, rfl, hk, hn8, hres, hrow, h98, h109, h1110, h1211, h1312⟩
    simp [Region.binds] at hd
    simp only [sIs_nil, sIs_cons, sI_lit, lset_zero, lset_succ, hd, cond_true]
    gi_wp2
    refine ⟨nb, a3, c3, by simp [sIs_nil, sIs_cons, sI_lit, lset_zero, lset_succ, mark, hd], hk, ?_, ?_, ?_, ?_, ?_, ?_, ?_, ?_⟩
    all_goals (simp only [mark, if_false, Nat.reduceEqDiff]; assumption)
  case o4 =>
    rintro b' a' w' hb hd ⟨nb, a3, c3, rfl, hk, hn8, hres, hrow, h98, h109, h1110, h1211, h1312⟩
    simp [Region.binds] at hd
    simp only [sIs_nil, sIs_cons, sI_lit, lset_zero, lset_succ, hd, cond_true]
    gi_wp2
    refine ⟨nb, a3, c3, by simp [sIs_nil, sIs_cons, sI_lit, lset_zero, lset_succ, mark, hd], hk, ?_, ?_, ?_, ?_, ?_, ?_, ?_, ?_⟩
    all_goals (simp only [mark, if_false, Nat.reduceEqDiff]; assumption)
  case o5 =>
    rintro b' a' w' hb hd ⟨nb, a3, c3, rfl, hk, hn8, hres, hrow, h98, h109, h1110, h1211, h1312⟩
    simp only [sIs_nil, sIs_cons, sI_lit, lset_zero, lset_succ]
    gi_wp2
    refine ⟨nb, a3, c3, by simp [sIs_nil, sIs_cons, sI_lit, lset_zero, lset_succ, mark], hk, ?_, ?_, ?_, ?_, ?_, ?_, ?_, ?_⟩
    all_goals (simp only [mark, if_false, Nat.reduceEqDiff]; assumption)
  case o6 =>
    rintro b' a' w' hb hd ⟨nb, a3, c3, rfl, hk, hn8, hres, hrow, h98, h109, h1110, h1211, h1312⟩
    simp [Region.binds] at hd
    have g0 : w'.cell? ⟨bx, 0, none⟩ = some (.slice a qs.length cap) := hk.cell (p := ⟨bx, 0, none⟩) hbr (hbx.cell 0)
    simp only [sIs_nil, sIs_cons, sI_lit, lset_zero, lset_succ, hd, cond_true]
    gi_wp2
    refine ⟨nb, a3, c3, by simp [sIs_nil, sIs_cons, sI_lit, lset_zero, lset_succ, mark, hd], hk, ?_, ?_, ?_, ?_, ?_, ?_, ?_, ?_⟩
    all_goals (simp only [mark, if_false, Nat.reduceEqDiff]; assumption)
  case o7 =>
    rintro b' a' w' hb hd ⟨nb, a3, c3, rfl, hk, hn8, hres, hrow, h98, h109, h1110, h1211, h1312⟩
    simp [Region.binds] at hd
    simp only [sIs_nil, sIs_cons, sI_lit, lset_zero, lset_succ, hd, cond_true]
    gi_wp2
    refine ⟨nb, a3, c3, by simp [sIs_nil, sIs_cons, sI_lit, lset_zero, lset_succ, mark, hd], hk, ?_, ?_, ?_, ?_, ?_, ?_, ?_, ?_⟩
    all_goals (simp only [mark, if_false, Nat.reduceEqDiff]; assumption)
  case o8 =>
    rintro b' a' w' hb hd ⟨nb, a3, c3, rfl, hk, hn8, hres, hrow, h98, h109, h1110, h1211, h1312⟩
    simp [Region.binds] at hd
    have n9 : b' 9 = false := by
      cases h : b' 9 with
      | false => rfl
      | true => rw [h98 h] at hb; cases hb
    have n10 : b' 10 = false := by
      cases h : b' 10 with
      | false => rfl
      | true => rw [h109 h] at n9; cases n9
    have hcall := rnone_c qs.length w' (by omega)
    simp only [sIs_nil, sIs_cons, sI_lit, lset_zero, lset_succ, hd, cond_true]
    gi_wp2
    refine ⟨trivial, ?_⟩
    refine (callsIn_wide.2 hcall).mono ?_
    clear hcall
    rintro e w3 ⟨nb', rfl, hnb, hrn, hk3⟩
    gi_wp2
    refine ⟨nb', a3, c3, by simp [sIs_nil, sIs_cons, sI_lit, lset_zero, lset_succ, mark, hd, n9, n10], hk.trans (hk3.sub fun _ _ _ => trivial), fun _ _ => ⟨Nat.le_trans hk.size hnb, hrn⟩, ?_, ?_, fun _ => mark_self _ _, ?_, ?_, ?_, ?_⟩
    · simp [mark, n10]
    · simp only [mark, if_false, Nat.reduceEqDiff]; exact hrow.keep hk3 trivial
    all_goals (simp only [mark, if_false, Nat.reduceEqDiff]; assumption)
  case o9 =>
    rintro b' a' w' hb hd ⟨nb, a3, c3, rfl, hk, hn8, hres, hrow, h98, h109, h1110, h1211, h1312⟩
    simp [Region.binds] at hd
    simp only [sIs_nil, sIs_cons, sI_lit, lset_zero, lset_succ, hd, cond_true]
    gi_wp2
    refine ⟨nb, a3, c3, by simp [sIs_nil, sIs_cons, sI_lit, lset_zero, lset_succ, mark, hd], hk, ?_, ?_, ?_, fun _ => mark_mono _ hd, fun _ => mark_self _ _, ?_, ?_, ?_⟩
    all_goals (simp only [mark, if_false, Nat.reduceEqDiff]; assumption)
  case o10 =>
    rintro b' a' w' hb hd ⟨nb, a3, c3, rfl, hk, hn8, hres, hrow, h98, h109, h1110, h1211, h1312⟩
    have e9 : b' 9 = true := hd { on := 9, ground := Ground.data } (by simp) rfl
    simp [Region.binds] at hd
    have n11 : b' 11 = false := by
      cases h : b' 11 with
      | false => rfl
      | true => rw [h1110 h] at hb; cases hb
    have n12 : b' 12 = false := by
      cases h : b' 12 with
      | false => rfl
      | true => rw [h1211 h] at n11; cases n11
    have n13 : b' 13 = false := by
      cases h : b' 13 with
      | false => rfl
      | true => rw [h1312 h] at n12; cases n12
    obtain ⟨hnb, hrn⟩ := hn8 (h98 e9) hb
    have hcall := visit_all qs Hok.out (.agg #[.slice a qs.length cap]) nb W0.heap.size w' (by obtain ⟨u, hu, hs⟩ := hpr w' hk; exact ⟨u, hu, hs.sub fun q _ h => by omega⟩) hrn hnb
    simp only [sIs_nil, sIs_cons, sI_lit, lset_zero, lset_succ, hd, cond_true]
    gi_wp2
    refine ⟨trivial, ?_⟩
    refine (callsIn_wide.2 hcall).mono ?_
    clear hcall
    rintro e w3 ⟨a3', c3', rfl, hst, hk3⟩
    gi_wp2
    refine ⟨nb, a3', c3', by simp [sIs_nil, sIs_cons, sI_lit, lset_zero, lset_succ, mark, hd, n11, n12], hk.trans2 hk3 fun q hq _ => by omega, ?_, fun _ => hst, ?_, ?_, fun _ => mark_mono _ e9, fun _ => mark_self _ _, ?_, ?_⟩
    · simp [mark]
    · simp only [mark, if_false, Nat.reduceEqDiff, n13, cond_false] at hrow ⊢
      exact hrow.keep hk3 (by omega)
    all_goals (simp only [mark, if_false, Nat.reduceEqDiff]; assumption)
  case o11 =>
    rintro b' a' w' hb hd ⟨nb, a3, c3, rfl, hk, hn8, hres, hrow, h98, h109, h1110, h1211, h1312⟩
    have hfo := field_order
    simp [Region.binds] at hd
    simp only [sIs_nil, sIs_cons, sI_lit, lset_zero, lset_succ, hd, cond_true]
    gi_wp2
    refine ⟨nb, a3, c3, by simp [sIs_nil, sIs_cons, sI_lit, lset_zero, lset_succ, mark, hd], hk, ?_, ?_, ?_, ?_, ?_, fun _ => mark_mono _ hd, fun _ => mark_self _ _, ?_⟩
    all_goals (simp only [mark, if_false, Nat.reduceEqDiff]; assumption)
  case o12 =>
    rintro b' a' w' hb hd ⟨nb, a3, c3, rfl, hk, hn8, hres, hrow, h98, h109, h1110, h1211, h1312⟩
    simp [Region.binds] at hd
    simp only [sIs_nil, sIs_cons, sI_lit, lset_zero, lset_succ, hd, cond_true]
    gi_wp2
    refine ⟨nb, a3, c3, by simp [sIs_nil, sIs_cons, sI_lit, lset_zero, lset_succ, mark, hd], hk, ?_, ?_, ?_, ?_, ?_, ?_, fun _ => mark_mono _ hd, fun _ => mark_self _ _⟩
    all_goals (simp only [mark, if_false, Nat.reduceEqDiff]; assumption)
  case o13 =>
    rintro b' a' w' hb hd ⟨nb, a3, c3, rfl, hk, hn8, hres, hrow, h98, h109, h1110, h1211, h1312⟩
    have e12 : b' 12 = true := hd { on := 12, ground := Ground.data } (by simp) rfl
    simp [Region.binds] at hd
    have hr2 := hrow
    rw [hb, cond_false] at hr2
    obtain ⟨g1, g2⟩ := hr2.one
    have hst := hres (h1110 (h1211 e12))
    simp only [sIs_nil, sIs_cons, sI_lit, lset_zero, lset_succ, hd, cond_true]
    gi_wp2
    refine ⟨nb, a3, c3, by simp [sIs_nil, sIs_cons, sI_lit, lset_zero, lset_succ, mark, hd], hk.setCell (fun _ h => h rfl) _, fun _ h => ?_, fun _ => ?_, ?_, ?_, ?_, ?_, ?_, fun _ => mark_mono _ e12⟩
    · have h10 := h1110 (h1211 e12)
      simp [mark, h10] at h
    · exact hst.keep ((Keeps.refl (fun q => q ≠ rb) _).setCell (fun _ h => h rfl) _) fun q _ h => by omega
    · simp only [mark, if_true, cond_true]; exact hr2.set 0 _
    all_goals (simp only [mark, if_false, Nat.reduceEqDiff]; assumption)
  case fin =>
    rintro b' a' w' hb ⟨nb, a3, c3, rfl, hk, -, hres, hrow, -, -, -, -, -⟩
    have e0 := hb 0 (by decide)
    have e1 := hb 1 (by decide)
    have e2 := hb 2 (by decide)
    have e3 := hb 3 (by decide)
    have e4 := hb 4 (by decide)
    have e5 := hb 5 (by decide)
    have e6 := hb 6 (by decide)
    have e7 := hb 7 (by decide)
    have e8 := hb 8 (by decide)
    have e9 := hb 9 (by decide)
    have e10 := hb 10 (by decide)
    have e11 := hb 11 (by decide)
    have e12 := hb 12 (by decide)
    have e13 := hb 13 (by decide)
    clear hb
    simp only [sIs_nil, sIs_cons, sI_lit, lset_zero, lset_succ, e0, e1, e2, e3, e4, e5, e6, e7, e8, e9, e10, e11, e12, cond_true]
    rw [e13, cond_true] at hrow
    have hst := hres e10
    clear hres e0 e1 e2 e3 e4 e5 e6 e7 e8 e9 e10 e11 e12 e13
    have k2 := hrow.one
    gi_wp2
    refine bodyPost_ret (v := .agg #[.slice a3 (orderedM qs).length c3]) (by simp [results, Tryd.results47, go_sem, k2]) rfl ⟨a3, c3, rfl, hst.sub fun _ _ _ => trivial, ?_⟩
    exact hk00.upto hk fun q hq => by have := HrE.out; omega

theorem rShare_bad (ss : List Stp) (v : Value) (w : World) (hv : IsProof All w v ss) (hf : formM ss ≠ 0) : Calls Tryd.prog 19 #[v] w (RetP [] (formM ss) w) := by
  obtain ⟨u, rfl, hs⟩ := hv
  have hform := rForm_c ss (.agg #[u]) (((w.alloc (.cells #[u] 24)).alloc (.cells #[.slice none 0 0] 24))) ⟨u, rfl, hs.keep (((Keeps.refl _ _).alloc _).alloc _) fun _ _ h => h⟩
  obtain ⟨a, cap, rfl, hl, h⟩ := hs
  clear h
  generalize formM ss = e0 at hform hf ⊢
  have h0 : (e0 == 0) = false := by simpa using hf
  go_enter Tryd.func19, Tryd.ntmps19
  go_wp2_with (go_at_call 43; refine Hid.out ?_)
  refine hid ?_
  refine hform.mono ?_
  clear hform
  rintro e w1 ⟨rfl, hk1⟩
  have r1 : IsRow w1 (w.heap.size + 1) 24 [.slice none 0 0] := IsRow.keep (S := All) (IsRow.newAt (by simp)) hk1 trivial
  obtain ⟨c1, c2⟩ := r1.one
  go_wp2
  have k2 := (r1.set 0 (.slice none 0 0)).one
  refine bodyPost_ret (v := .tuple #[.agg #[.slice none 0 0], .int .i64 e0]) (by simp [results, Tryd.results19, go_sem, k2]) rfl ⟨none, 0, rfl, steps_nil_any _ _, ?_⟩
  exact (((Keeps.refl All w).alloc _).trans (((Keeps.refl _ _).alloc _).trans hk1)).setCell (fun (h : w.heap.size + 1 < _) => absurd h (by omega)) _

theorem rShare_good (ss : List Stp) (v : Value) (w : World) (hv : IsProof All w v ss) (hok : Okay ss) : Calls Tryd.prog 19 #[v] w (RetP (shareM ss) 0 w) := by
  obtain ⟨u, rfl, hs⟩ := hv
  have hform := rForm_c ss (.agg #[u]) (((w.alloc (.cells #[u] 24)).alloc (.cells #[.slice none 0 0] 24))) ⟨u, rfl, hs.keep (((Keeps.refl _ _).alloc _).alloc _) fun _ _ h => h⟩
  rw [(formM_zero ss).2 hok] at hform
  have Hs := hid hs
  have Hok := hid hok
  obtain ⟨a, cap, rfl, hl, h⟩ := hs
  clear h hok
  go_enter Tryd.func19, Tryd.ntmps19
  go_wp2_with (go_at_call 43; refine Hid.out ?_)
  refine hid ?_
  refine hform.mono ?_
  clear hform
  rintro e w1 ⟨rfl, hk1⟩
  have hk0 : Keeps All w w1 := (((Keeps.refl _ _).alloc _).alloc _).trans hk1
  have r0 : IsRow w1 w.heap.size 24 [.slice a ss.length cap] := IsRow.keep (S := All) ((IsRow.new _ _ _).alloc _) hk1 trivial
  have r1 : IsRow w1 (w.heap.size + 1) 24 [.slice none 0 0] := IsRow.keep (S := All) (IsRow.newAt (by simp)) hk1 trivial
  obtain ⟨c0, _⟩ := r0.one
  have hsh := rShared_c ss Hok.out (.agg #[.slice a ss.length cap]) w1 ⟨_, rfl, Hs.out.keep hk0 fun _ _ h => h⟩
  go_wp2_with (go_at_call 47; refine Hid.out ?_)
  refine hid ?_
  refine hsh.mono ?_
  clear hsh
  rintro e w2 ⟨a3, c3, rfl, hst, hk2⟩
  have r2 := r1.keep hk2 trivial
  obtain ⟨c1, c2⟩ := r2.one
  have hl2 := r2.lt
  have Hst := hid (hst.off r2)
  clear hst
  go_wp2
  have k2 := (r2.set 0 (.slice a3 (shareM ss).length c3)).one
  refine bodyPost_ret (v := .tuple #[.agg #[.slice a3 (shareM ss).length c3], .int .i64 0]) (by simp [results, Tryd.results19, go_sem, k2]) rfl ⟨a3, c3, rfl, ?_, ?_⟩
  · exact Hst.out.move ((Keeps.refl (fun q => q ≠ w.heap.size + 1) _).setCell (fun _ h => h rfl) _) fun q _ h => ⟨h, trivial⟩
  · exact (hk0.trans hk2).setCell (fun (h : w.heap.size + 1 < _) => absurd h (by omega)) _

end Go.Proofs.YtcbmljfgmeeadaaDoor

namespace Go.Proofs.YtcbmljfgmeeadaaDoor
open Go.RowKit

attribute [local go_sem] Oper.semAt_some

/-- What the reference's Share returns. -/
def shareR (ss : List Stp) : List Stp := if formM ss = 0 then shareM ss else []

theorem rShare_c (ss : List Stp) (v : Value) (w : World) (hv : IsProof All w v ss) : Calls Tryd.prog 19 #[v] w (RetP (shareR ss) (formM ss) w) := by
  by_cases h : formM ss = 0
  · rw [shareR, if_pos h, h]
    exact rShare_good ss v w hv ((formM_zero ss).1 h)
  · rw [shareR, if_neg h]
    exact rShare_bad ss v w hv h

theorem sameM_share (ss ts : List Stp) : sameM ss ts = (decide (formM ss = 0) && (decide (formM ts = 0) && decide (shareR ss = shareR ts))) := by
  unfold sameM shareR
  by_cases h1 : formM ss = 0
  · by_cases h2 : formM ts = 0
    · rw [if_pos ((orM_two _ _).2 ⟨h1, h2⟩), if_pos h1, if_pos h2]; simp [h1, h2]
    · rw [if_neg (fun h => h2 ((orM_two _ _).1 h).2)]; simp [h2]
  · rw [if_neg (fun h => h1 ((orM_two _ _).1 h).1)]; simp [h1]

set_option maxHeartbeats 1000000 in
theorem rSame_c (ss ts : List Stp) (v u : Value) (w : World) (hv : IsProof All w v ss) (hu : IsProof All w u ts) :
    Calls Tryd.prog 23 #[v, u] w fun e w' => e = .returned (.bool (sameM ss ts)) ∧ Keeps All w w' := by
  obtain ⟨ua, rfl, h1⟩ := hv
  obtain ⟨ub, rfl, h2⟩ := hu
  obtain ⟨a, c, rfl⟩ := h1.form
  obtain ⟨a2, c2, rfl⟩ := h2.form
  have hres := hid (sameM_share ss ts)
  obtain ⟨sm, hsm⟩ : ∃ sm, sameM ss ts = sm := ⟨_, rfl⟩
  rw [hsm] at hres ⊢
  have m : Kept (fun W => IsRow W w.heap.size 24 [.slice a ss.length c] ∧ IsRow W (w.heap.size + 1) 24 [.slice a2 ts.length c2] ∧ IsProof All W (.agg #[.slice a ss.length c]) ss ∧ IsProof All W (.agg #[.slice a2 ts.length c2]) ts ∧ Keeps All w W) ((w.alloc (.cells #[.slice a ss.length c] 24)).alloc (.cells #[.slice a2 ts.length c2] 24)) := by
    have hk : Keeps All w ((w.alloc (.cells #[.slice a ss.length c] 24)).alloc (.cells #[.slice a2 ts.length c2] 24)) := ((Keeps.refl _ _).alloc _).alloc _
    intro B hB
    exact ⟨((IsRow.new _ _ _).alloc _).keep hB trivial, (show IsRow _ (w.heap.size + 1) 24 [_] from IsRow.newAt (by simp)).keep hB trivial, ⟨_, rfl, h1.keep (hk.trans hB) fun _ _ h => h⟩, ⟨_, rfl, h2.keep (hk.trans hB) fun _ _ h => h⟩, hk.trans hB⟩
  have hs1 := rShare_c ss _ _ m.now.2.2.1
  have hs2 : ∀ W, IsProof All W (.agg #[.slice a2 ts.length c2]) ts → Calls Tryd.prog 19 #[.agg #[.slice a2 ts.length c2]] W (RetP (shareR ts) (formM ts) W) := fun W h => rShare_c ts _ W h
  generalize shareR ss = A at *
  generalize shareR ts = B at *
  generalize formM ss = x at *
  generalize formM ts = y at *
  have Hs2 := hid hs2
  clear h1 h2 hsm hs2
  go_enter Tryd.func23, Tryd.ntmps23
  go_wp2_with (go_at_call 19; refine Hid.out ?_)
  refine hid ?_
  refine hs1.mono ?_
  clear hs1
  rintro e w1 ⟨aA, cA, rfl, hA, hk1⟩
  have hka : Keeps All w1 (w1.alloc (.cells #[.slice aA A.length cA] 24)) := (Keeps.refl _ _).alloc _
  replace m := m.on (hk1.trans hka)
  have sA := (show IsRow (w1.alloc (.cells #[.slice aA A.length cA] 24)) w1.heap.size 24 [.slice aA A.length cA] from IsRow.new _ _ _).kept.and (show IsProof All _ (.agg #[.slice aA A.length cA]) A from ⟨_, rfl, hA.keep hka fun _ _ h => h⟩).kept
  obtain ⟨_, p2, _⟩ := m.now
  obtain ⟨d2, _⟩ := p2.one
  have hs2 := Hs2.out _ m.now.2.2.2.1
  clear hk1 hka hA p2
  go_wp2_with (go_at_call 19; refine Hid.out ?_)
  refine hid ?_
  refine hs2.mono ?_
  clear hs2 d2
  rintro e w2 ⟨aB, cB, rfl, hB, hk2⟩
  have hka : Keeps All w2 (w2.alloc (.cells #[.slice aB B.length cB] 24)) := (Keeps.refl _ _).alloc _
  replace m := m.on (hk2.trans hka)
  replace sA := sA.on (hk2.trans hka)
  have rB : IsRow (w2.alloc (.cells #[.slice aB B.length cB] 24)) w2.heap.size 24 [.slice aB B.length cB] := IsRow.new _ _ _
  have hBp : IsProof All (w2.alloc (.cells #[.slice aB B.length cB] 24)) (.agg #[.slice aB B.length cB]) B := ⟨_, rfl, hB.keep hka fun _ _ h => h⟩
  have hkf := m.now.2.2.2.2
  by_cases hx : x = 0
  · by_cases hy : y = 0
    · have heq := rEqual_c A B _ _ _ sA.now.2 hBp
      have hr : Hid (decide (A = B) = sm) := by rw [Hid, hres.out]; simp [hx, hy]
      have hx1 : (x == 0) = true := by simp [hx]
      have hy1 : (y == 0) = true := by simp [hy]
      rw [hr.out] at heq
      obtain ⟨d1, _⟩ := sA.now.1.one
      obtain ⟨d2, _⟩ := rB.one
      clear hx hy hk2 hka hB
      go_wp2_with (go_at_call 18; refine Hid.out ?_)
      refine hid ?_
      refine heq.mono ?_
      clear heq
      rintro e w3 ⟨rfl, hk3⟩
      go_wp2
      go_ret
      exact ⟨rfl, hkf.trans hk3⟩
    · have hr : Hid (sm = false) := by rw [Hid, hres.out]; simp [hy]
      have hx1 : (x == 0) = true := by simp [hx]
      have hy1 : (y == 0) = false := by simpa using hy
      clear hx hy hk2 hka hB
      go_wp2
      go_ret
      exact ⟨ret_bool hr.out.symm, hkf⟩
  · have hr : Hid (sm = false) := by rw [Hid, hres.out]; simp [hx]
    have hx1 : (x == 0) = false := by simpa using hx
    clear hx hk2 hka hB
    go_wp2
    go_ret
    exact ⟨ret_bool hr.out.symm, hkf⟩

end Go.Proofs.YtcbmljfgmeeadaaDoor
