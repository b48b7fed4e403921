/-
  CONTRACTS: the reference's Size, Expand.
  CONTRACT: the reference's Expand.
-/
import Derived.Test.YtcbmljfgmeeadaaDoorR2
import Derived.Test.YtcbmljfgmeeadaaDoorJH
import Derived.Test.YtcbmljfgmeeadaaDoorR4
import Derived.Test.YtcbmljfgmeeadaaDoorR6
import Derived.Test.YtcbmljfgmeeadaaDoorG14
import Derived.Test.YtcbmljfgmeeadaaDoorJC
namespace Go.Proofs.YtcbmljfgmeeadaaDoor
open Go.RowKit

attribute [local go_sem] Oper.semAt_some

theorem needed_count {ss : List Stp} (hok : Okay ss) : (neededM ss).count true = (post ss).length := by
  have h1 : (neededM ss).count true = ((List.range ss.length).filter fun j => decide (j ∈ post ss)).length := by
    unfold neededM
    rw [List.count_eq_countP, List.countP_map, List.countP_eq_length_filter]
    congr 1
    refine List.filter_congr fun x _ => ?_
    simp
  rw [h1]
  refine List.Perm.length_eq ((List.perm_ext_iff_of_nodup (List.nodup_range.filter _) (shut_nodup hok.shut)).2 fun x => ?_)
  simp only [List.mem_filter, List.mem_range, decide_eq_true_eq]
  exact ⟨fun h => h.2, fun h => ⟨hok.post_lt h, h⟩⟩

/-- The last region of Size. -/
def SzReg (bx n : Nat) (ua : Value) (cnt z : Int) (T : Array Value) (W0 : World) (b : Nat → Bool) (a' : Act) (w' : World) : Prop :=
  ∃ (g c : Nat), a' = Act.mk (sIs T [(b 0, 28, .int .i64 cnt), (b 1, 29, .agg #[ua]), (b 2, 30, .slice (some ⟨g, 0, none⟩) n c), (b 3, 31, .pointer (some ⟨bx, 0, none⟩)), (b 4, 32, ua), (b 5, 33, .int .i64 (n : Int)), (b 6, 34, .int .i64 ((n : Int) - 1)), (b 7, 35, .pointer (some ⟨g, n - 1, none⟩)), (b 8, 36, .int .i64 z),
      (b 9, 2, .int .i64 cnt), (b 10, 3, .int .i64 z), (b 11, 4, .int .i64 0)]) [] ∧ Keeps All W0 w' ∧ (b 2 = true → w'.cell? ⟨g, n - 1, none⟩ = some (.int .i64 z)) ∧ (b 7 = true → b 2 = true)

theorem rSize_bad (ss : List Stp) (v : Value) (w : World) (hv : IsProof All w v ss) (hf : formM ss ≠ 0) :
    Calls Tryd.prog 22 #[v] w fun e w' => e = .returned (.tuple #[.int .i64 0, .int .i64 0, .int .i64 (formM ss)]) ∧ Keeps All w w' := by
  obtain ⟨u, rfl, hs⟩ := hv
  have hk0 : Keeps All w (w.alloc (.cells #[u] 24)) := (Keeps.refl _ _).alloc _
  have hform := rForm_c ss (.agg #[u]) _ ⟨u, rfl, hs.keep hk0 fun _ _ h => h⟩
  obtain ⟨a, cap, rfl, hl, h⟩ := hs
  clear h
  generalize formM ss = e0 at hform hf ⊢
  have h0 : (e0 == 0) = false := by simpa using hf
  go_enter Tryd.func22, Tryd.ntmps22
  go_wp2_with (go_at_call 43; refine Hid.out ?_)
  refine hid ?_
  refine hform.mono ?_
  clear hform
  rintro e w1 ⟨rfl, hk1⟩
  go_wp2
  go_ret3
  exact ⟨rfl, hk0.trans hk1⟩

set_option maxHeartbeats 2000000 in
theorem rSize_good (ss : List Stp) (v : Value) (w : World) (hv : IsProof All w v ss) (hok : Okay ss) :
    Calls Tryd.prog 22 #[v] w fun e w' => e = .returned (.tuple #[.int .i64 ((post ss).length : Int), .int .i64 ((sizesM ss).getD (ss.length - 1) 0), .int .i64 0]) ∧ Keeps All w w' := by
  obtain ⟨u, rfl, hs⟩ := hv
  have hk0 : Keeps All w (w.alloc (.cells #[u] 24)) := (Keeps.refl _ _).alloc _
  have hform := rForm_c ss (.agg #[u]) _ ⟨u, rfl, hs.keep hk0 fun _ _ h => h⟩
  rw [(formM_zero ss).2 hok] at hform
  obtain ⟨a, cap, rfl⟩ := hs.form
  have hlen : ss.length ≤ 2000 := hok.2.1
  have hlen1 : 1 ≤ ss.length := hok.1
  have Hs := hid hs
  have Hok := hid hok
  obtain ⟨z, hz⟩ : ∃ z, (sizesM ss).getD (ss.length - 1) 0 = z := ⟨_, rfl⟩
  have hzl : ss.length - 1 < (sizesM ss).length := by rw [show (sizesM ss).length = ss.length from sizesTo_length ss _]; omega
  have hz1 : Hid ((ints (sizesM ss))[ss.length - 1]? = some (.int .i64 z)) := by
    rw [Hid, ints_get, List.getElem?_eq_getElem hzl, ← hz, List.getD_eq_getElem?_getD, List.getElem?_eq_getElem hzl]; rfl
  obtain ⟨cn, hcnE⟩ : ∃ cn, (post ss).length = cn := ⟨_, rfl⟩
  have hcn : cn ≤ 2000 := by have := post_length_le hok; omega
  have hcnt : Hid ((neededM ss).count true = cn) := by rw [← hcnE]; exact needed_count hok
  rw [hz, hcnE]
  clear hs hok hz hzl hcnE
  refine (callsIn_wide (n := 5)).1 ?_
  refine callsIn_of_wp Tryd.func22 rfl trivial ?_ rfl
  simp only [Tryd.ntmps22, List.size_toArray, List.length_cons, List.length_nil, Nat.reduceAdd, Nat.reduceSub, Array.replicate_succ, Array.replicate_zero, List.push_toArray, List.append_toArray, List.nil_append, List.cons_append]
  gi_wp2
  refine ⟨trivial, ?_⟩
  refine (callsIn_wide.2 hform).mono ?_
  clear hform
  rintro e w1 ⟨rfl, hk1⟩
  have hk01 := hk0.trans hk1
  have rp1 : IsRow w1 w.heap.size 24 [.slice a ss.length cap] := IsRow.keep (S := All) (IsRow.new _ _ _) hk1 trivial
  obtain ⟨c0, _⟩ := rp1.one
  have hnd := rneeded_c ss (.agg #[.slice a ss.length cap]) w1 ⟨_, rfl, Hs.out.keep hk01 fun _ _ h => h⟩ Hok.out
  gi_wp2
  refine ⟨trivial, ?_⟩
  refine (callsIn_wide.2 hnd).mono ?_
  clear hnd
  rintro e w2 ⟨nb, rfl, hnb, hrn, hk2⟩
  have rp2 := rp1.keep hk2 trivial
  have hk02 := hk01.trans hk2
  have hnl : (neededM ss).length = ss.length := by simp [neededM]
  generalize neededM ss = Ln at *
  have Hnl := hid hnl
  clear hnl c0
  gi_wp2
  gi_loop [6, 8] (fun nv iv => ∃ k : Nat, k ≤ ss.length ∧ iv = .int .i64 k ∧ nv = .int .i64 (((Ln.take k).count true : Nat) : Int)) (fun _ iv => ss.length - (intOf iv).toNat)
  case atStart => exact ⟨0, Nat.zero_le _, rfl, by simp⟩
  case round =>
    obtain ⟨k, hk, rfl, rfl⟩ := hrel
    by_cases hlt : k < ss.length
    · have hkL : k < Ln.length := by rw [Hnl.out]; exact hlt
      have d0 : w2.cell? ⟨nb, k, none⟩ = some (.bool Ln[k]) := hrn.bools_cell hkL
      have hcb : (Ln.take k).count true ≤ k := Nat.le_trans List.count_le_length (List.length_take_le _ _)
      have hnx : Hid ((Ln.take (k + 1)).count true = (Ln.take k).count true + if Ln[k] = true then 1 else 0) := by
        rw [Hid, List.take_succ_eq_append_getElem hkL, List.count_append]
        cases Ln[k] <;> simp
      generalize (Ln.take k).count true = cm at *
      generalize Ln[k] = bk at *
      cases bk with
      | true =>
        gi_wp2
        go_round
        case rel => exact ⟨k + 1, by omega, by go_num, by rw [hnx.out]; go_num⟩
        case measure => simp [intOf]; omega
      | false =>
        gi_wp2
        go_round
        case rel => exact ⟨k + 1, by omega, by go_num, by rw [hnx.out]; simp⟩
        case measure => simp [intOf]; omega
    · obtain rfl : k = ss.length := by omega
      rw [List.take_of_length_le (by rw [Hnl.out]; exact Nat.le_refl _), hcnt.out]
      have hpr : ∀ W, Keeps All w2 W → IsProof All W (.agg #[.slice a ss.length cap]) ss := fun W hW => ⟨_, rfl, Hs.out.keep (hk02.trans hW) fun _ _ h => h⟩
      have Hpr := hid hpr
      clear hpr
      gi_wp2
      refine wpIn_region_inv (SzReg w.heap.size ss.length (.slice a ss.length cap) (cn : Int) z) mixed (by kernel_rfl) ?start ⟨?o0, ?o1, ?o2, ?o3, ?o4, ?o5, ?o6, ?o7, ?o8, ?o9, ?o10, ?o11, trivial⟩ ?fin
      case start =>
        refine ⟨0, 0, by simp only [sIs_nil, sIs_cons, sI_false], (Keeps.refl _ _).drew, ?_, ?_⟩
        all_goals (intro h; cases h)
      case o0 =>
        rintro b' a' w8 hb hd ⟨g, c, rfl, hk8, hc8, h72⟩
        simp only [sIs_nil, sIs_cons, sI_lit, lset_zero, lset_succ]
        gi_wp2
        refine ⟨g, c, by simp [sIs_nil, sIs_cons, sI_lit, lset_zero, lset_succ, mark], hk8, ?_, ?_⟩
        all_goals (simp only [mark, if_false, Nat.reduceEqDiff]; assumption)
      case o1 =>
        rintro b' a' w8 hb hd ⟨g, c, rfl, hk8, hc8, h72⟩
        have g0 : w8.cell? ⟨w.heap.size, 0, none⟩ = some (.slice a ss.length cap) := (rp2.keep hk8 trivial).cell 0
        simp only [sIs_nil, sIs_cons, sI_lit, lset_zero, lset_succ]
        gi_wp2
        refine ⟨g, c, by simp [sIs_nil, sIs_cons, sI_lit, lset_zero, lset_succ, mark], hk8, ?_, ?_⟩
        all_goals (simp only [mark, if_false, Nat.reduceEqDiff]; assumption)
      case o2 =>
        rintro b' a' w8 hb hd ⟨g, c, rfl, hk8, hc8, h72⟩
        simp [Region.binds] at hd
        have n7 : b' 7 = false := by
          cases h : b' 7 with
          | false => rfl
          | true => rw [h72 h] at hb; cases hb
        have hcall := rsizes_c ss _ w8 (Hpr.out w8 hk8) Hok.out
        simp only [sIs_nil, sIs_cons, sI_lit, lset_zero, lset_succ, hd, cond_true]
        gi_wp2
        refine ⟨trivial, ?_⟩
        refine (callsIn_wide.2 hcall).mono ?_
        clear hcall
        rintro e w3 ⟨g', c', rfl, hown, hk9⟩
        gi_wp2
        refine ⟨g', c', by simp [sIs_nil, sIs_cons, sI_lit, lset_zero, lset_succ, mark, hd, n7], hk8.trans hk9, fun _ => ?_, fun _ => mark_self _ _⟩
        rw [hown.cellAt (ss.length - 1) (by omega)]; exact hz1.out
      case o3 =>
        rintro b' a' w8 hb hd ⟨g, c, rfl, hk8, hc8, h72⟩
        simp only [sIs_nil, sIs_cons, sI_lit, lset_zero, lset_succ]
        gi_wp2
        refine ⟨g, c, by simp [sIs_nil, sIs_cons, sI_lit, lset_zero, lset_succ, mark], hk8, ?_, ?_⟩
        all_goals (simp only [mark, if_false, Nat.reduceEqDiff]; assumption)
      case o4 =>
        rintro b' a' w8 hb hd ⟨g, c, rfl, hk8, hc8, h72⟩
        simp [Region.binds] at hd
        have g0 : w8.cell? ⟨w.heap.size, 0, none⟩ = some (.slice a ss.length cap) := (rp2.keep hk8 trivial).cell 0
        simp only [sIs_nil, sIs_cons, sI_lit, lset_zero, lset_succ, hd, cond_true]
        gi_wp2
        refine ⟨g, c, by simp [sIs_nil, sIs_cons, sI_lit, lset_zero, lset_succ, mark, hd], hk8, ?_, ?_⟩
        all_goals (simp only [mark, if_false, Nat.reduceEqDiff]; assumption)
      case o5 =>
        rintro b' a' w8 hb hd ⟨g, c, rfl, hk8, hc8, h72⟩
        simp [Region.binds] at hd
        simp only [sIs_nil, sIs_cons, sI_lit, lset_zero, lset_succ, hd, cond_true]
        gi_wp2
        refine ⟨g, c, by simp [sIs_nil, sIs_cons, sI_lit, lset_zero, lset_succ, mark, hd], hk8, ?_, ?_⟩
        all_goals (simp only [mark, if_false, Nat.reduceEqDiff]; assumption)
      case o6 =>
        rintro b' a' w8 hb hd ⟨g, c, rfl, hk8, hc8, h72⟩
        simp [Region.binds] at hd
        simp only [sIs_nil, sIs_cons, sI_lit, lset_zero, lset_succ, hd, cond_true]
        gi_wp2
        refine ⟨g, c, by simp [sIs_nil, sIs_cons, sI_lit, lset_zero, lset_succ, mark, hd], hk8, ?_, ?_⟩
        all_goals (simp only [mark, if_false, Nat.reduceEqDiff]; assumption)
      case o7 =>
        rintro b' a' w8 hb hd ⟨g, c, rfl, hk8, hc8, h72⟩
        simp [Region.binds] at hd
        simp only [sIs_nil, sIs_cons, sI_lit, lset_zero, lset_succ, hd, cond_true]
        gi_wp2
        refine ⟨g, c, by simp [sIs_nil, sIs_cons, sI_lit, lset_zero, lset_succ, mark, hd], hk8, ?_, fun _ => mark_mono _ hd.1⟩
        all_goals (simp only [mark, if_false, Nat.reduceEqDiff]; assumption)
      case o8 =>
        rintro b' a' w8 hb hd ⟨g, c, rfl, hk8, hc8, h72⟩
        have e7 : b' 7 = true := hd { on := 7, ground := Ground.data } (by simp) rfl
        have g0 := hc8 (h72 e7)
        simp [Region.binds] at hd
        simp only [sIs_nil, sIs_cons, sI_lit, lset_zero, lset_succ, hd, cond_true]
        gi_wp2
        refine ⟨g, c, by simp [sIs_nil, sIs_cons, sI_lit, lset_zero, lset_succ, mark, hd], hk8, ?_, ?_⟩
        all_goals (simp only [mark, if_false, Nat.reduceEqDiff]; assumption)
      case o9 =>
        rintro b' a' w8 hb hd ⟨g, c, rfl, hk8, hc8, h72⟩
        simp [Region.binds] at hd
        simp only [sIs_nil, sIs_cons, sI_lit, lset_zero, lset_succ, hd, cond_true]
        gi_wp2
        refine ⟨g, c, by simp [sIs_nil, sIs_cons, sI_lit, lset_zero, lset_succ, mark, hd], hk8, ?_, ?_⟩
        all_goals (simp only [mark, if_false, Nat.reduceEqDiff]; assumption)
      case o10 =>
        rintro b' a' w8 hb hd ⟨g, c, rfl, hk8, hc8, h72⟩
        simp [Region.binds] at hd
        simp only [sIs_nil, sIs_cons, sI_lit, lset_zero, lset_succ, hd, cond_true]
        gi_wp2
        refine ⟨g, c, by simp [sIs_nil, sIs_cons, sI_lit, lset_zero, lset_succ, mark, hd], hk8, ?_, ?_⟩
        all_goals (simp only [mark, if_false, Nat.reduceEqDiff]; assumption)
      case o11 =>
        rintro b' a' w8 hb hd ⟨g, c, rfl, hk8, hc8, h72⟩
        simp [Region.binds] at hd
        simp only [sIs_nil, sIs_cons, sI_lit, lset_zero, lset_succ, hd, cond_true]
        gi_wp2
        refine ⟨g, c, by simp [sIs_nil, sIs_cons, sI_lit, lset_zero, lset_succ, mark, hd], hk8, ?_, ?_⟩
        all_goals (simp only [mark, if_false, Nat.reduceEqDiff]; assumption)
      case fin =>
        rintro b' a' w8 hb ⟨g, c, rfl, hk8, hc8, h72⟩
        have e0 := hb 0 (by decide)
        have e1 := hb 1 (by decide)
        have e2 := hb 2 (by decide)
        have e3 := hb 3 (by decide)
        have e4 := hb 4 (by decide)
        have e5 := hb 5 (by decide)
        have e6 := hb 6 (by decide)
        have e7 := hb 7 (by decide)
        have e8 := hb 8 (by decide)
        have e9 := hb 9 (by decide)
        have e10 := hb 10 (by decide)
        have e11 := hb 11 (by decide)
        clear hb
        simp only [sIs_nil, sIs_cons, sI_lit, lset_zero, lset_succ, e0, e1, e2, e3, e4, e5, e6, e7, e8, e9, e10, e11, cond_true]
        clear e0 e1 e2 e3 e4 e5 e6 e7 e8 e9 e10 e11
        gi_wp2
        go_ret3
        exact ⟨rfl, hk02.trans hk8⟩

end Go.Proofs.YtcbmljfgmeeadaaDoor

namespace Go.Proofs.YtcbmljfgmeeadaaDoor
open Go.RowKit

attribute [local go_sem] Oper.semAt_some

def ExReg (bx n : Nat) (ua : Value) (z : Int) (T : Array Value) (W0 : World) (b : Nat → Bool) (a' : Act) (w' : World) : Prop :=
  ∃ (g c : Nat), a' = Act.mk (sIs T [(b 0, 17, .agg #[ua]), (b 1, 18, .slice (some ⟨g, 0, none⟩) n c), (b 2, 19, .pointer (some ⟨bx, 0, none⟩)), (b 3, 20, ua), (b 4, 21, .int .i64 (n : Int)), (b 5, 22, .int .i64 ((n : Int) - 1)), (b 6, 23, .pointer (some ⟨g, n - 1, none⟩)), (b 7, 24, .int .i64 z),
      (b 8, 7, .int .i64 z)]) [] ∧ Keeps All W0 w' ∧ (b 1 = true → w'.cell? ⟨g, n - 1, none⟩ = some (.int .i64 z)) ∧ (b 6 = true → b 1 = true)

theorem rExpand_bad (ss : List Stp) (v : Value) (most : Int) (w : World) (hv : IsProof All w v ss) (hf : formM ss ≠ 0) : Calls Tryd.prog 20 #[v, .int .i64 most] w (RetP [] (formM ss) w) := by
  obtain ⟨u, rfl, hs⟩ := hv
  have hform := rForm_c ss (.agg #[u]) (((w.alloc (.cells #[u] 24)).alloc (.cells #[.slice none 0 0] 24))) ⟨u, rfl, hs.keep (((Keeps.refl _ _).alloc _).alloc _) fun _ _ h => h⟩
  obtain ⟨a, cap, rfl, hl, h⟩ := hs
  clear h
  generalize formM ss = e0 at hform hf ⊢
  have h0 : (e0 == 0) = false := by simpa using hf
  go_enter Tryd.func20, Tryd.ntmps20
  go_wp2_with (go_at_call 43; refine Hid.out ?_)
  refine hid ?_
  refine hform.mono ?_
  clear hform
  rintro e w1 ⟨rfl, hk1⟩
  have r1 : IsRow w1 (w.heap.size + 1) 24 [.slice none 0 0] := IsRow.keep (S := All) (IsRow.newAt (by simp)) hk1 trivial
  obtain ⟨c1, c2⟩ := r1.one
  go_wp2
  have k2 := (r1.set 0 (.slice none 0 0)).one
  refine bodyPost_ret (v := .tuple #[.agg #[.slice none 0 0], .int .i64 e0]) (by simp [results, Tryd.results20, go_sem, k2]) rfl ⟨none, 0, rfl, steps_nil_any _ _, ?_⟩
  exact (((Keeps.refl All w).alloc _).trans (((Keeps.refl _ _).alloc _).trans hk1)).setCell (fun (h : w.heap.size + 1 < _) => absurd h (by omega)) _

theorem rExpand_arg (ss : List Stp) (v : Value) (most : Int) (w : World) (hv : IsProof All w v ss) (hok : Okay ss) (hm : most < 1) : Calls Tryd.prog 20 #[v, .int .i64 most] w (RetP [] 1 w) := by
  obtain ⟨u, rfl, hs⟩ := hv
  have hform := rForm_c ss (.agg #[u]) (((w.alloc (.cells #[u] 24)).alloc (.cells #[.slice none 0 0] 24))) ⟨u, rfl, hs.keep (((Keeps.refl _ _).alloc _).alloc _) fun _ _ h => h⟩
  obtain ⟨a, cap, rfl, hl, h⟩ := hs
  clear h
  rw [(formM_zero ss).2 hok] at hform
  clear hok
  go_enter Tryd.func20, Tryd.ntmps20
  go_wp2_with (go_at_call 43; refine Hid.out ?_)
  refine hid ?_
  refine hform.mono ?_
  clear hform
  rintro e w1 ⟨rfl, hk1⟩
  have r1 : IsRow w1 (w.heap.size + 1) 24 [.slice none 0 0] := IsRow.keep (S := All) (IsRow.newAt (by simp)) hk1 trivial
  obtain ⟨c1, c2⟩ := r1.one
  go_wp2
  have k2 := (r1.set 0 (.slice none 0 0)).one
  refine bodyPost_ret (v := .tuple #[.agg #[.slice none 0 0], .int .i64 1]) (by simp [results, Tryd.results20, go_sem, k2]) rfl ⟨none, 0, rfl, steps_nil_any _ _, ?_⟩
  exact (((Keeps.refl All w).alloc _).trans (((Keeps.refl _ _).alloc _).trans hk1)).setCell (fun (h : w.heap.size + 1 < _) => absurd h (by omega)) _

set_option maxHeartbeats 2000000 in
theorem rExpand_large (ss : List Stp) (v : Value) (most : Int) (w : World) (hv : IsProof All w v ss) (hok : Okay ss) (h1 : 1 ≤ most) (h2 : most ≤ 9223372036854775807) (hbig : min most 2000 < tsize (treeM ss)) : Calls Tryd.prog 20 #[v, .int .i64 most] w (RetP [] 15 w) := by
  obtain ⟨u, rfl, hs⟩ := hv
  have hform := rForm_c ss (.agg #[u]) (((w.alloc (.cells #[u] 24)).alloc (.cells #[.slice none 0 0] 24))) ⟨u, rfl, hs.keep (((Keeps.refl _ _).alloc _).alloc _) fun _ _ h => h⟩
  rw [(formM_zero ss).2 hok] at hform
  obtain ⟨a, cap, rfl⟩ := hs.form
  have hlen : ss.length ≤ 2000 := hok.2.1
  have hlen1 : 1 ≤ ss.length := hok.1
  obtain ⟨z, hz1, hz2⟩ := last_size hok
  have hzb : most < z ∨ 2000 < z := by omega
  have hz0 : 0 ≤ z := by omega
  clear hbig hz2
  have Hz1 := hid hz1
  have Hs := hid hs
  have Hok := hid hok
  clear hs hok hz1
  refine (callsIn_wide (n := 5)).1 ?_
  refine callsIn_of_wp Tryd.func20 rfl trivial ?_ rfl
  simp only [Tryd.ntmps20, List.size_toArray, List.length_cons, List.length_nil, Nat.reduceAdd, Nat.reduceSub, Array.replicate_succ, Array.replicate_zero, List.push_toArray, List.append_toArray, List.nil_append, List.cons_append]
  gi_wp2
  refine ⟨trivial, ?_⟩
  refine (callsIn_wide.2 hform).mono ?_
  clear hform
  rintro e w1 ⟨rfl, hk1⟩
  have hk01 : Keeps All w w1 := (((Keeps.refl _ _).alloc _).alloc _).trans hk1
  have rp1 : IsRow w1 w.heap.size 24 [.slice a ss.length cap] := IsRow.keep (S := All) ((IsRow.new _ _ _).alloc _) hk1 trivial
  have rr1 : IsRow w1 (w.heap.size + 1) 24 [.slice none 0 0] := IsRow.keep (S := All) (IsRow.newAt (by simp)) hk1 trivial
  have hpr : ∀ W, Keeps All w1 W → IsProof All W (.agg #[.slice a ss.length cap]) ss := fun W hW => ⟨_, rfl, Hs.out.keep (hk01.trans hW) fun _ _ h => h⟩
  have Hpr := hid hpr
  clear hpr
  gi_wp2
  refine wpIn_region_inv (ExReg w.heap.size ss.length (.slice a ss.length cap) z) mixed (by kernel_rfl) ?start ⟨?o0, ?o1, ?o2, ?o3, ?o4, ?o5, ?o6, ?o7, ?o8, trivial⟩ ?fin
  case start =>
    refine ⟨0, 0, by simp only [sIs_nil, sIs_cons, sI_false], (Keeps.refl _ _).drew, ?_, ?_⟩
    all_goals (intro h; cases h)
  case o0 =>
    rintro b' a' w8 hb hd ⟨g, c, rfl, hk8, hc8, h61⟩
    have g0 : w8.cell? ⟨w.heap.size, 0, none⟩ = some (.slice a ss.length cap) := (rp1.keep hk8 trivial).cell 0
    simp only [sIs_nil, sIs_cons, sI_lit, lset_zero, lset_succ]
    gi_wp2
    refine ⟨g, c, by simp [sIs_nil, sIs_cons, sI_lit, lset_zero, lset_succ, mark], hk8, ?_, ?_⟩
    all_goals (simp only [mark, if_false, Nat.reduceEqDiff]; assumption)
  case o1 =>
    rintro b' a' w8 hb hd ⟨g, c, rfl, hk8, hc8, h61⟩
    simp [Region.binds] at hd
    have n6 : b' 6 = false := by
      cases h : b' 6 with
      | false => rfl
      | true => rw [h61 h] at hb; cases hb
    have hcall := rsizes_c ss _ w8 (Hpr.out w8 hk8) Hok.out
    simp only [sIs_nil, sIs_cons, sI_lit, lset_zero, lset_succ, hd, cond_true]
    gi_wp2
    refine ⟨trivial, ?_⟩
    refine (callsIn_wide.2 hcall).mono ?_
    clear hcall
    rintro e w3 ⟨g', c', rfl, hown, hk9⟩
    gi_wp2
    refine ⟨g', c', by simp [sIs_nil, sIs_cons, sI_lit, lset_zero, lset_succ, mark, hd, n6], hk8.trans hk9, fun _ => ?_, fun _ => mark_self _ _⟩
    rw [hown.cellAt (ss.length - 1) (by omega)]; exact Hz1.out
  case o2 =>
    rintro b' a' w8 hb hd ⟨g, c, rfl, hk8, hc8, h61⟩
    simp only [sIs_nil, sIs_cons, sI_lit, lset_zero, lset_succ]
    gi_wp2
    refine ⟨g, c, by simp [sIs_nil, sIs_cons, sI_lit, lset_zero, lset_succ, mark], hk8, ?_, ?_⟩
    all_goals (simp only [mark, if_false, Nat.reduceEqDiff]; assumption)
  case o3 =>
    rintro b' a' w8 hb hd ⟨g, c, rfl, hk8, hc8, h61⟩
    simp [Region.binds] at hd
    have g0 : w8.cell? ⟨w.heap.size, 0, none⟩ = some (.slice a ss.length cap) := (rp1.keep hk8 trivial).cell 0
    simp only [sIs_nil, sIs_cons, sI_lit, lset_zero, lset_succ, hd, cond_true]
    gi_wp2
    refine ⟨g, c, by simp [sIs_nil, sIs_cons, sI_lit, lset_zero, lset_succ, mark, hd], hk8, ?_, ?_⟩
    all_goals (simp only [mark, if_false, Nat.reduceEqDiff]; assumption)
  case o4 =>
    rintro b' a' w8 hb hd ⟨g, c, rfl, hk8, hc8, h61⟩
    simp [Region.binds] at hd
    simp only [sIs_nil, sIs_cons, sI_lit, lset_zero, lset_succ, hd, cond_true]
    gi_wp2
    refine ⟨g, c, by simp [sIs_nil, sIs_cons, sI_lit, lset_zero, lset_succ, mark, hd], hk8, ?_, ?_⟩
    all_goals (simp only [mark, if_false, Nat.reduceEqDiff]; assumption)
  case o5 =>
    rintro b' a' w8 hb hd ⟨g, c, rfl, hk8, hc8, h61⟩
    simp [Region.binds] at hd
    simp only [sIs_nil, sIs_cons, sI_lit, lset_zero, lset_succ, hd, cond_true]
    gi_wp2
    refine ⟨g, c, by simp [sIs_nil, sIs_cons, sI_lit, lset_zero, lset_succ, mark, hd], hk8, ?_, ?_⟩
    all_goals (simp only [mark, if_false, Nat.reduceEqDiff]; assumption)
  case o6 =>
    rintro b' a' w8 hb hd ⟨g, c, rfl, hk8, hc8, h61⟩
    simp [Region.binds] at hd
    simp only [sIs_nil, sIs_cons, sI_lit, lset_zero, lset_succ, hd, cond_true]
    gi_wp2
    refine ⟨g, c, by simp [sIs_nil, sIs_cons, sI_lit, lset_zero, lset_succ, mark, hd], hk8, ?_, fun _ => mark_mono _ hd.1⟩
    all_goals (simp only [mark, if_false, Nat.reduceEqDiff]; assumption)
  case o7 =>
    rintro b' a' w8 hb hd ⟨g, c, rfl, hk8, hc8, h61⟩
    have e6 : b' 6 = true := hd { on := 6, ground := Ground.data } (by simp) rfl
    have g0 := hc8 (h61 e6)
    simp [Region.binds] at hd
    simp only [sIs_nil, sIs_cons, sI_lit, lset_zero, lset_succ, hd, cond_true]
    gi_wp2
    refine ⟨g, c, by simp [sIs_nil, sIs_cons, sI_lit, lset_zero, lset_succ, mark, hd], hk8, ?_, ?_⟩
    all_goals (simp only [mark, if_false, Nat.reduceEqDiff]; assumption)
  case o8 =>
    rintro b' a' w8 hb hd ⟨g, c, rfl, hk8, hc8, h61⟩
    simp [Region.binds] at hd
    simp only [sIs_nil, sIs_cons, sI_lit, lset_zero, lset_succ, hd, cond_true]
    gi_wp2
    refine ⟨g, c, by simp [sIs_nil, sIs_cons, sI_lit, lset_zero, lset_succ, mark, hd], hk8, ?_, ?_⟩
    all_goals (simp only [mark, if_false, Nat.reduceEqDiff]; assumption)
  case fin =>
    rintro b' a' w8 hb ⟨g, c, rfl, hk8, hc8, h61⟩
    have e0 := hb 0 (by decide)
    have e1 := hb 1 (by decide)
    have e2 := hb 2 (by decide)
    have e3 := hb 3 (by decide)
    have e4 := hb 4 (by decide)
    have e5 := hb 5 (by decide)
    have e6 := hb 6 (by decide)
    have e7 := hb 7 (by decide)
    have e8 := hb 8 (by decide)
    clear hb
    simp only [sIs_nil, sIs_cons, sI_lit, lset_zero, lset_succ, e0, e1, e2, e3, e4, e5, e6, e7, e8, cond_true]
    clear e0 e1 e2 e3 e4 e5 e6 e7 e8 hc8 h61
    have hk08 := hk01.trans hk8
    have r8 := rr1.keep hk8 trivial
    have l8 := r8.lt
    obtain ⟨c1, c2⟩ := r8.one
    rcases hzb with hzb | hzb
    · gi_wp2
      have k2 := (r8.set 0 (.slice none 0 0)).one
      refine bodyPost_ret (v := .tuple #[.agg #[.slice none 0 0], .int .i64 15]) (by simp [results, Tryd.results20, go_sem, k2]) rfl ⟨none, 0, rfl, steps_nil_any _ _, ?_⟩
      exact hk08.setCell (fun (h : w.heap.size + 1 < _) => absurd h (by omega)) _
    · by_cases hzm : most < z
      · gi_wp2
        have k2 := (r8.set 0 (.slice none 0 0)).one
        refine bodyPost_ret (v := .tuple #[.agg #[.slice none 0 0], .int .i64 15]) (by simp [results, Tryd.results20, go_sem, k2]) rfl ⟨none, 0, rfl, steps_nil_any _ _, ?_⟩
        exact hk08.setCell (fun (h : w.heap.size + 1 < _) => absurd h (by omega)) _
      · have hzm2 : z ≤ most := by omega
        clear hzm
        gi_wp2
        have k2 := (r8.set 0 (.slice none 0 0)).one
        refine bodyPost_ret (v := .tuple #[.agg #[.slice none 0 0], .int .i64 15]) (by simp [results, Tryd.results20, go_sem, k2]) rfl ⟨none, 0, rfl, steps_nil_any _ _, ?_⟩
        exact hk08.setCell (fun (h : w.heap.size + 1 < _) => absurd h (by omega)) _

set_option maxHeartbeats 2000000 in
theorem rExpand_good (ss : List Stp) (v : Value) (most : Int) (w : World) (hv : IsProof All w v ss) (hok : Okay ss) (h1 : 1 ≤ most) (h2 : most ≤ 9223372036854775807) (hbig : tsize (treeM ss) ≤ min most 2000) : Calls Tryd.prog 20 #[v, .int .i64 most] w (RetP (expandM ss) 0 w) := by
  obtain ⟨u, rfl, hs⟩ := hv
  have hform := rForm_c ss (.agg #[u]) (((w.alloc (.cells #[u] 24)).alloc (.cells #[.slice none 0 0] 24))) ⟨u, rfl, hs.keep (((Keeps.refl _ _).alloc _).alloc _) fun _ _ h => h⟩
  rw [(formM_zero ss).2 hok] at hform
  obtain ⟨a, cap, rfl⟩ := hs.form
  have hlen : ss.length ≤ 2000 := hok.2.1
  have hlen1 : 1 ≤ ss.length := hok.1
  obtain ⟨z, hz1, hz2⟩ := last_size hok
  have hzb : z ≤ most := by omega
  have hzb2 : z ≤ 2000 := by omega
  have hz0 : 0 ≤ z := by omega
  have Hbig := hid hbig
  clear hbig hz2
  have Hz1 := hid hz1
  have Hs := hid hs
  have Hok := hid hok
  clear hs hok hz1
  refine (callsIn_wide (n := 5)).1 ?_
  refine callsIn_of_wp Tryd.func20 rfl trivial ?_ rfl
  simp only [Tryd.ntmps20, List.size_toArray, List.length_cons, List.length_nil, Nat.reduceAdd, Nat.reduceSub, Array.replicate_succ, Array.replicate_zero, List.push_toArray, List.append_toArray, List.nil_append, List.cons_append]
  gi_wp2
  refine ⟨trivial, ?_⟩
  refine (callsIn_wide.2 hform).mono ?_
  clear hform
  rintro e w1 ⟨rfl, hk1⟩
  have hk01 : Keeps All w w1 := (((Keeps.refl _ _).alloc _).alloc _).trans hk1
  have rp1 : IsRow w1 w.heap.size 24 [.slice a ss.length cap] := IsRow.keep (S := All) ((IsRow.new _ _ _).alloc _) hk1 trivial
  have rr1 : IsRow w1 (w.heap.size + 1) 24 [.slice none 0 0] := IsRow.keep (S := All) (IsRow.newAt (by simp)) hk1 trivial
  have hpr : ∀ W, Keeps All w1 W → IsProof All W (.agg #[.slice a ss.length cap]) ss := fun W hW => ⟨_, rfl, Hs.out.keep (hk01.trans hW) fun _ _ h => h⟩
  have Hpr := hid hpr
  clear hpr
  gi_wp2
  refine wpIn_region_inv (ExReg w.heap.size ss.length (.slice a ss.length cap) z) mixed (by kernel_rfl) ?start ⟨?o0, ?o1, ?o2, ?o3, ?o4, ?o5, ?o6, ?o7, ?o8, trivial⟩ ?fin
  case start =>
    refine ⟨0, 0, by simp only [sIs_nil, sIs_cons, sI_false], (Keeps.refl _ _).drew, ?_, ?_⟩
    all_goals (intro h; cases h)
  case o0 =>
    rintro b' a' w8 hb hd ⟨g, c, rfl, hk8, hc8, h61⟩
    have g0 : w8.cell? ⟨w.heap.size, 0, none⟩ = some (.slice a ss.length cap) := (rp1.keep hk8 trivial).cell 0
    simp only [sIs_nil, sIs_cons, sI_lit, lset_zero, lset_succ]
    gi_wp2
    refine ⟨g, c, by simp [sIs_nil, sIs_cons, sI_lit, lset_zero, lset_succ, mark], hk8, ?_, ?_⟩
    all_goals (simp only [mark, if_false, Nat.reduceEqDiff]; assumption)
  case o1 =>
    rintro b' a' w8 hb hd ⟨g, c, rfl, hk8, hc8, h61⟩
    simp [Region.binds] at hd
    have n6 : b' 6 = false := by
      cases h : b' 6 with
      | false => rfl
      | true => rw [h61 h] at hb; cases hb
    have hcall := rsizes_c ss _ w8 (Hpr.out w8 hk8) Hok.out
    simp only [sIs_nil, sIs_cons, sI_lit, lset_zero, lset_succ, hd, cond_true]
    gi_wp2
    refine ⟨trivial, ?_⟩
    refine (callsIn_wide.2 hcall).mono ?_
    clear hcall
    rintro e w3 ⟨g', c', rfl, hown, hk9⟩
    gi_wp2
    refine ⟨g', c', by simp [sIs_nil, sIs_cons, sI_lit, lset_zero, lset_succ, mark, hd, n6], hk8.trans hk9, fun _ => ?_, fun _ => mark_self _ _⟩
    rw [hown.cellAt (ss.length - 1) (by omega)]; exact Hz1.out
  case o2 =>
    rintro b' a' w8 hb hd ⟨g, c, rfl, hk8, hc8, h61⟩
    simp only [sIs_nil, sIs_cons, sI_lit, lset_zero, lset_succ]
    gi_wp2
    refine ⟨g, c, by simp [sIs_nil, sIs_cons, sI_lit, lset_zero, lset_succ, mark], hk8, ?_, ?_⟩
    all_goals (simp only [mark, if_false, Nat.reduceEqDiff]; assumption)
  case o3 =>
    rintro b' a' w8 hb hd ⟨g, c, rfl, hk8, hc8, h61⟩
    simp [Region.binds] at hd
    have g0 : w8.cell? ⟨w.heap.size, 0, none⟩ = some (.slice a ss.length cap) := (rp1.keep hk8 trivial).cell 0
    simp only [sIs_nil, sIs_cons, sI_lit, lset_zero, lset_succ, hd, cond_true]
    gi_wp2
    refine ⟨g, c, by simp [sIs_nil, sIs_cons, sI_lit, lset_zero, lset_succ, mark, hd], hk8, ?_, ?_⟩
    all_goals (simp only [mark, if_false, Nat.reduceEqDiff]; assumption)
  case o4 =>
    rintro b' a' w8 hb hd ⟨g, c, rfl, hk8, hc8, h61⟩
    simp [Region.binds] at hd
    simp only [sIs_nil, sIs_cons, sI_lit, lset_zero, lset_succ, hd, cond_true]
    gi_wp2
    refine ⟨g, c, by simp [sIs_nil, sIs_cons, sI_lit, lset_zero, lset_succ, mark, hd], hk8, ?_, ?_⟩
    all_goals (simp only [mark, if_false, Nat.reduceEqDiff]; assumption)
  case o5 =>
    rintro b' a' w8 hb hd ⟨g, c, rfl, hk8, hc8, h61⟩
    simp [Region.binds] at hd
    simp only [sIs_nil, sIs_cons, sI_lit, lset_zero, lset_succ, hd, cond_true]
    gi_wp2
    refine ⟨g, c, by simp [sIs_nil, sIs_cons, sI_lit, lset_zero, lset_succ, mark, hd], hk8, ?_, ?_⟩
    all_goals (simp only [mark, if_false, Nat.reduceEqDiff]; assumption)
  case o6 =>
    rintro b' a' w8 hb hd ⟨g, c, rfl, hk8, hc8, h61⟩
    simp [Region.binds] at hd
    simp only [sIs_nil, sIs_cons, sI_lit, lset_zero, lset_succ, hd, cond_true]
    gi_wp2
    refine ⟨g, c, by simp [sIs_nil, sIs_cons, sI_lit, lset_zero, lset_succ, mark, hd], hk8, ?_, fun _ => mark_mono _ hd.1⟩
    all_goals (simp only [mark, if_false, Nat.reduceEqDiff]; assumption)
  case o7 =>
    rintro b' a' w8 hb hd ⟨g, c, rfl, hk8, hc8, h61⟩
    have e6 : b' 6 = true := hd { on := 6, ground := Ground.data } (by simp) rfl
    have g0 := hc8 (h61 e6)
    simp [Region.binds] at hd
    simp only [sIs_nil, sIs_cons, sI_lit, lset_zero, lset_succ, hd, cond_true]
    gi_wp2
    refine ⟨g, c, by simp [sIs_nil, sIs_cons, sI_lit, lset_zero, lset_succ, mark, hd], hk8, ?_, ?_⟩
    all_goals (simp only [mark, if_false, Nat.reduceEqDiff]; assumption)
  case o8 =>
    rintro b' a' w8 hb hd ⟨g, c, rfl, hk8, hc8, h61⟩
    simp [Region.binds] at hd
    simp only [sIs_nil, sIs_cons, sI_lit, lset_zero, lset_succ, hd, cond_true]
    gi_wp2
    refine ⟨g, c, by simp [sIs_nil, sIs_cons, sI_lit, lset_zero, lset_succ, mark, hd], hk8, ?_, ?_⟩
    all_goals (simp only [mark, if_false, Nat.reduceEqDiff]; assumption)
  case fin =>
    rintro b' a' w8 hb ⟨g, c, rfl, hk8, hc8, h61⟩
    have e0 := hb 0 (by decide)
    have e1 := hb 1 (by decide)
    have e2 := hb 2 (by decide)
    have e3 := hb 3 (by decide)
    have e4 := hb 4 (by decide)
    have e5 := hb 5 (by decide)
    have e6 := hb 6 (by decide)
    have e7 := hb 7 (by decide)
    have e8 := hb 8 (by decide)
    clear hb
    simp only [sIs_nil, sIs_cons, sI_lit, lset_zero, lset_succ, e0, e1, e2, e3, e4, e5, e6, e7, e8, cond_true]
    clear e0 e1 e2 e3 e4 e5 e6 e7 e8 hc8 h61
    have hk08 := hk01.trans hk8
    have r8 := rr1.keep hk8 trivial
    have l8 := r8.lt
    obtain ⟨c1, c2⟩ := r8.one
    obtain ⟨d0, _⟩ := (rp1.keep hk8 trivial).one
    have hgw := rgrown_c ss Hok.out ss.length (ss.length - 1) (by omega) (by omega) (.slice none 0 0) (.agg #[.slice a ss.length cap]) [] (fun _ => False) w8.heap.size w8
      (by obtain ⟨u, hu, hs⟩ := Hpr.out w8 hk8; exact ⟨u, hu, hs.sub fun q _ _ => by simp [Value.ownBlock]⟩) (OwnIn.nil _ _ _) (Nat.le_refl _) (by have := Hbig.out; show 0 + tsize (treeM ss) ≤ 2000; omega)
    rw [show ((ss.length - 1 : Nat) : Int) = (ss.length : Int) - 1 by omega, show ([] : List Stp) ++ flat (treeAt ss (ss.length - 1)) ([] : List Stp).length = expandM ss by simp [expandM, treeM]] at hgw
    gi_wp2
    refine ⟨trivial, ?_⟩
    refine (callsIn_wide.2 hgw).mono ?_
    clear hgw d0
    rintro e w9 ⟨v', rfl, hov, hk9, _⟩
    obtain ⟨a3, c3, rfl⟩ := hov.form
    have hk9' : Keeps All w8 w9 := hk9.sub fun q _ _ => by simp [Value.ownBlock]
    have hel : (expandM ss).length ≤ 2000 := by rw [expandM_length]; have := Hbig.out; omega
    have hst : IsSteps (fun q => q ≠ w.heap.size + 1) w9 (.slice a3 (expandM ss).length c3) (expandM ss) := hov.isSteps' (by omega) (fun q e => by have := hov.lt e; omega) fun q h => h.elim (fun h => h.elim) fun h => by omega
    have r9 := r8.keep hk9' trivial
    have l9 := r9.lt
    obtain ⟨c3', c4'⟩ := r9.one
    have Hst := hid hst
    clear hst hov c1 c2
    gi_wp2
    have k2 := (r9.set 0 (.slice a3 (expandM ss).length c3)).one
    refine bodyPost_ret (v := .tuple #[.agg #[.slice a3 (expandM ss).length c3], .int .i64 0]) (by simp [results, Tryd.results20, go_sem, k2]) rfl ⟨a3, c3, rfl, ?_, ?_⟩
    · exact Hst.out.move ((Keeps.refl (fun q => q ≠ w.heap.size + 1) _).setCell (fun _ h => h rfl) _) fun q _ h => ⟨h, trivial⟩
    · exact (hk08.trans hk9').setCell (fun (h : w.heap.size + 1 < _) => absurd h (by omega)) _

end Go.Proofs.YtcbmljfgmeeadaaDoor
