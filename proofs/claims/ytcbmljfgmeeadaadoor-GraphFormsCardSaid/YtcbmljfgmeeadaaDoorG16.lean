/-
  CONTRACTS: cmp.Or at error numbers; Same.
-/
import Derived.Test.YtcbmljfgmeeadaaDoorG15
import Derived.Test.YtcbmljfgmeeadaaDoorG12
namespace Go.Proofs.YtcbmljfgmeeadaaDoor
open Go.RowKit Go.Shelf

attribute [local go_sem] Oper.semAt_some

/-- The first that is not 0. -/
def orM (xs : List Int) : Int := (xs.find? (· != 0)).getD 0
theorem orM_zero (r : List Int) : orM (0 :: r) = orM r := by simp [orM]
theorem orM_cons {x : Int} (r : List Int) (h : x ≠ 0) : orM (x :: r) = x := by simp [orM, h]

set_option maxHeartbeats 400000 in
theorem cmpOr_c (xs : List Int) (v : Value) (w : World) (hv : IsInts All w v xs) :
    Calls Tryd.prog 34 #[v] w fun e w' => e = .returned (.int .i64 (orM xs)) ∧ Keeps All w w' := by
  have hv' := hv
  obtain ⟨a, c, rfl, l1, _, h⟩ := hv
  clear h
  go_enter Tryd.func34, Tryd.ntmps34
  go_wp2
  go_loopw [5, 8] (fun i5 i wr => ∃ k : Nat, k ≤ xs.length ∧ i = .int .i64 k ∧ Hid (orM xs = orM (xs.drop k)) ∧ Keeps All w wr) (fun _ i _ => xs.length - (intOf i).toNat)
  case atStart => exact ⟨0, Nat.zero_le _, rfl, by simp [Hid], Keeps.refl _ _⟩
  case round =>
    obtain ⟨k, hk, rfl, hn, hb⟩ := hrel
    by_cases hlt : k < xs.length
    · obtain ⟨b, off, rfl, d1⟩ := (hv'.keep hb fun _ _ h => h).at hlt
      have hdrop : Hid (xs.drop k = xs[k] :: xs.drop (k + 1)) := List.drop_eq_getElem_cons hlt
      by_cases h0 : xs[k] = 0
      · have hz : Hid (orM (xs[k] :: xs.drop (k + 1)) = orM (xs.drop (k + 1))) := by show _ = _; rw [h0]; exact orM_zero _
        rw [h0] at d1
        clear h0
        go_wp2
        go_roundw
        case rel => exact ⟨k + 1, by omega, by go_num, by rw [hn.out, hdrop.out, hz.out]; rfl, hb⟩
        case measure => simp [intOf]; omega
      · have hz : Hid (orM (xs[k] :: xs.drop (k + 1)) = xs[k]) := orM_cons _ h0
        rw [hdrop.out] at hn
        generalize xs[k] = x at *
        go_wp2
        go_ret
        exact ⟨ret_int (by rw [hn.out, hz.out]), hb⟩
    · go_wp2
      go_ret
      exact ⟨ret_int (by rw [hn.out, List.drop_eq_nil_of_le (by omega)]; rfl), hb⟩

theorem formGo_bound : ∀ (l : List Stp) (i : Nat), 0 ≤ formGo i l ∧ formGo i l ≤ 4
  | [], i => by simp [formGo]
  | s :: r, i => by
    simp only [formGo]
    have := formGo_bound r (i + 1)
    split
    · omega
    · split
      · omega
      · exact this
theorem formM_bound (ss : List Stp) : 0 ≤ formM ss ∧ formM ss ≤ 4 := by
  unfold formM
  split
  · omega
  · exact formGo_bound ss 0

theorem field_proof (u : Value) (w : World) : (Instr.field 24 (.agg #[u]) 0).run Tryd.prog w = .ok u w := by kernel_rfl

/-- What Same returns. -/
def sameM (ss ts : List Stp) : Bool := if orM [formM ss, formM ts] = 0 then decide (shareM ss = shareM ts) else false
theorem orM_two (x y : Int) : orM [x, y] = 0 ↔ x = 0 ∧ y = 0 := by
  by_cases h1 : x = 0
  · subst h1
    rw [orM_zero]
    by_cases h2 : y = 0
    · subst h2; simp [orM]
    · rw [orM_cons _ h2]; simp
  · rw [orM_cons _ h1]; simp [h1]

/-- The forms' region. -/
def FormReg (ua ub : Value) (x y : Int) (T : Array Value) (W0 : World) (c : Nat → Bool) (a' : Act) (w' : World) : Prop :=
  ∃ nb : Nat, a' = Act.mk (sIs T [(c 0, 5, .agg #[ua]), (c 1, 6, .int .i64 x), (c 2, 7, .agg #[ub]), (c 3, 8, .int .i64 y), (c 4, 9, .slice (some ⟨nb, 0, none⟩) 2 2), (c 5, 10, .int .i64 (orM [x, y])), (c 6, 11, .bool (orM [x, y] != 0))]) [] ∧
    Keeps All W0 w' ∧ (c 4 = true → IsRow w' nb 27 [.int .i64 x, .int .i64 y]) ∧ (c 5 = true → c 4 = true)

/-- The shares' region. -/
def ShareReg (ua ub : Value) (n m : Nat) (ss ts : List Stp) (d : Bool) (T : Array Value) (W0 : World) (c : Nat → Bool) (a' : Act) (w' : World) : Prop :=
  ∃ (a1 a2 : Option Addr) (k1 k2 : Nat), a' = Act.mk (sIs T [(c 0, 12, .agg #[ua]), (c 1, 13, .agg #[.slice a1 n k1]), (c 2, 14, .slice a1 n k1), (c 3, 15, .agg #[ub]), (c 4, 16, .agg #[.slice a2 m k2]), (c 5, 17, .slice a2 m k2), (c 6, 18, .bool d), (c 7, 4, .bool d)]) [] ∧
    Keeps All W0 w' ∧ (c 1 = true → IsSteps All w' (.slice a1 n k1) (shareM ss)) ∧ (c 4 = true → IsSteps All w' (.slice a2 m k2) (shareM ts)) ∧ (c 2 = true → c 1 = true) ∧ (c 5 = true → c 4 = true)

set_option maxHeartbeats 1000000 in
theorem Same_c (ss ts : List Stp) (v u : Value) (w : World) (hv : IsProof All w v ss) (hu : IsProof All w u ts) (htab : Tab w) :
    Calls Tryd.prog 11 #[v, u] w fun e w' => e = .returned (.bool (sameM ss ts)) ∧ Keeps All w w' := by
  obtain ⟨ua, rfl, h1⟩ := hv
  obtain ⟨ub, rfl, h2⟩ := hu
  have l1 : w.heap.size < w.heap.size + 1 := by omega
  have Ht := hid htab
  have hfd := fun (a : Option Addr) (n c : Nat) (w : World) => field_proof (.slice a n c) w
  clear htab
  refine (callsIn_wide (n := 5)).1 ?_
  refine callsIn_of_wp Tryd.func11 rfl trivial ?_ rfl
  simp only [Tryd.ntmps11, List.size_toArray, List.length_cons, List.length_nil, Nat.reduceAdd, Nat.reduceSub, Array.replicate_succ, Array.replicate_zero, List.push_toArray, List.append_toArray, List.nil_append, List.cons_append]
  gi_wp2
  obtain ⟨W0, hW0⟩ : ∃ W0, (w.alloc (.cells #[ua] 24)).alloc (.cells #[ub] 24) = W0 := ⟨_, rfl⟩
  have hk0 : Keeps All w W0 := by rw [← hW0]; exact ((Keeps.refl _ _).alloc _).alloc _
  have r0 : IsRow W0 w.heap.size 24 [ua] := by rw [← hW0]; exact (IsRow.new _ _ _).alloc _
  have r1 : IsRow W0 (w.heap.size + 1) 24 [ub] := by rw [← hW0]; exact IsRow.newAt (by simp)
  have hs0 : W0.heap.size = w.heap.size + 2 := by rw [← hW0]; simp
  have hp : ∀ W, Keeps All W0 W → IsProof All W (.agg #[ua]) ss := fun W hk => ⟨ua, rfl, h1.keep (hk0.trans hk) fun _ _ h => h⟩
  have hq : ∀ W, Keeps All W0 W → IsProof All W (.agg #[ub]) ts := fun W hk => ⟨ub, rfl, h2.keep (hk0.trans hk) fun _ _ h => h⟩
  have htb : Hid (∀ W, Keeps All W0 W → Tab W) := fun W hk => Ht.out.keep (hk0.trans hk)
  have Hp := hid hp
  have Hq := hid hq
  clear hp hq h1 h2
  rw [hW0]
  obtain ⟨x, hx⟩ : ∃ x, x = formM ss := ⟨_, rfl⟩
  obtain ⟨y, hy⟩ : ∃ y, y = formM ts := ⟨_, rfl⟩
  have Hx := hid hx
  have Hy := hid hy
  clear hx hy
  have hxb : Hid (0 ≤ x ∧ x ≤ 4) := by show _ ∧ _; rw [Hx.out]; exact formM_bound ss
  have hyb : Hid (0 ≤ y ∧ y ≤ 4) := by show _ ∧ _; rw [Hy.out]; exact formM_bound ts
  refine wpIn_region_inv (FormReg ua ub x y) mixed (by kernel_rfl) ?start ⟨?o0, ?o1, ?o2, ?o3, ?o4, ?o5, ?o6, trivial⟩ ?fin
  case start => exact ⟨0, by simp only [sIs_nil, sIs_cons, sI_false], (Keeps.refl _ _).drew, fun h => (by cases h), fun h => (by cases h)⟩
  case o0 =>
    rintro b' a' w' hb hd ⟨nb, rfl, hk, hr, h54⟩
    have f1 : w'.cell? ⟨w.heap.size, 0, none⟩ = some ua := hk.cell (p := ⟨w.heap.size, 0, none⟩) trivial (r0.cell 0)
    simp only [sIs_nil, sIs_cons, sI_lit, lset_zero, lset_succ]
    gi_wp2
    exact ⟨nb, by simp [sIs_nil, sIs_cons, sI_lit, lset_zero, lset_succ, mark], hk, fun h => hr (by simpa [mark] using h), fun h => mark_mono _ (h54 (by simpa [mark] using h))⟩
  case o2 =>
    rintro b' a' w' hb hd ⟨nb, rfl, hk, hr, h54⟩
    have f1 : w'.cell? ⟨w.heap.size + 1, 0, none⟩ = some ub := hk.cell (p := ⟨w.heap.size + 1, 0, none⟩) trivial (r1.cell 0)
    simp only [sIs_nil, sIs_cons, sI_lit, lset_zero, lset_succ]
    gi_wp2
    exact ⟨nb, by simp [sIs_nil, sIs_cons, sI_lit, lset_zero, lset_succ, mark], hk, fun h => hr (by simpa [mark] using h), fun h => mark_mono _ (h54 (by simpa [mark] using h))⟩
  case o1 =>
    rintro b' a' w' hb hd ⟨nb, rfl, hk, hr, h54⟩
    have hd0 : b' 0 = true := hd { on := 0, ground := Ground.data } (by simp) rfl
    have hcall := form_c ss _ w' (Hp.out w' hk)
    rw [← Hx.out] at hcall
    simp only [sIs_nil, sIs_cons, sI_lit, lset_zero, lset_succ, hd0, cond_true]
    gi_wp2
    refine ⟨trivial, ?_⟩
    refine (callsIn_wide.2 hcall).mono ?_
    clear hcall
    rintro e w3 ⟨rfl, hk3⟩
    gi_wp2
    exact ⟨nb, by simp [sIs_nil, sIs_cons, sI_lit, lset_zero, lset_succ, mark, hd0], hk.trans hk3, fun h => (hr (by simpa [mark] using h)).keep hk3 trivial, fun h => mark_mono _ (h54 (by simpa [mark] using h))⟩
  case o3 =>
    rintro b' a' w' hb hd ⟨nb, rfl, hk, hr, h54⟩
    have hd0 : b' 2 = true := hd { on := 2, ground := Ground.data } (by simp) rfl
    have hcall := form_c ts _ w' (Hq.out w' hk)
    rw [← Hy.out] at hcall
    simp only [sIs_nil, sIs_cons, sI_lit, lset_zero, lset_succ, hd0, cond_true]
    gi_wp2
    refine ⟨trivial, ?_⟩
    refine (callsIn_wide.2 hcall).mono ?_
    clear hcall
    rintro e w3 ⟨rfl, hk3⟩
    gi_wp2
    exact ⟨nb, by simp [sIs_nil, sIs_cons, sI_lit, lset_zero, lset_succ, mark, hd0], hk.trans hk3, fun h => (hr (by simpa [mark] using h)).keep hk3 trivial, fun h => mark_mono _ (h54 (by simpa [mark] using h))⟩
  case o4 =>
    rintro b' a' w' hb hd ⟨nb, rfl, hk, hr, h54⟩
    have hd1 : b' 1 = true := hd { on := 1, ground := Ground.data } (by simp) rfl
    have hd3 : b' 3 = true := hd { on := 3, ground := Ground.data } (by simp) rfl
    have h5 : b' 5 = false := by
      cases h : b' 5 with
      | false => rfl
      | true => rw [h54 h] at hb; cases hb
    simp only [sIs_nil, sIs_cons, sI_lit, lset_zero, lset_succ, hd1, hd3, cond_true]
    gi_wp2
    exact ⟨w'.heap.size, by simp [sIs_nil, sIs_cons, sI_lit, lset_zero, lset_succ, mark, hd1, hd3, h5], hk.alloc _, fun _ => IsRow.new _ _ _, fun h => by simp [mark, h5] at h⟩
  case o5 =>
    rintro b' a' w' hb hd ⟨nb, rfl, hk, hr, h54⟩
    have hd4 : b' 4 = true := hd { on := 4, ground := Ground.data } (by simp) rfl
    have hrow : IsRow w' nb 27 (ints [x, y]) := hr hd4
    have hcall := cmpOr_c [x, y] _ w' (hrow.isInts All trivial (by simp) (fun z hz => by have h1 := hxb.out; have h2 := hyb.out; simp at hz; omega) 2)
    simp only [List.length_cons, List.length_nil, Nat.zero_add, Nat.reduceAdd] at hcall
    obtain ⟨q, hq⟩ : ∃ q, q = orM [x, y] := ⟨_, rfl⟩
    have HQ := hid hq
    rw [← hq] at hcall
    clear hq
    simp only [sIs_nil, sIs_cons, sI_lit, lset_zero, lset_succ, hd4, cond_true]
    gi_wp2
    refine ⟨trivial, ?_⟩
    refine (callsIn_wide.2 hcall).mono ?_
    clear hcall
    rintro e w3 ⟨rfl, hk3⟩
    gi_wp2
    exact ⟨nb, by simp [sIs_nil, sIs_cons, sI_lit, lset_zero, lset_succ, mark, hd4, HQ.out], hk.trans hk3, fun h => (hr (by simpa [mark] using h)).keep hk3 trivial, fun _ => mark_mono _ hd4⟩
  case o6 =>
    rintro b' a' w' hb hd ⟨nb, rfl, hk, hr, h54⟩
    have hd5 : b' 5 = true := hd { on := 5, ground := Ground.data } (by simp) rfl
    obtain ⟨q, hq⟩ : ∃ q, q = orM [x, y] := ⟨_, rfl⟩
    have HQ := hid hq
    simp only [sIs_nil, sIs_cons, sI_lit, lset_zero, lset_succ, hd5, cond_true, ← hq]
    clear hq
    gi_wp2
    exact ⟨nb, by simp [sIs_nil, sIs_cons, sI_lit, lset_zero, lset_succ, mark, hd5, h54 hd5, HQ.out], hk, fun h => hr (by simpa [mark] using h), fun h => mark_mono _ (h54 (by simpa [mark] using h))⟩
  case fin =>
    rintro b' a' w' hb ⟨nb, rfl, hk, hr, h54⟩
    have e0 := hb 0 (by decide)
    have e1 := hb 1 (by decide)
    have e2 := hb 2 (by decide)
    have e3 := hb 3 (by decide)
    have e4 := hb 4 (by decide)
    have e5 := hb 5 (by decide)
    have e6 := hb 6 (by decide)
    clear hb hr h54
    simp only [sIs_nil, sIs_cons, sI_lit, lset_zero, lset_succ, e0, e1, e2, e3, e4, e5, e6, cond_true]
    clear e0 e1 e2 e3 e4 e5 e6
    have hsm : sameM ss ts = if orM [x, y] = 0 then decide (shareM ss = shareM ts) else false := by rw [Hx.out, Hy.out]; rfl
    have Hor := hid (orM_two x y)
    have Hsm := hid hsm
    clear hsm
    by_cases h0 : orM [x, y] = 0
    · obtain ⟨hx0, hy0⟩ := Hor.out.1 h0
      have hok1 : Okay ss := (formM_zero ss).1 (by rw [← Hx.out, hx0])
      have hok2 : Okay ts := (formM_zero ts).1 (by rw [← Hy.out, hy0])
      subst hx0
      subst hy0
      have hsm2 : Hid (sameM ss ts = decide (shareM ss = shareM ts)) := by show _ = _; rw [Hsm.out, if_pos h0]
      rw [h0]
      clear h0
      gi_wp2
      obtain ⟨d, hd⟩ : ∃ d, d = decide (shareM ss = shareM ts) := ⟨_, rfl⟩
      have Hd := hid hd
      clear hd
      refine wpIn_region_inv (ShareReg ua ub (shareM ss).length (shareM ts).length ss ts d) mixed (by kernel_rfl) ?start ⟨?o0, ?o1, ?o2, ?o3, ?o4, ?o5, ?o6, ?o7, trivial⟩ ?fin
      case start => exact ⟨none, none, 0, 0, by simp only [sIs_nil, sIs_cons, sI_false], (Keeps.refl _ _).drew, fun h => (by cases h), fun h => (by cases h), fun h => (by cases h), fun h => (by cases h)⟩
      case o0 =>
        rintro b' a' w2 hb hd ⟨a1, a2, k1, k2, rfl, hk2, c1, c4, c21, c54⟩
        have f1 : w2.cell? ⟨w.heap.size, 0, none⟩ = some ua := (hk.trans hk2).cell (p := ⟨w.heap.size, 0, none⟩) trivial (r0.cell 0)
        simp only [sIs_nil, sIs_cons, sI_lit, lset_zero, lset_succ]
        gi_wp2
        exact ⟨a1, a2, k1, k2, by simp [sIs_nil, sIs_cons, sI_lit, lset_zero, lset_succ, mark], hk2, fun h => c1 (by simpa [mark] using h), fun h => c4 (by simpa [mark] using h), fun h => mark_mono _ (c21 (by simpa [mark] using h)), fun h => mark_mono _ (c54 (by simpa [mark] using h))⟩
      case o3 =>
        rintro b' a' w2 hb hd ⟨a1, a2, k1, k2, rfl, hk2, c1, c4, c21, c54⟩
        have f1 : w2.cell? ⟨w.heap.size + 1, 0, none⟩ = some ub := (hk.trans hk2).cell (p := ⟨w.heap.size + 1, 0, none⟩) trivial (r1.cell 0)
        simp only [sIs_nil, sIs_cons, sI_lit, lset_zero, lset_succ]
        gi_wp2
        exact ⟨a1, a2, k1, k2, by simp [sIs_nil, sIs_cons, sI_lit, lset_zero, lset_succ, mark], hk2, fun h => c1 (by simpa [mark] using h), fun h => c4 (by simpa [mark] using h), fun h => mark_mono _ (c21 (by simpa [mark] using h)), fun h => mark_mono _ (c54 (by simpa [mark] using h))⟩
      case o1 =>
        rintro b' a' w2 hb hd ⟨a1, a2, k1, k2, rfl, hk2, c1, c4, c21, c54⟩
        have hd0 : b' 0 = true := hd { on := 0, ground := Ground.data } (by simp) rfl
        have h2 : b' 2 = false := by
          cases h : b' 2 with
          | false => rfl
          | true => rw [c21 h] at hb; cases hb
        have hcall := share_c ss _ w2 (Hp.out w2 (hk.trans hk2)) hok1 (htb.out w2 (hk.trans hk2))
        simp only [sIs_nil, sIs_cons, sI_lit, lset_zero, lset_succ, hd0, cond_true]
        gi_wp2
        refine ⟨trivial, ?_⟩
        refine (callsIn_wide.2 hcall).mono ?_
        clear hcall
        rintro e w3 ⟨vr, rfl, ⟨u3, rfl, hs3⟩, hk3⟩
        obtain ⟨a3, k3, rfl⟩ := hs3.form
        gi_wp2
        exact ⟨a3, a2, k3, k2, by simp [sIs_nil, sIs_cons, sI_lit, lset_zero, lset_succ, mark, hd0, h2], hk2.trans hk3, fun _ => hs3.sub fun _ _ _ => trivial, fun h => (c4 (by simpa [mark] using h)).keep hk3 fun _ _ h => h, fun h => by simp [mark, h2] at h, fun h => mark_mono _ (c54 (by simpa [mark] using h))⟩
      case o4 =>
        rintro b' a' w2 hb hd ⟨a1, a2, k1, k2, rfl, hk2, c1, c4, c21, c54⟩
        have hd0 : b' 3 = true := hd { on := 3, ground := Ground.data } (by simp) rfl
        have h2 : b' 5 = false := by
          cases h : b' 5 with
          | false => rfl
          | true => rw [c54 h] at hb; cases hb
        have hcall := share_c ts _ w2 (Hq.out w2 (hk.trans hk2)) hok2 (htb.out w2 (hk.trans hk2))
        simp only [sIs_nil, sIs_cons, sI_lit, lset_zero, lset_succ, hd0, cond_true]
        gi_wp2
        refine ⟨trivial, ?_⟩
        refine (callsIn_wide.2 hcall).mono ?_
        clear hcall
        rintro e w3 ⟨vr, rfl, ⟨u3, rfl, hs3⟩, hk3⟩
        obtain ⟨a3, k3, rfl⟩ := hs3.form
        gi_wp2
        exact ⟨a1, a3, k1, k3, by simp [sIs_nil, sIs_cons, sI_lit, lset_zero, lset_succ, mark, hd0, h2], hk2.trans hk3, fun h => (c1 (by simpa [mark] using h)).keep hk3 fun _ _ h => h, fun _ => hs3.sub fun _ _ _ => trivial, fun h => mark_mono _ (c21 (by simpa [mark] using h)), fun h => by simp [mark, h2] at h⟩
      case o2 =>
        rintro b' a' w2 hb hd ⟨a1, a2, k1, k2, rfl, hk2, c1, c4, c21, c54⟩
        have hd1 : b' 1 = true := hd { on := 1, ground := Ground.data } (by simp) rfl
        simp only [sIs_nil, sIs_cons, sI_lit, lset_zero, lset_succ, hd1, cond_true]
        gi_wp2
        exact ⟨a1, a2, k1, k2, by simp [sIs_nil, sIs_cons, sI_lit, lset_zero, lset_succ, mark, hd1], hk2, fun h => c1 (by simpa [mark] using h), fun h => c4 (by simpa [mark] using h), fun _ => mark_mono _ hd1, fun h => mark_mono _ (c54 (by simpa [mark] using h))⟩
      case o5 =>
        rintro b' a' w2 hb hd ⟨a1, a2, k1, k2, rfl, hk2, c1, c4, c21, c54⟩
        have hd1 : b' 4 = true := hd { on := 4, ground := Ground.data } (by simp) rfl
        simp only [sIs_nil, sIs_cons, sI_lit, lset_zero, lset_succ, hd1, cond_true]
        gi_wp2
        exact ⟨a1, a2, k1, k2, by simp [sIs_nil, sIs_cons, sI_lit, lset_zero, lset_succ, mark, hd1], hk2, fun h => c1 (by simpa [mark] using h), fun h => c4 (by simpa [mark] using h), fun h => mark_mono _ (c21 (by simpa [mark] using h)), fun _ => mark_mono _ hd1⟩
      case o6 =>
        rintro b' a' w2 hb hd ⟨a1, a2, k1, k2, rfl, hk2, c1, c4, c21, c54⟩
        have hd1 : b' 2 = true := hd { on := 2, ground := Ground.data } (by simp) rfl
        have hd2 : b' 5 = true := hd { on := 5, ground := Ground.data } (by simp) rfl
        have hcall := EqualSteps_c 36 eg_Same1 Same1_c (shareM ss) (shareM ts) _ _ w2 (c1 (c21 hd1)) (c4 (c54 hd2))
        rw [← Hd.out] at hcall
        simp only [sIs_nil, sIs_cons, sI_lit, lset_zero, lset_succ, hd1, hd2, cond_true]
        gi_wp2
        refine ⟨trivial, ?_⟩
        refine (callsIn_wide.2 hcall).mono ?_
        clear hcall
        rintro e w3 ⟨rfl, hk3⟩
        gi_wp2
        exact ⟨a1, a2, k1, k2, by simp [sIs_nil, sIs_cons, sI_lit, lset_zero, lset_succ, mark, hd1, hd2, c21 hd1, c54 hd2], hk2.trans hk3, fun h => (c1 (by simpa [mark] using h)).keep hk3 fun _ _ h => h, fun h => (c4 (by simpa [mark] using h)).keep hk3 fun _ _ h => h, fun h => mark_mono _ (c21 (by simpa [mark] using h)), fun h => mark_mono _ (c54 (by simpa [mark] using h))⟩
      case o7 =>
        rintro b' a' w2 hb hd ⟨a1, a2, k1, k2, rfl, hk2, c1, c4, c21, c54⟩
        have hd1 : b' 6 = true := hd { on := 6, ground := Ground.data } (by simp) rfl
        simp only [sIs_nil, sIs_cons, sI_lit, lset_zero, lset_succ, hd1, cond_true]
        gi_wp2
        exact ⟨a1, a2, k1, k2, by simp [sIs_nil, sIs_cons, sI_lit, lset_zero, lset_succ, mark, hd1], hk2, fun h => c1 (by simpa [mark] using h), fun h => c4 (by simpa [mark] using h), fun h => mark_mono _ (c21 (by simpa [mark] using h)), fun h => mark_mono _ (c54 (by simpa [mark] using h))⟩
      case fin =>
        rintro b' a' w2 hb ⟨a1, a2, k1, k2, rfl, hk2, c1, c4, c21, c54⟩
        have e0 := hb 0 (by decide)
        have e1 := hb 1 (by decide)
        have e2 := hb 2 (by decide)
        have e3 := hb 3 (by decide)
        have e4 := hb 4 (by decide)
        have e5 := hb 5 (by decide)
        have e6 := hb 6 (by decide)
        have e7 := hb 7 (by decide)
        clear hb c1 c4 c21 c54
        simp only [sIs_nil, sIs_cons, sI_lit, lset_zero, lset_succ, e0, e1, e2, e3, e4, e5, e6, e7, cond_true]
        gi_wp2
        go_ret
        exact ⟨ret_bool (by rw [hsm2.out, Hd.out]), (hk0.trans hk).trans hk2⟩
    · have hsm2 : Hid (sameM ss ts = false) := by show _ = _; rw [Hsm.out, if_neg h0]
      have hb : (orM [x, y] != 0) = true := by simpa using h0
      rw [hb]
      gi_wp2
      go_ret
      exact ⟨ret_bool hsm2.out.symm, hk0.trans hk⟩

end Go.Proofs.YtcbmljfgmeeadaaDoor
