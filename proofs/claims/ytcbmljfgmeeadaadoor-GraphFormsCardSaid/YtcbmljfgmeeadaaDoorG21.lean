/-
  CONTRACT: Graft.
-/
import Derived.Test.YtcbmljfgmeeadaaDoorG20
import Derived.Test.YtcbmljfgmeeadaaDoorG16
namespace Go.Proofs.YtcbmljfgmeeadaaDoor
open Go.RowKit Go.Shelf

attribute [local go_sem] Oper.semAt_some

/-- The forms' region of Graft. -/
def FormReg2 (ua ub : Value) (x y : Int) (T : Array Value) (W0 : World) (c : Nat → Bool) (a' : Act) (w' : World) : Prop :=
  ∃ nb : Nat, a' = Act.mk (sIs T [(c 0, 16, .agg #[ua]), (c 1, 17, .int .i64 x), (c 2, 18, .agg #[ub]), (c 3, 19, .int .i64 y), (c 4, 20, .slice (some ⟨nb, 0, none⟩) 2 2), (c 5, 21, .int .i64 (orM [x, y])), (c 6, 8, .int .i64 (orM [x, y]))]) [] ∧
    Keeps All W0 w' ∧ (c 4 = true → IsRow w' nb 27 [.int .i64 x, .int .i64 y]) ∧ (c 5 = true → c 4 = true)

theorem orM_bound {x y : Int} (hx : 0 ≤ x ∧ x ≤ 4) (hy : 0 ≤ y ∧ y ≤ 4) : 0 ≤ orM [x, y] ∧ orM [x, y] ≤ 4 := by
  by_cases h1 : x = 0
  · subst h1
    rw [orM_zero]
    by_cases h2 : y = 0
    · subst h2; simp [orM]
    · rw [orM_cons _ h2]; exact hy
  · rw [orM_cons _ h1]; exact hx

/-- The numbers that Graft gives the steps of the first proof. -/
def graftNow (n m at_ : Nat) : List Int := ((List.range m).map fun i => ((n + i : Nat) : Int)).set at_ ((n : Int) - 1)
def renumM (now : List Int) (s : Stp) : Stp := ⟨s.label, s.args.map (numAt now)⟩
/-- What Graft shares. -/
def graftW (p : List Stp) (at_ : Nat) (q : List Stp) : List Stp := q ++ p.map (renumM (graftNow q.length p.length at_))
def graftM (p : List Stp) (at_ : Nat) (q : List Stp) : List Stp := if at_ + 1 = p.length then q else graftW p at_ q

theorem graftNow_length (n m at_ : Nat) : (graftNow n m at_).length = m := by simp [graftNow]
theorem graftNow_get {n m at_ i : Nat} (hn : 1 ≤ n) (h : i < m) : 0 ≤ numAt (graftNow n m at_) i ∧ numAt (graftNow n m at_) i ≤ ((n + i : Nat) : Int) := by
  unfold numAt
  rw [List.getD_eq_getElem?_getD, Int.toNat_natCast, graftNow]
  by_cases e : i = at_
  · subst e
    rw [List.getElem?_set_self (by simpa using h)]
    simp; omega
  · rw [List.getElem?_set_ne (fun h => e h.symm)]
    simp [h]; omega

theorem graftW_okay {p q : List Stp} (hp : Okay p) (hq : Okay q) (at_ : Nat) (hlen : p.length + q.length ≤ 2000) : Okay (graftW p at_ q) := by
  have h1 := hp.1
  have h2 := hq.1
  refine ⟨by simp [graftW]; omega, by simp [graftW]; omega, fun i hi => ?_⟩
  by_cases hl : i < q.length
  · simp only [graftW, List.getElem_append_left hl]
    exact hq.2.2 i hl
  · have hi2 : i - q.length < p.length := by simp [graftW] at hi; omega
    simp only [graftW, List.getElem_append_right (Nat.le_of_not_lt hl), List.getElem_map, renumM, List.length_map]
    obtain ⟨g1, g2⟩ := hp.2.2 _ hi2
    refine ⟨g1, fun a ha => ?_⟩
    obtain ⟨b, hb, rfl⟩ := List.mem_map.1 ha
    obtain ⟨b1, b2⟩ := g2 b hb
    have h3 := graftNow_get (n := q.length) (m := p.length) (at_ := at_) (i := b.toNat) h2 (by omega)
    rw [show ((b.toNat : Nat) : Int) = b by omega] at h3
    omega

theorem graftM_okay {p q : List Stp} (hp : Okay p) (hq : Okay q) (at_ : Nat) (hlen : p.length + q.length ≤ 2000) : Okay (graftM p at_ q) := by
  unfold graftM
  split
  · exact hq
  · exact graftW_okay hp hq at_ hlen

set_option maxHeartbeats 1000000 in
theorem Graft_bad (ss ts : List Stp) (v u : Value) (at_ : Int) (w : World) (hv : IsProof All w v ss) (hu : IsProof All w u ts) (hbad : orM [formM ss, formM ts] ≠ 0) :
    Calls Tryd.prog 14 #[v, .int .i64 at_, u] w fun e w' => e = .returned (.tuple #[.agg #[.slice none 0 0], .int .i64 (orM [formM ss, formM ts])]) ∧ Keeps All w w' := by
  obtain ⟨ua, rfl, h1⟩ := hv
  obtain ⟨ub, rfl, h2⟩ := hu
  have l1 : w.heap.size < w.heap.size + 1 := by omega
  have l2 : w.heap.size < w.heap.size + 1 + 1 := by omega
  refine (callsIn_wide (n := 5)).1 ?_
  refine callsIn_of_wp Tryd.func14 rfl trivial ?_ rfl
  simp only [Tryd.ntmps14, List.size_toArray, List.length_cons, List.length_nil, Nat.reduceAdd, Nat.reduceSub, Array.replicate_succ, Array.replicate_zero, List.push_toArray, List.append_toArray, List.nil_append, List.cons_append]
  gi_wp2
  obtain ⟨W0, hW0⟩ : ∃ W0, ((w.alloc (.cells #[ua] 24)).alloc (.cells #[ub] 24)).alloc (.cells #[.slice none 0 0] 24) = W0 := ⟨_, rfl⟩
  have hk0 : Keeps All w W0 := by rw [← hW0]; exact (((Keeps.refl _ _).alloc _).alloc _).alloc _
  have r0 : IsRow W0 w.heap.size 24 [ua] := by rw [← hW0]; exact ((IsRow.new _ _ _).alloc _).alloc _
  have r1 : IsRow W0 (w.heap.size + 1) 24 [ub] := by rw [← hW0]; exact (IsRow.newAt (by simp)).alloc _
  have r2 : IsRow W0 (w.heap.size + 2) 24 [.slice none 0 0] := by rw [← hW0]; exact IsRow.newAt (by simp)
  have hs0 : W0.heap.size = w.heap.size + 3 := by rw [← hW0]; simp
  have hp : ∀ W, Keeps All W0 W → IsProof All W (.agg #[ua]) ss := fun W hk => ⟨ua, rfl, h1.keep (hk0.trans hk) fun _ _ h => h⟩
  have hq : ∀ W, Keeps All W0 W → IsProof All W (.agg #[ub]) ts := fun W hk => ⟨ub, rfl, h2.keep (hk0.trans hk) fun _ _ h => h⟩
  have Hp := hid hp
  have Hq := hid hq
  clear hp hq h1 h2
  rw [hW0]
  obtain ⟨x, hx⟩ : ∃ x, x = formM ss := ⟨_, rfl⟩
  obtain ⟨y, hy⟩ : ∃ y, y = formM ts := ⟨_, rfl⟩
  rw [← hx, ← hy] at hbad
  have Hx := hid hx
  have Hy := hid hy
  clear hx hy
  have hxb : Hid (0 ≤ x ∧ x ≤ 4) := by show _ ∧ _; rw [Hx.out]; exact formM_bound ss
  have hyb : Hid (0 ≤ y ∧ y ≤ 4) := by show _ ∧ _; rw [Hy.out]; exact formM_bound ts
  refine wpIn_region_inv (FormReg2 ua ub x y) mixed (by kernel_rfl) ?start ⟨?o0, ?o1, ?o2, ?o3, ?o4, ?o5, ?o6, trivial⟩ ?fin
  case start => exact ⟨0, by simp only [sIs_nil, sIs_cons, sI_false], (Keeps.refl _ _).drew, fun h => (by cases h), fun h => (by cases h)⟩
  case o0 =>
    rintro b' a' w' hb hd ⟨nb, rfl, hk, hr, h54⟩
    have f1 : w'.cell? ⟨w.heap.size, 0, none⟩ = some ua := hk.cell (p := ⟨w.heap.size, 0, none⟩) trivial (r0.cell 0)
    simp only [sIs_nil, sIs_cons, sI_lit, lset_zero, lset_succ]
    gi_wp2
    exact ⟨nb, by simp [sIs_nil, sIs_cons, sI_lit, lset_zero, lset_succ, mark], hk, fun h => hr (by simpa [mark] using h), fun h => mark_mono _ (h54 (by simpa [mark] using h))⟩
  case o2 =>
    rintro b' a' w' hb hd ⟨nb, rfl, hk, hr, h54⟩
    have f1 : w'.cell? ⟨w.heap.size + 1, 0, none⟩ = some ub := hk.cell (p := ⟨w.heap.size + 1, 0, none⟩) trivial (r1.cell 0)
    simp only [sIs_nil, sIs_cons, sI_lit, lset_zero, lset_succ]
    gi_wp2
    exact ⟨nb, by simp [sIs_nil, sIs_cons, sI_lit, lset_zero, lset_succ, mark], hk, fun h => hr (by simpa [mark] using h), fun h => mark_mono _ (h54 (by simpa [mark] using h))⟩
  case o1 =>
    rintro b' a' w' hb hd ⟨nb, rfl, hk, hr, h54⟩
    have hd0 : b' 0 = true := hd { on := 0, ground := Ground.data } (by simp) rfl
    have hcall := form_c ss _ w' (Hp.out w' hk)
    rw [← Hx.out] at hcall
    simp only [sIs_nil, sIs_cons, sI_lit, lset_zero, lset_succ, hd0, cond_true]
    gi_wp2
    refine ⟨trivial, ?_⟩
    refine (callsIn_wide.2 hcall).mono ?_
    clear hcall
    rintro e w3 ⟨rfl, hk3⟩
    gi_wp2
    exact ⟨nb, by simp [sIs_nil, sIs_cons, sI_lit, lset_zero, lset_succ, mark, hd0], hk.trans hk3, fun h => (hr (by simpa [mark] using h)).keep hk3 trivial, fun h => mark_mono _ (h54 (by simpa [mark] using h))⟩
  case o3 =>
    rintro b' a' w' hb hd ⟨nb, rfl, hk, hr, h54⟩
    have hd0 : b' 2 = true := hd { on := 2, ground := Ground.data } (by simp) rfl
    have hcall := form_c ts _ w' (Hq.out w' hk)
    rw [← Hy.out] at hcall
    simp only [sIs_nil, sIs_cons, sI_lit, lset_zero, lset_succ, hd0, cond_true]
    gi_wp2
    refine ⟨trivial, ?_⟩
    refine (callsIn_wide.2 hcall).mono ?_
    clear hcall
    rintro e w3 ⟨rfl, hk3⟩
    gi_wp2
    exact ⟨nb, by simp [sIs_nil, sIs_cons, sI_lit, lset_zero, lset_succ, mark, hd0], hk.trans hk3, fun h => (hr (by simpa [mark] using h)).keep hk3 trivial, fun h => mark_mono _ (h54 (by simpa [mark] using h))⟩
  case o4 =>
    rintro b' a' w' hb hd ⟨nb, rfl, hk, hr, h54⟩
    have hd1 : b' 1 = true := hd { on := 1, ground := Ground.data } (by simp) rfl
    have hd3 : b' 3 = true := hd { on := 3, ground := Ground.data } (by simp) rfl
    have h5 : b' 5 = false := by
      cases h : b' 5 with
      | false => rfl
      | true => rw [h54 h] at hb; cases hb
    simp only [sIs_nil, sIs_cons, sI_lit, lset_zero, lset_succ, hd1, hd3, cond_true]
    gi_wp2
    exact ⟨w'.heap.size, by simp [sIs_nil, sIs_cons, sI_lit, lset_zero, lset_succ, mark, hd1, hd3, h5], hk.alloc _, fun _ => IsRow.new _ _ _, fun h => by simp [mark, h5] at h⟩
  case o5 =>
    rintro b' a' w' hb hd ⟨nb, rfl, hk, hr, h54⟩
    have hd4 : b' 4 = true := hd { on := 4, ground := Ground.data } (by simp) rfl
    have hrow : IsRow w' nb 27 (ints [x, y]) := hr hd4
    have hcall := cmpOr_c [x, y] _ w' (hrow.isInts All trivial (by simp) (fun z hz => by have h1 := hxb.out; have h2 := hyb.out; simp at hz; omega) 2)
    simp only [List.length_cons, List.length_nil, Nat.zero_add, Nat.reduceAdd] at hcall
    obtain ⟨q, hq⟩ : ∃ q, q = orM [x, y] := ⟨_, rfl⟩
    have HQ := hid hq
    rw [← hq] at hcall
    clear hq
    simp only [sIs_nil, sIs_cons, sI_lit, lset_zero, lset_succ, hd4, cond_true]
    gi_wp2
    refine ⟨trivial, ?_⟩
    refine (callsIn_wide.2 hcall).mono ?_
    clear hcall
    rintro e w3 ⟨rfl, hk3⟩
    gi_wp2
    exact ⟨nb, by simp [sIs_nil, sIs_cons, sI_lit, lset_zero, lset_succ, mark, hd4, HQ.out], hk.trans hk3, fun h => (hr (by simpa [mark] using h)).keep hk3 trivial, fun _ => mark_mono _ hd4⟩
  case o6 =>
    rintro b' a' w' hb hd ⟨nb, rfl, hk, hr, h54⟩
    have hd5 : b' 5 = true := hd { on := 5, ground := Ground.data } (by simp) rfl
    obtain ⟨q, hq⟩ : ∃ q, q = orM [x, y] := ⟨_, rfl⟩
    have HQ := hid hq
    simp only [sIs_nil, sIs_cons, sI_lit, lset_zero, lset_succ, hd5, cond_true, ← hq]
    clear hq
    gi_wp2
    exact ⟨nb, by simp [sIs_nil, sIs_cons, sI_lit, lset_zero, lset_succ, mark, hd5, h54 hd5, HQ.out], hk, fun h => hr (by simpa [mark] using h), fun h => mark_mono _ (h54 (by simpa [mark] using h))⟩
  case fin =>
    rintro b' a' w' hb ⟨nb, rfl, hk, hr, h54⟩
    have e0 := hb 0 (by decide)
    have e1 := hb 1 (by decide)
    have e2 := hb 2 (by decide)
    have e3 := hb 3 (by decide)
    have e4 := hb 4 (by decide)
    have e5 := hb 5 (by decide)
    have e6 := hb 6 (by decide)
    clear hb hr h54
    simp only [sIs_nil, sIs_cons, sI_lit, lset_zero, lset_succ, e0, e1, e2, e3, e4, e5, e6, cond_true]
    clear e0 e1 e2 e3 e4 e5 e6
    have hob := orM_bound hxb.out hyb.out
    have hres : Hid (orM [formM ss, formM ts] = orM [x, y]) := by show _ = _; rw [Hx.out, Hy.out]
    generalize orM [x, y] = q at *
    have hq0 : (q == 0) = false := by simpa using hbad
    have r3 := r2.keep hk trivial
    obtain ⟨c1, c2⟩ := r3.one
    gi_wp2
    have k2 := (r3.set 0 (.slice none 0 0)).one
    refine bodyPost_ret (v := .tuple #[.agg #[.slice none 0 0], .int .i64 q]) (by simp [results, Tryd.results14, go_sem, k2]) rfl ⟨by rw [hres.out], ?_⟩
    exact (hk0.trans hk).setCell (fun (h : w.heap.size + 2 < _) => absurd h (by omega)) _

set_option maxHeartbeats 1000000 in
theorem Graft_range (ss ts : List Stp) (v u : Value) (at_ : Int) (w : World) (hv : IsProof All w v ss) (hu : IsProof All w u ts) (hok1 : Okay ss) (hok2 : Okay ts) (hat : at_ < 0 ∨ (ss.length : Int) ≤ at_) :
    Calls Tryd.prog 14 #[v, .int .i64 at_, u] w fun e w' => e = .returned (.tuple #[.agg #[.slice none 0 0], .int .i64 3]) ∧ Keeps All w w' := by
  obtain ⟨ua, rfl, h1⟩ := hv
  obtain ⟨ub, rfl, h2⟩ := hu
  have l1 : w.heap.size < w.heap.size + 1 := by omega
  have l2 : w.heap.size < w.heap.size + 1 + 1 := by omega
  refine (callsIn_wide (n := 5)).1 ?_
  refine callsIn_of_wp Tryd.func14 rfl trivial ?_ rfl
  simp only [Tryd.ntmps14, List.size_toArray, List.length_cons, List.length_nil, Nat.reduceAdd, Nat.reduceSub, Array.replicate_succ, Array.replicate_zero, List.push_toArray, List.append_toArray, List.nil_append, List.cons_append]
  gi_wp2
  obtain ⟨W0, hW0⟩ : ∃ W0, ((w.alloc (.cells #[ua] 24)).alloc (.cells #[ub] 24)).alloc (.cells #[.slice none 0 0] 24) = W0 := ⟨_, rfl⟩
  have hk0 : Keeps All w W0 := by rw [← hW0]; exact (((Keeps.refl _ _).alloc _).alloc _).alloc _
  have r0 : IsRow W0 w.heap.size 24 [ua] := by rw [← hW0]; exact ((IsRow.new _ _ _).alloc _).alloc _
  have r1 : IsRow W0 (w.heap.size + 1) 24 [ub] := by rw [← hW0]; exact (IsRow.newAt (by simp)).alloc _
  have r2 : IsRow W0 (w.heap.size + 2) 24 [.slice none 0 0] := by rw [← hW0]; exact IsRow.newAt (by simp)
  have hs0 : W0.heap.size = w.heap.size + 3 := by rw [← hW0]; simp
  have hp : ∀ W, Keeps All W0 W → IsProof All W (.agg #[ua]) ss := fun W hk => ⟨ua, rfl, h1.keep (hk0.trans hk) fun _ _ h => h⟩
  have hq : ∀ W, Keeps All W0 W → IsProof All W (.agg #[ub]) ts := fun W hk => ⟨ub, rfl, h2.keep (hk0.trans hk) fun _ _ h => h⟩
  have Hp := hid hp
  have Hq := hid hq
  have h1F := hid h1
  clear hp hq h1 h2
  rw [hW0]
  obtain ⟨a, c, hua⟩ := h1F.out.form
  have Hua := hid hua
  clear hua
  have Hx := hid ((formM_zero ss).2 hok1).symm
  have Hy := hid ((formM_zero ts).2 hok2).symm
  refine wpIn_region_inv (FormReg2 ua ub 0 0) mixed (by kernel_rfl) ?start ⟨?o0, ?o1, ?o2, ?o3, ?o4, ?o5, ?o6, trivial⟩ ?fin
  case start => exact ⟨0, by simp only [sIs_nil, sIs_cons, sI_false], (Keeps.refl _ _).drew, fun h => (by cases h), fun h => (by cases h)⟩
  case o0 =>
    rintro b' a' w' hb hd ⟨nb, rfl, hk, hr, h54⟩
    have f1 : w'.cell? ⟨w.heap.size, 0, none⟩ = some ua := hk.cell (p := ⟨w.heap.size, 0, none⟩) trivial (r0.cell 0)
    simp only [sIs_nil, sIs_cons, sI_lit, lset_zero, lset_succ]
    gi_wp2
    exact ⟨nb, by simp [sIs_nil, sIs_cons, sI_lit, lset_zero, lset_succ, mark], hk, fun h => hr (by simpa [mark] using h), fun h => mark_mono _ (h54 (by simpa [mark] using h))⟩
  case o2 =>
    rintro b' a' w' hb hd ⟨nb, rfl, hk, hr, h54⟩
    have f1 : w'.cell? ⟨w.heap.size + 1, 0, none⟩ = some ub := hk.cell (p := ⟨w.heap.size + 1, 0, none⟩) trivial (r1.cell 0)
    simp only [sIs_nil, sIs_cons, sI_lit, lset_zero, lset_succ]
    gi_wp2
    exact ⟨nb, by simp [sIs_nil, sIs_cons, sI_lit, lset_zero, lset_succ, mark], hk, fun h => hr (by simpa [mark] using h), fun h => mark_mono _ (h54 (by simpa [mark] using h))⟩
  case o1 =>
    rintro b' a' w' hb hd ⟨nb, rfl, hk, hr, h54⟩
    have hd0 : b' 0 = true := hd { on := 0, ground := Ground.data } (by simp) rfl
    have hcall := form_c ss _ w' (Hp.out w' hk)
    rw [← Hx.out] at hcall
    simp only [sIs_nil, sIs_cons, sI_lit, lset_zero, lset_succ, hd0, cond_true]
    gi_wp2
    refine ⟨trivial, ?_⟩
    refine (callsIn_wide.2 hcall).mono ?_
    clear hcall
    rintro e w3 ⟨rfl, hk3⟩
    gi_wp2
    exact ⟨nb, by simp [sIs_nil, sIs_cons, sI_lit, lset_zero, lset_succ, mark, hd0], hk.trans hk3, fun h => (hr (by simpa [mark] using h)).keep hk3 trivial, fun h => mark_mono _ (h54 (by simpa [mark] using h))⟩
  case o3 =>
    rintro b' a' w' hb hd ⟨nb, rfl, hk, hr, h54⟩
    have hd0 : b' 2 = true := hd { on := 2, ground := Ground.data } (by simp) rfl
    have hcall := form_c ts _ w' (Hq.out w' hk)
    rw [← Hy.out] at hcall
    simp only [sIs_nil, sIs_cons, sI_lit, lset_zero, lset_succ, hd0, cond_true]
    gi_wp2
    refine ⟨trivial, ?_⟩
    refine (callsIn_wide.2 hcall).mono ?_
    clear hcall
    rintro e w3 ⟨rfl, hk3⟩
    gi_wp2
    exact ⟨nb, by simp [sIs_nil, sIs_cons, sI_lit, lset_zero, lset_succ, mark, hd0], hk.trans hk3, fun h => (hr (by simpa [mark] using h)).keep hk3 trivial, fun h => mark_mono _ (h54 (by simpa [mark] using h))⟩
  case o4 =>
    rintro b' a' w' hb hd ⟨nb, rfl, hk, hr, h54⟩
    have hd1 : b' 1 = true := hd { on := 1, ground := Ground.data } (by simp) rfl
    have hd3 : b' 3 = true := hd { on := 3, ground := Ground.data } (by simp) rfl
    have h5 : b' 5 = false := by
      cases h : b' 5 with
      | false => rfl
      | true => rw [h54 h] at hb; cases hb
    simp only [sIs_nil, sIs_cons, sI_lit, lset_zero, lset_succ, hd1, hd3, cond_true]
    gi_wp2
    exact ⟨w'.heap.size, by simp [sIs_nil, sIs_cons, sI_lit, lset_zero, lset_succ, mark, hd1, hd3, h5], hk.alloc _, fun _ => IsRow.new _ _ _, fun h => by simp [mark, h5] at h⟩
  case o5 =>
    rintro b' a' w' hb hd ⟨nb, rfl, hk, hr, h54⟩
    have hd4 : b' 4 = true := hd { on := 4, ground := Ground.data } (by simp) rfl
    have hrow : IsRow w' nb 27 (ints [0, 0]) := hr hd4
    have hcall := cmpOr_c [0, 0] _ w' (hrow.isInts All trivial (by simp) (fun z hz => by simp at hz; omega) 2)
    simp only [List.length_cons, List.length_nil, Nat.zero_add, Nat.reduceAdd] at hcall
    obtain ⟨q, hq⟩ : ∃ q, q = orM [0, 0] := ⟨_, rfl⟩
    have HQ := hid hq
    rw [← hq] at hcall
    clear hq
    simp only [sIs_nil, sIs_cons, sI_lit, lset_zero, lset_succ, hd4, cond_true]
    gi_wp2
    refine ⟨trivial, ?_⟩
    refine (callsIn_wide.2 hcall).mono ?_
    clear hcall
    rintro e w3 ⟨rfl, hk3⟩
    gi_wp2
    exact ⟨nb, by simp [sIs_nil, sIs_cons, sI_lit, lset_zero, lset_succ, mark, hd4, HQ.out], hk.trans hk3, fun h => (hr (by simpa [mark] using h)).keep hk3 trivial, fun _ => mark_mono _ hd4⟩
  case o6 =>
    rintro b' a' w' hb hd ⟨nb, rfl, hk, hr, h54⟩
    have hd5 : b' 5 = true := hd { on := 5, ground := Ground.data } (by simp) rfl
    obtain ⟨q, hq⟩ : ∃ q, q = orM [0, 0] := ⟨_, rfl⟩
    have HQ := hid hq
    simp only [sIs_nil, sIs_cons, sI_lit, lset_zero, lset_succ, hd5, cond_true, ← hq]
    clear hq
    gi_wp2
    exact ⟨nb, by simp [sIs_nil, sIs_cons, sI_lit, lset_zero, lset_succ, mark, hd5, h54 hd5, HQ.out], hk, fun h => hr (by simpa [mark] using h), fun h => mark_mono _ (h54 (by simpa [mark] using h))⟩
  case fin =>
    rintro b' a' w' hb ⟨nb, rfl, hk, hr, h54⟩
    have e0 := hb 0 (by decide)
    have e1 := hb 1 (by decide)
    have e2 := hb 2 (by decide)
    have e3 := hb 3 (by decide)
    have e4 := hb 4 (by decide)
    have e5 := hb 5 (by decide)
    have e6 := hb 6 (by decide)
    clear hb hr h54
    have hor : orM [0, 0] = 0 := rfl
    simp only [sIs_nil, sIs_cons, sI_lit, lset_zero, lset_succ, e0, e1, e2, e3, e4, e5, e6, cond_true, hor]
    clear e0 e1 e2 e3 e4 e5 e6 hor
    have r3 := r2.keep hk trivial
    obtain ⟨c1, c2⟩ := r3.one
    obtain ⟨c3, _⟩ := (r0.keep hk trivial).one
    rw [Hua.out] at c3
    have k2 := (r3.set 0 (.slice none 0 0)).one
    have hfinal : Keeps All w (w'.setCell ⟨w.heap.size + 2, 0, none⟩ (.slice none 0 0)) := (hk0.trans hk).setCell (fun (h : w.heap.size + 2 < _) => absurd h (by omega)) _
    have Hf := hid hfinal
    clear hfinal
    rcases hat with hat | hat
    · gi_wp2
      refine bodyPost_ret (v := .tuple #[.agg #[.slice none 0 0], .int .i64 3]) (by simp [results, Tryd.results14, go_sem, k2]) rfl ⟨rfl, Hf.out⟩
    · have hn : Hid (1 ≤ ss.length) := hok1.1
      have h0 : ¬ at_ < 0 := by have := hn.out; omega
      gi_wp2
      refine bodyPost_ret (v := .tuple #[.agg #[.slice none 0 0], .int .i64 3]) (by simp [results, Tryd.results14, go_sem, k2]) rfl ⟨rfl, Hf.out⟩

end Go.Proofs.YtcbmljfgmeeadaaDoor
