/-
  CONTRACT: Size.
-/
import Derived.Test.YtcbmljfgmeeadaaDoorG2
import Derived.Test.YtcbmljfgmeeadaaDoorG5
import Derived.Test.YtcbmljfgmeeadaaDoorG7
import Derived.Test.YtcbmljfgmeeadaaDoorOwn
import Derived.Test.YtcbmljfgmeeadaaDoorReg
namespace Go.Proofs.YtcbmljfgmeeadaaDoor
open Go.RowKit Go.Shelf

attribute [local go_sem] Oper.semAt_some

/-- What Size keeps from round to round. -/
structure SInv (w : World) (ps : Value) (pre : List Nat) (W : World) : Prop where
  keep : Keeps All w W
  pbox : IsRow W w.heap.size 24 [ps]
  rbox : IsRow W (w.heap.size + 1) 3 [.int .i64 (pre.length : Int)]

/-- The return statement's region. -/
def SizeReg (df : List Deferred) (n0 k n q : Nat) (ps : Value) (sz : List Int) (y : Int) (T : Array Value) (W0 : World) (c : Nat → Bool) (a' : Act) (w' : World) : Prop :=
  ∃ nb : Nat, a' = Act.mk (sIs T [(c 0, 16, .int .i64 k), (c 1, 17, .agg #[ps]), (c 2, 18, .slice (some ⟨nb, 0, none⟩) n n), (c 3, 19, .pointer (some ⟨n0, 0, none⟩)), (c 4, 20, ps), (c 5, 21, .int .i64 n), (c 6, 22, .int .i64 q),
      (c 7, 23, .pointer (some ⟨nb, q, none⟩)), (c 8, 24, .int .i64 y), (c 10, 3, .int .i64 y), (c 11, 4, .int .i64 0)]) df ∧
    Keeps (fun b => b ≠ n0 + 1) W0 w' ∧ IsRow w' (n0 + 1) 3 [.int .i64 k] ∧ (c 2 = true → W0.heap.size ≤ nb ∧ IsRow w' nb 3 (ints sz)) ∧ (c 7 = true → c 2 = true) ∧ (c 8 = true → c 7 = true)

theorem Size_bad (ss : List Stp) (v : Value) (w : World) (hv : IsProof All w v ss) (hf : formM ss ≠ 0) :
    Calls Tryd.prog 10 #[v] w fun e w' => e = .returned (.tuple #[.int .i64 0, .int .i64 0, .int .i64 (formM ss)]) ∧ Keeps All w w' := by
  obtain ⟨u, rfl, hs⟩ := hv
  have hform := form_c ss (.agg #[u]) (((w.alloc (.cells #[u] 24)).alloc (.cells #[.int .i64 0] 3))) ⟨u, rfl, hs.keep (((Keeps.refl _ _).alloc _).alloc _) fun _ _ h => h⟩
  obtain ⟨a, cap, rfl, hl, h⟩ := hs
  clear h
  generalize formM ss = e0 at hform hf
  have h0 : (e0 == 0) = false := by simpa using hf
  go_enter Tryd.func10, Tryd.ntmps10
  go_wp2_with (go_at_call 29; refine hform.mono ?_; clear hform; rintro e w1 ⟨rfl, hk1⟩; have r1 : IsRow w1 (w.heap.size + 1) 3 [.int .i64 0] := IsRow.keep (S := All) (IsRow.newAt (by simp)) hk1 trivial; obtain ⟨c1, c2⟩ := r1.one)
  have k2 := (r1.set 0 (.int .i64 0)).one
  refine bodyPost_ret (v := .tuple #[.int .i64 0, .int .i64 0, .int .i64 e0]) (by simp [results, Tryd.results10, go_sem, k2]) rfl ⟨rfl, ?_⟩
  exact (((Keeps.refl All w).alloc _).trans (((Keeps.refl _ _).alloc _).trans hk1)).setCell (fun (h : w.heap.size + 1 < _) => absurd h (by omega)) _

set_option maxHeartbeats 1000000 in
theorem Size_good (ss : List Stp) (v : Value) (w : World) (hv : IsProof All w v ss) (hok : Okay ss) :
    Calls Tryd.prog 10 #[v] w fun e w' => e = .returned (.tuple #[.int .i64 ((post ss).length : Int), .int .i64 ((sizesM ss).getD (ss.length - 1) 0), .int .i64 0]) ∧ Keeps All w w' := by
  obtain ⟨u, rfl, hs⟩ := hv
  have hs' := hs
  have hform := form_c ss (.agg #[u]) (((w.alloc (.cells #[u] 24)).alloc (.cells #[.int .i64 0] 3))) ⟨u, rfl, hs.keep (((Keeps.refl _ _).alloc _).alloc _) fun _ _ h => h⟩
  rw [(formM_zero ss).2 hok] at hform
  obtain ⟨a, cap, rfl, hl, h⟩ := hs
  clear h
  have hlen : ss.length ≤ 2000 := hok.2.1
  refine (callsIn_wide (n := 5)).1 ?_
  refine callsIn_of_wp_marks Tryd.func10 rfl trivial ?_ rfl
  simp only [Tryd.ntmps10, List.size_toArray, List.length_cons, List.length_nil, Nat.reduceAdd, Nat.reduceSub, Array.replicate_succ, Array.replicate_zero, List.push_toArray, List.append_toArray, List.nil_append, List.cons_append]
  gi_wp2
  refine ⟨trivial, ?_⟩
  refine (callsIn_wide.2 hform).mono ?_
  clear hform
  rintro e w1 ⟨rfl, hk1⟩
  have hk0 : Keeps All w w1 := (((Keeps.refl _ _).alloc _).alloc _).trans hk1
  have r0 : IsRow w1 w.heap.size 24 [.slice a ss.length cap] := IsRow.keep (S := All) (by repeat (first | (refine IsRow.newAt ?_; (simp; done)) | refine IsRow.alloc ?_ _)) hk1 trivial
  have r1 : IsRow w1 (w.heap.size + 1) 3 [.int .i64 0] := IsRow.keep (S := All) (by repeat (first | (refine IsRow.newAt ?_; (simp; done)) | refine IsRow.alloc ?_ _)) hk1 trivial
  have hs1 := hk1.size
  simp at hs1
  obtain ⟨c0, _⟩ := r0.one
  gi_wp2
  refine ⟨trivial, ?_⟩
  refine (callsIn_wide.2 (postorder_c _ _)).mono ?_
  rintro e w2 ⟨rfl, rfl⟩
  gi_wp2
  refine wpIn_rangeFunc_f (fun T v => T.setIfInBounds 13 v) (gf := 55) (lb := #[.pointer (some ⟨w1.heap.size, 0, none⟩)]) rfl eg_postorder1
    (postorder1_seq ss hok w1.heap.size (fun k => k < w.heap.size ∨ k = w1.heap.size) (Or.inr rfl) _ ?hP ?hd) rfl
    (SInv w (.slice a ss.length cap)) ?hI ?h0 ?assign ?body ?hProt ?done
  case hP => intro k hk; simp; omega
  case hProt => intro k hk; simp; omega
  case hd =>
    refine ⟨.slice a ss.length cap, ?_, ?_⟩
    · exact (show IsRow _ w1.heap.size 24 [_] from IsRow.newAt (by simp)).cell 0
    · exact (hs'.move (hk0.alloc _) fun k hk _ => ⟨trivial, Or.inl hk⟩)
  case hI =>
    intro pre A B h hA hk
    exact ⟨h.keep.upto hk fun k hlt => by simp; omega, h.pbox.keep hk (by simp; omega), h.rbox.keep hk (by simp; omega)⟩
  case h0 => exact ⟨hk0.alloc _, r0.alloc _, r1.alloc _⟩
  case assign =>
    intro m l x W K hK
    gi_wp2
    exact hK
  case body =>
    intro m l pre x W hI hpre hsz
    have hpl : pre.length < 2000 := by
      have h1 := hpre.length_le
      have h2 := post_length_le hok
      simp at h1
      omega
    obtain ⟨d0, d1⟩ := hI.rbox.one
    gi_wp2
    refine ⟨⟨hI.keep.upto ((Keeps.refl (fun k => k ≠ w.heap.size + 1) _).setCell (fun _ hn => hn rfl) _) fun k hk => by omega, hI.pbox.other (by omega) _ _, ?_⟩, ?_⟩
    · have h := hI.rbox.set 0 (.int .i64 ((pre.length : Int) + 1))
      simpa using h
    · exact (Keeps.refl _ _).setCell (fun _ (h : (w.heap.size + 1 < w.heap.size ∨ w.heap.size + 1 = w1.heap.size) ∨ _) => by simp at h; omega) _
  case done =>
    intro D W hD hI hdef
    gi_wp2
    have hrb := hI.rbox
    have hpb := hI.pbox
    have hn0 : 1 ≤ ss.length := hok.1
    simp at hD
    subst hD
    obtain ⟨q, hq⟩ : ∃ q, q = ss.length - 1 := ⟨_, rfl⟩
    have hq1 : q < ss.length := by omega
    have hq2 : Hid ((ss.length : Int) - 1 = q) := by show _ = _; omega
    have hsl : (sizesM ss).length = ss.length := sizesTo_length ss _
    obtain ⟨y, hy⟩ : ∃ y, y = (sizesM ss).getD q 0 := ⟨_, rfl⟩
    have hyc : Hid ((sizesM ss)[q]? = some y) := by
      show _ = _
      rw [hy, List.getD_eq_getElem?_getD, List.getElem?_eq_getElem (by omega)]; rfl
    have Hsl := hid hsl
    have Hq := hid hq
    have Hy := hid hy
    clear hq hy hsl
    refine wpIn_region_inv (SizeReg [{ target := Target.collected (w1.heap.size + 1), args := #[] }] w.heap.size (post ss).length ss.length q (.slice a ss.length cap) (sizesM ss) y) mixed (by kernel_rfl) ?start ⟨?o0, ?o1, ?o2, ?o3, ?o4, ?o5, ?o6, ?o7, ?o8, ?o9, ?o10, ?o11, trivial⟩ ?fin
    case start => exact ⟨0, by simp only [sIs_nil, sIs_cons, sI_false], (Keeps.refl _ _).drew, hrb, fun h => (by cases h), fun h => (by cases h), fun h => (by cases h)⟩
    case o0 =>
      rintro b' a' w' hb hd ⟨nb, rfl, hk, hr, hc, h72, h87⟩
      obtain ⟨f1, _⟩ := hr.one
      simp only [sIs_nil, sIs_cons, sI_lit, lset_zero, lset_succ]
      gi_wp2
      exact ⟨nb, by simp [sIs_nil, sIs_cons, sI_lit, lset_zero, lset_succ, mark], hk, hr, fun h => hc (by simpa [mark] using h), fun h => mark_mono _ (h72 (by simpa [mark] using h)), fun h => mark_mono _ (h87 (by simpa [mark] using h))⟩
    case o1 =>
      rintro b' a' w' hb hd ⟨nb, rfl, hk, hr, hc, h72, h87⟩
      obtain ⟨f1, _⟩ := (hpb.keep hk (by omega)).one
      simp only [sIs_nil, sIs_cons, sI_lit, lset_zero, lset_succ]
      gi_wp2
      exact ⟨nb, by simp [sIs_nil, sIs_cons, sI_lit, lset_zero, lset_succ, mark], hk, hr, fun h => hc (by simpa [mark] using h), fun h => mark_mono _ (h72 (by simpa [mark] using h)), fun h => mark_mono _ (h87 (by simpa [mark] using h))⟩
    case o2 =>
      rintro b' a' w' hb hd ⟨nb, rfl, hk, hr, hc, h72, h87⟩
      simp [Region.binds] at hd
      have hp : IsProof All w' (.agg #[.slice a ss.length cap]) ss := ⟨_, rfl, hs'.keep (hI.keep.upto hk fun k hk => by omega) fun _ _ _ => trivial⟩
      have hcall := sizes_c ss (.agg #[.slice a ss.length cap]) w' hp hok
      simp only [sIs_nil, sIs_cons, sI_lit, lset_zero, lset_succ]
      gi_wp2
      refine ⟨trivial, ?_⟩
      refine (callsIn_wide.2 hcall).mono ?_
      clear hcall
      rintro e w3 ⟨nb', rfl, hnb, hrow, hk3⟩
      gi_wp2
      have h7 : b' 7 = false := by
        cases h : b' 7 with
        | false => rfl
        | true => rw [h72 h] at hb; cases hb
      refine ⟨nb', by simp [sIs_nil, sIs_cons, sI_lit, lset_zero, lset_succ, mark, hd, h7], hk.trans (hk3.sub fun _ _ _ => trivial), hr.keep hk3 trivial, fun _ => ⟨Nat.le_trans hk.size hnb, hrow⟩, fun h => by simp [mark, h7] at h, fun h => mark_mono _ (h87 (by simpa [mark] using h))⟩
    case o3 =>
      rintro b' a' w' hb hd ⟨nb, rfl, hk, hr, hc, h72, h87⟩
      simp only [sIs_nil, sIs_cons, sI_lit, lset_zero, lset_succ]
      gi_wp2
      exact ⟨nb, by simp [sIs_nil, sIs_cons, sI_lit, lset_zero, lset_succ, mark], hk, hr, fun h => hc (by simpa [mark] using h), fun h => mark_mono _ (h72 (by simpa [mark] using h)), fun h => mark_mono _ (h87 (by simpa [mark] using h))⟩
    case o4 =>
      rintro b' a' w' hb hd ⟨nb, rfl, hk, hr, hc, h72, h87⟩
      simp [Region.binds] at hd
      obtain ⟨f1, _⟩ := (hpb.keep hk (by omega)).one
      simp only [sIs_nil, sIs_cons, sI_lit, lset_zero, lset_succ]
      gi_wp2
      exact ⟨nb, by simp [sIs_nil, sIs_cons, sI_lit, lset_zero, lset_succ, mark, hd], hk, hr, fun h => hc (by simpa [mark] using h), fun h => mark_mono _ (h72 (by simpa [mark] using h)), fun h => mark_mono _ (h87 (by simpa [mark] using h))⟩
    case o5 =>
      rintro b' a' w' hb hd ⟨nb, rfl, hk, hr, hc, h72, h87⟩
      simp [Region.binds] at hd
      simp only [sIs_nil, sIs_cons, sI_lit, lset_zero, lset_succ]
      gi_wp2
      exact ⟨nb, by simp [sIs_nil, sIs_cons, sI_lit, lset_zero, lset_succ, mark, hd], hk, hr, fun h => hc (by simpa [mark] using h), fun h => mark_mono _ (h72 (by simpa [mark] using h)), fun h => mark_mono _ (h87 (by simpa [mark] using h))⟩
    case o6 =>
      rintro b' a' w' hb hd ⟨nb, rfl, hk, hr, hc, h72, h87⟩
      simp [Region.binds] at hd
      simp only [sIs_nil, sIs_cons, sI_lit, lset_zero, lset_succ]
      gi_wp2
      exact ⟨nb, by simp [sIs_nil, sIs_cons, sI_lit, lset_zero, lset_succ, mark, hd]; exact hq2.out, hk, hr, fun h => hc (by simpa [mark] using h), fun h => mark_mono _ (h72 (by simpa [mark] using h)), fun h => mark_mono _ (h87 (by simpa [mark] using h))⟩
    case o7 =>
      rintro b' a' w' hb hd ⟨nb, rfl, hk, hr, hc, h72, h87⟩
      simp [Region.binds] at hd
      simp only [sIs_nil, sIs_cons, sI_lit, lset_zero, lset_succ]
      gi_wp2
      exact ⟨nb, by simp [sIs_nil, sIs_cons, sI_lit, lset_zero, lset_succ, mark, hd], hk, hr, fun h => hc (by simpa [mark] using h), fun _ => mark_mono _ hd.1, fun h => mark_mono _ (h87 (by simpa [mark] using h))⟩
    case o8 =>
      rintro b' a' w' hb hd ⟨nb, rfl, hk, hr, hc, h72, h87⟩
      simp [Region.binds] at hd
      obtain ⟨f0, f1⟩ := hc (h72 hd)
      have f2 : w'.cell? ⟨nb, q, none⟩ = some (.int .i64 y) := by rw [f1.cell, ints_get, hyc.out]; rfl
      simp only [sIs_nil, sIs_cons, sI_lit, lset_zero, lset_succ]
      gi_wp2
      exact ⟨nb, by simp [sIs_nil, sIs_cons, sI_lit, lset_zero, lset_succ, mark, hd], hk, hr, fun h => hc (by simpa [mark] using h), fun h => mark_mono _ (h72 (by simpa [mark] using h)), fun _ => mark_mono _ hd⟩
    case o9 =>
      rintro b' a' w' hb hd ⟨nb, rfl, hk, hr, hc, h72, h87⟩
      simp [Region.binds] at hd
      obtain ⟨f1, f2⟩ := hr.one
      simp only [sIs_nil, sIs_cons, sI_lit, lset_zero, lset_succ]
      gi_wp2
      have hkw : Keeps (fun b => b ≠ w.heap.size + 1) w' (w'.setCell ⟨w.heap.size + 1, 0, none⟩ (.int .i64 (post ss).length)) := (Keeps.refl _ _).setCell (fun _ hn => hn rfl) _
      have hlt := hI.rbox.lt
      exact ⟨nb, by simp [sIs_nil, sIs_cons, sI_lit, lset_zero, lset_succ, mark, hd], hk.trans hkw, hr.set 0 _, fun h => by
        obtain ⟨g1, g2⟩ := hc (by simpa [mark] using h)
        exact ⟨g1, g2.keep hkw (by omega)⟩, fun h => mark_mono _ (h72 (by simpa [mark] using h)), fun h => mark_mono _ (h87 (by simpa [mark] using h))⟩
    case o10 =>
      rintro b' a' w' hb hd ⟨nb, rfl, hk, hr, hc, h72, h87⟩
      simp [Region.binds] at hd
      simp only [sIs_nil, sIs_cons, sI_lit, lset_zero, lset_succ]
      gi_wp2
      exact ⟨nb, by simp [sIs_nil, sIs_cons, sI_lit, lset_zero, lset_succ, mark, hd], hk, hr, fun h => hc (by simpa [mark] using h), fun h => mark_mono _ (h72 (by simpa [mark] using h)), fun h => mark_mono _ (h87 (by simpa [mark] using h))⟩
    case o11 =>
      rintro b' a' w' hb hd ⟨nb, rfl, hk, hr, hc, h72, h87⟩
      simp only [sIs_nil, sIs_cons, sI_lit, lset_zero, lset_succ]
      gi_wp2
      exact ⟨nb, by simp [sIs_nil, sIs_cons, sI_lit, lset_zero, lset_succ, mark], hk, hr, fun h => hc (by simpa [mark] using h), fun h => mark_mono _ (h72 (by simpa [mark] using h)), fun h => mark_mono _ (h87 (by simpa [mark] using h))⟩
    case fin =>
      rintro b' a' w' hb ⟨nb, rfl, hk, hr, hc, h72, h87⟩
      have e0 := hb 0 (by decide)
      have e1 := hb 1 (by decide)
      have e2 := hb 2 (by decide)
      have e3 := hb 3 (by decide)
      have e4 := hb 4 (by decide)
      have e5 := hb 5 (by decide)
      have e6 := hb 6 (by decide)
      have e7 := hb 7 (by decide)
      have e8 := hb 8 (by decide)
      have e10 := hb 10 (by decide)
      have e11 := hb 11 (by decide)
      clear hb
      simp only [sIs_nil, sIs_cons, sI_lit, lset_zero, lset_succ, e0, e1, e2, e3, e4, e5, e6, e7, e8, e10, e11, cond_true]
      obtain ⟨f1, _⟩ := hr.one
      have hlt := hI.rbox.lt
      have hdef' : w'.heap[w1.heap.size + 1]? = some (.deferred (some [])) := (hk.block _ (Array.getElem?_eq_some_iff.1 hdef).1 (by omega)).trans hdef
      have hcell : (w'.putObj (w1.heap.size + 1) (.deferred none)).cell? ⟨w.heap.size + 1, 0, none⟩ = some (.int .i64 (post ss).length) :=
        (hr.keep (S := fun k => k ≠ w1.heap.size + 1) (keeps_put (Keeps.refl _ _) (fun hn => hn rfl) _) (by omega)).cell 0
      gi_wp2
      refine ⟨by simp, .inl ⟨_, _, rfl, run_takeDeferred hdef', ?_⟩⟩
      refine ⟨.tuple #[.int .i64 (post ss).length, .int .i64 y, .int .i64 0], ?_, ?_, ?_⟩
      · simp [results, Tryd.results10, go_sem, hcell]
      · rw [Hy.out, Hq.out]
      · exact (hI.keep.upto hk fun k hk => by omega).upto (keeps_put (Keeps.refl (fun k => k ≠ w1.heap.size + 1) _) (fun hn => hn rfl) _) fun k hk => by omega

end Go.Proofs.YtcbmljfgmeeadaaDoor
