/-
  CONTRACT: share.
-/
import Derived.Test.YtcbmljfgmeeadaaDoorShr
import Derived.Test.YtcbmljfgmeeadaaDoorG5
import Derived.Test.YtcbmljfgmeeadaaDoorReg
import Derived.Carry
namespace Go.Proofs.YtcbmljfgmeeadaaDoor
open Go.RowKit Go.Shelf

attribute [local go_sem] Oper.semAt_some

/-- What share keeps from round to round. -/
structure HInv (ss : List Stp) (w : World) (ps : Value) (pre : List Nat) (W : World) : Prop where
  keep : Keeps All w W
  size : w.heap.size + 8 ≤ W.heap.size
  pbox : IsRow W w.heap.size 24 [ps]
  rbox : IsRow W (w.heap.size + 1) 24 [.slice none 0 0]
  xbox : IsRow W (w.heap.size + 4) 72 [.pointer (some ⟨w.heap.size + 3, 0, none⟩)]
  nbox : IsRow W (w.heap.size + 6) 43 [.slice (some ⟨w.heap.size + 5, 0, none⟩) ss.length ss.length]
  now : IsRow W (w.heap.size + 5) 3 (ints (shareTo ss pre).2)
  sh : ∃ v, Sharer (w.heap.size + 14) (w.heap.size + 3) (w.heap.size + 2) W v (shareTo ss pre).1

theorem Sharer.keep {lo X M : Nat} {A B : World} {v : Value} {ss : List Stp} (h : Sharer lo X M A v ss) {S : Nat → Prop} (hk : Keeps S A B) (hX : S X) (hM : S M) (hS : ∀ k, lo ≤ k → S k) : Sharer lo X M B v ss :=
  ⟨h.1.keep hk hX, h.2.1.keep hk hM, h.2.2.keep hk hS⟩

theorem HInv.move {ss : List Stp} {w : World} {ps : Value} {pre : List Nat} {A B : World} (h : HInv ss w ps pre A) {S : Nat → Prop} (hk : Keeps S A B)
    (hS : ∀ k, k < w.heap.size + 8 ∨ w.heap.size + 14 ≤ k → S k) : HInv ss w ps pre B := by
  obtain ⟨v, h1⟩ := h.sh
  have := h.size
  exact ⟨h.keep.upto hk fun k hlt => hS _ (by omega), by have := hk.size; omega, h.pbox.keep hk (hS _ (by omega)), h.rbox.keep hk (hS _ (by omega)), h.xbox.keep hk (hS _ (by omega)), h.nbox.keep hk (hS _ (by omega)), h.now.keep hk (hS _ (by omega)),
    ⟨v, h1.keep hk (hS _ (by omega)) (hS _ (by omega)) fun k h => hS _ (by omega)⟩⟩

/-- A round's region: what memory holds, by what has come up: renumbered (9), add (10), the store (12). -/
structure ShInv (lo X M nw nb x : Nat) (oldv newv : Value) (olds : List Stp) (s : Stp) (L : List Int) (W0 : World) (c : Nat → Bool) (w : World) : Prop where
  ord : c 10 = true → c 9 = true
  ord12 : c 12 = true → c 10 = true
  keep : Keeps (fun k => k ≠ X ∧ k ≠ M ∧ k ≠ nw ∧ oldv.ownBlock ≠ some k) W0 w
  call : c 9 = true → W0.heap.size ≤ nb ∧ IsRow w nb 3 (ints s.args)
  sh0 : c 10 = false → Sharer lo X M w oldv olds
  sh1 : c 10 = true → Sharer lo X M w newv (addM olds s)
  row0 : c 12 = false → IsRow w nw 3 (ints L)
  row1 : c 12 = true → IsRow w nw 3 (ints (L.set x (addAt olds s)))

theorem ShInv.same {lo X M nw nb x : Nat} {oldv newv : Value} {olds : List Stp} {s : Stp} {L : List Int} {W0 : World} {c c' : Nat → Bool} {w : World} (h : ShInv lo X M nw nb x oldv newv olds s L W0 c w)
    (h9 : c' 9 = c 9) (h10 : c' 10 = c 10) (h12 : c' 12 = c 12) : ShInv lo X M nw nb x oldv newv olds s L W0 c' w := by
  obtain ⟨a0, a1, a2, a3, a4, a5, a6, a7⟩ := h
  exact ⟨by rw [h10, h9]; exact a0, by rw [h12, h10]; exact a1, a2, by rw [h9]; exact a3, by rw [h10]; exact a4, by rw [h10]; exact a5, by rw [h12]; exact a6, by rw [h12]; exact a7⟩

def ShReg (lo n0 x m : Nat) (lab : ByteArray) (ps nows va oldv : Value) (xa : Addr) (olds : List Stp) (s : Stp) (L : List Int) (T : Array Value) (W0 : World) (c : Nat → Bool) (a' : Act) (w' : World) : Prop :=
  ∃ (nb : Nat) (newv : Value), a' = Act.mk (sIs T [(c 0, 16, nows), (c 1, 17, .int .i64 x), (c 2, 18, .pointer (some ⟨n0 + 3, 0, none⟩)), (c 3, 19, .pointer (some ⟨n0, 0, none⟩)), (c 4, 20, ps), (c 5, 21, .int .i64 x), (c 6, 22, .pointer (some xa)),
      (c 7, 23, .agg #[.string lab, va]), (c 8, 24, nows), (c 9, 25, .agg #[.string lab, .slice (some ⟨nb, 0, none⟩) m m]), (c 10, 26, .int .i64 (addAt olds s)), (c 11, 27, .pointer (some ⟨n0 + 5, x, none⟩))]) [] ∧
    ShInv lo (n0 + 3) (n0 + 2) (n0 + 5) nb x oldv newv olds s L W0 c w'

set_option maxHeartbeats 1000000 in
theorem share_c (ss : List Stp) (v : Value) (w : World) (hv : IsProof All w v ss) (hok : Okay ss) (htab : Tab w) :
    Calls Tryd.prog 32 #[v] w fun e w' => ∃ vr, e = .returned vr ∧ IsProof (fun k => w.heap.size ≤ k) w' vr (shareM ss) ∧ Keeps All w w' := by
  obtain ⟨u, rfl, hs⟩ := hv
  have hs' := hs
  obtain ⟨a, cap, rfl, hl, h⟩ := hs
  rcases h with ⟨rfl, _⟩ | ⟨b, off, rfl, hB, _, hc⟩
  · exact absurd hok.1 (by simp)
  have hlen : ss.length ≤ 2000 := hok.2.1
  have hmk := make_ints ss.length hlen
  have hmm := @run_makeMap Tryd.prog
  have Hc := hid hc
  have Ht := hid htab
  clear hc htab
  refine (callsIn_wide (n := 5)).1 ?_
  refine callsIn_of_wp_marks Tryd.func32 rfl trivial ?_ rfl
  simp only [Tryd.ntmps32, List.size_toArray, List.length_cons, List.length_nil, Nat.reduceAdd, Nat.reduceSub, Array.replicate_succ, Array.replicate_zero, List.push_toArray, List.append_toArray, List.nil_append, List.cons_append]
  have l0 : w.heap.size < w.heap.size + 1 := by omega
  have l1 : w.heap.size < w.heap.size + 1 + 1 := by omega
  have l2 : w.heap.size < w.heap.size + 1 + 1 + 1 := by omega
  have l3 : w.heap.size < w.heap.size + 1 + 1 + 1 + 1 := by omega
  have l4 : w.heap.size < w.heap.size + 1 + 1 + 1 + 1 + 1 := by omega
  have l5 : w.heap.size < w.heap.size + 1 + 1 + 1 + 1 + 1 + 1 := by omega
  gi_wp2
  refine ⟨trivial, ?_⟩
  refine (callsIn_wide.2 (postorder_c _ _)).mono ?_
  rintro e w2 ⟨rfl, rfl⟩
  gi_wp2
  refine wpIn_rangeFunc_f (fun T v => (T.setIfInBounds 15 v).setIfInBounds 5 v) (gf := 55) (lb := #[.pointer (some ⟨w.heap.size + 7, 0, none⟩)]) rfl eg_postorder1
    (postorder1_seq ss hok (w.heap.size + 7) (fun k => k < w.heap.size ∨ k = w.heap.size + 7) (Or.inr rfl) _ ?hP ?hd) rfl
    (HInv ss w (.slice (some ⟨b, off, none⟩) ss.length cap)) ?hI ?h0 ?assign ?body ?hProt ?done
  case hP => intro k hk; simp; omega
  case hProt => intro k hk; simp; omega
  case hd =>
    refine ⟨.slice (some ⟨b, off, none⟩) ss.length cap, ?_, ?_⟩
    · exact (show IsRow _ (w.heap.size + 7) 24 [_] from IsRow.newAt (by simp)).cell 0
    · refine (hs'.move (S' := fun k => k < w.heap.size ∨ k = w.heap.size + 7) ?_ fun k hk _ => ⟨(trivial : All k), Or.inl hk⟩)
      repeat (first | exact Keeps.refl _ _ | refine Keeps.alloc ?_ _ | refine Keeps.setCell ?_ (by simp) _)
  case hI =>
    intro pre A B h hA hk
    refine h.move hk fun k hk => ?_
    simp; omega
  case h0 =>
    refine ⟨by repeat (first | exact Keeps.refl _ _ | refine Keeps.alloc ?_ _), by simp, ?_, ?_, ?_, ?_, ?_, .slice none 0 0, ?_, ?_, OwnSteps.nil _ _⟩
    any_goals (solve | repeat (first | (refine IsRow.newAt ?_; (simp; done)) | refine IsRow.alloc ?_ _))
    refine MapIdx.keep (S := All) (w := (w.alloc (.cells #[.slice (some ⟨b, off, none⟩) ss.length cap] 24)).alloc (.cells #[.slice none 0 0] 24) |>.alloc (.map #[] 0)) ?_ ?_ trivial
    · have h := MapIdx.new ((w.alloc (.cells #[.slice (some ⟨b, off, none⟩) ss.length cap] 24)).alloc (.cells #[.slice none 0 0] 24))
      simpa [shareTo] using h
    · repeat (first | exact Keeps.refl _ _ | refine Keeps.alloc ?_ _)
  case assign =>
    intro m l x W K hK
    gi_wp2
    exact hK
  case body =>
    intro m l pre x W hI hpre hsz
    obtain ⟨hx, hxp, hkids⟩ := hok.round hpre
    obtain ⟨oldv, hSh⟩ := hI.sh
    have hrn := hI.now
    have hpl : pre.length < 2000 := by
      have h1 := hpre.length_le
      have h2 := post_length_le hok
      simp at h1
      omega
    obtain ⟨hb1, hb2, hb3⟩ := shareTo_bounds ss pre
    have hnext : shareTo ss (pre ++ [x]) = shRound ss ((shareTo ss pre).1, (shareTo ss pre).2) x := shareTo_snoc ss pre x
    generalize (shareTo ss pre).1 = olds at hSh hb1 hnext
    generalize (shareTo ss pre).2 = L at hrn hb2 hb3 hnext
    have hstp : shStp ss L x = ⟨ss[x].label, ss[x].args.map (numAt L)⟩ := by simp [shStp, hx]
    obtain ⟨s, hs0⟩ : ∃ s, s = shStp ss L x := ⟨_, rfl⟩
    have Hs := hid hs0
    have Hstp := hid hstp
    have Hnext := hid hnext
    have Hb3 := hid hb3
    have Hk := hid hkids
    have hsl : Hid (ss[x].label = s.label) := by show _ = _; rw [hs0, hstp]
    have hsa : Hid (ss[x].args.map (numAt L) = s.args) := by show _ = _; rw [hs0, hstp]
    have hsn : Hid (ss[x].args.length = s.args.length) := by show _ = _; rw [← hsa.out, List.length_map]
    clear hs0 hstp hnext hb3 hkids
    have hsz' : w.heap.size + 14 ≤ W.heap.size := by simp at hsz; omega
    have hxL : x < L.length := by omega
    have hown : ∀ k, k < w.heap.size + 14 → oldv.ownBlock ≠ some k := fun k hk e => by
      obtain ⟨_, _, _, _, h, _⟩ := hSh
      have := (h.lt k e).1
      omega
    have hownW : ∀ k, oldv.ownBlock = some k → k < W.heap.size := fun k e => by
      obtain ⟨_, _, _, _, h, _⟩ := hSh
      exact (h.lt k e).2
    have hS : ∀ k, k < w.heap.size + 14 → k ≠ w.heap.size + 3 → k ≠ w.heap.size + 2 → k ≠ w.heap.size + 5 → k ≠ w.heap.size + 3 ∧ k ≠ w.heap.size + 2 ∧ k ≠ w.heap.size + 5 ∧ oldv.ownBlock ≠ some k :=
      fun k h1 h2 h3 h4 => ⟨h2, h3, h4, hown k h1⟩
    have hst1 : IsSteps (fun k => k < w.heap.size) W (.slice (some ⟨b, off, none⟩) ss.length cap) ss := hs'.move hI.keep fun k hk _ => ⟨trivial, hk⟩
    obtain ⟨e0, va, e1, hva⟩ : W.cell? ⟨b, off + x * 2, none⟩ = some (.string ss[x].label) ∧ ∃ va, W.cell? ⟨b, off + x * 2 + 1, none⟩ = some va ∧ IsInts (fun k => k < w.heap.size) W va ss[x].args := by
      obtain ⟨_, _, he, _, h⟩ := hst1
      cases he
      rcases h with ⟨h, _⟩ | ⟨b', off', h, _, _, hc⟩
      · exact absurd hx (by rw [h]; simp)
      · cases h
        exact hc x hx
    have hva2 := hva
    obtain ⟨a5, c5, rfl, _, _, h5⟩ := hva
    clear h5
    simp only [List.setIfInBounds_toArray, List.set_cons_succ, List.set_cons_zero]
    gi_wp2
    refine wpIn_region_inv (ShReg (w.heap.size + 14) w.heap.size x ss[x].args.length ss[x].label (.slice (some ⟨b, off, none⟩) ss.length cap) (.slice (some ⟨w.heap.size + 5, 0, none⟩) ss.length ss.length) (.slice a5 ss[x].args.length c5) oldv
      ⟨b, off + x * 2, none⟩ olds s L) mixed (by kernel_rfl) ?start ⟨?o0, ?o1, ?o2, ?o3, ?o4, ?o5, ?o6, ?o7, ?o8, ?o9, ?o10, ?o11, ?o12, trivial⟩ ?fin
    case start =>
      refine ⟨0, .bool false, by simp only [sIs_nil, sIs_cons, sI_false], ⟨?_, ?_, (Keeps.refl _ _).drew, ?_, fun _ => hSh.keep ((Keeps.refl All _).drew) trivial trivial fun _ _ => trivial, ?_, fun _ => hrn, ?_⟩⟩
      all_goals (intro h; cases h)
    case o0 =>
      rintro b' a' w' hb hd ⟨nb, nv, rfl, hR⟩
      have hR' := hR.same (c' := mark b' 0) (mark_other _ (by decide)) (mark_other _ (by decide)) (mark_other _ (by decide))
      have f1 : w'.cell? ⟨w.heap.size + 6, 0, none⟩ = some (.slice (some ⟨w.heap.size + 5, 0, none⟩) ss.length ss.length) := hR.keep.cell (p := ⟨w.heap.size + 6, 0, none⟩) (hS _ (by show w.heap.size + 6 < _; omega) (by show w.heap.size + 6 ≠ _; omega) (by show w.heap.size + 6 ≠ _; omega) (by show w.heap.size + 6 ≠ _; omega)) (hI.nbox.cell 0)
      simp only [sIs_nil, sIs_cons, sI_lit, lset_zero, lset_succ]
      gi_wp2
      refine ⟨nb, nv, ?_, hR'⟩
      simp [sIs_nil, sIs_cons, sI_lit, lset_zero, lset_succ, mark]
    case o1 =>
      rintro b' a' w' hb hd ⟨nb, nv, rfl, hR⟩
      have hR' := hR.same (c' := mark b' 1) (mark_other _ (by decide)) (mark_other _ (by decide)) (mark_other _ (by decide))
      simp only [sIs_nil, sIs_cons, sI_lit, lset_zero, lset_succ]
      gi_wp2
      refine ⟨nb, nv, ?_, hR'⟩
      simp [sIs_nil, sIs_cons, sI_lit, lset_zero, lset_succ, mark]
    case o2 =>
      rintro b' a' w' hb hd ⟨nb, nv, rfl, hR⟩
      have hR' := hR.same (c' := mark b' 2) (mark_other _ (by decide)) (mark_other _ (by decide)) (mark_other _ (by decide))
      have f1 : w'.cell? ⟨w.heap.size + 4, 0, none⟩ = some (.pointer (some ⟨w.heap.size + 3, 0, none⟩)) := hR.keep.cell (p := ⟨w.heap.size + 4, 0, none⟩) (hS _ (by show w.heap.size + 4 < _; omega) (by show w.heap.size + 4 ≠ _; omega) (by show w.heap.size + 4 ≠ _; omega) (by show w.heap.size + 4 ≠ _; omega)) (hI.xbox.cell 0)
      simp only [sIs_nil, sIs_cons, sI_lit, lset_zero, lset_succ]
      gi_wp2
      refine ⟨nb, nv, ?_, hR'⟩
      simp [sIs_nil, sIs_cons, sI_lit, lset_zero, lset_succ, mark]
    case o3 =>
      rintro b' a' w' hb hd ⟨nb, nv, rfl, hR⟩
      have hR' := hR.same (c' := mark b' 3) (mark_other _ (by decide)) (mark_other _ (by decide)) (mark_other _ (by decide))
      simp only [sIs_nil, sIs_cons, sI_lit, lset_zero, lset_succ]
      gi_wp2
      refine ⟨nb, nv, ?_, hR'⟩
      simp [sIs_nil, sIs_cons, sI_lit, lset_zero, lset_succ, mark]
    case o4 =>
      rintro b' a' w' hb hd ⟨nb, nv, rfl, hR⟩
      have hR' := hR.same (c' := mark b' 4) (mark_other _ (by decide)) (mark_other _ (by decide)) (mark_other _ (by decide))
      simp [Region.binds] at hd
      have f1 : w'.cell? ⟨w.heap.size, 0, none⟩ = some (.slice (some ⟨b, off, none⟩) ss.length cap) := hR.keep.cell (p := ⟨w.heap.size, 0, none⟩) (hS _ (by show w.heap.size < _; omega) (by show w.heap.size ≠ _; omega) (by show w.heap.size ≠ _; omega) (by show w.heap.size ≠ _; omega)) (hI.pbox.cell 0)
      simp only [sIs_nil, sIs_cons, sI_lit, lset_zero, lset_succ]
      gi_wp2
      refine ⟨nb, nv, ?_, hR'⟩
      simp [sIs_nil, sIs_cons, sI_lit, lset_zero, lset_succ, mark, hd]
    case o5 =>
      rintro b' a' w' hb hd ⟨nb, nv, rfl, hR⟩
      have hR' := hR.same (c' := mark b' 5) (mark_other _ (by decide)) (mark_other _ (by decide)) (mark_other _ (by decide))
      simp only [sIs_nil, sIs_cons, sI_lit, lset_zero, lset_succ]
      gi_wp2
      refine ⟨nb, nv, ?_, hR'⟩
      simp [sIs_nil, sIs_cons, sI_lit, lset_zero, lset_succ, mark]
    case o6 =>
      rintro b' a' w' hb hd ⟨nb, nv, rfl, hR⟩
      have hR' := hR.same (c' := mark b' 6) (mark_other _ (by decide)) (mark_other _ (by decide)) (mark_other _ (by decide))
      simp [Region.binds] at hd
      simp only [sIs_nil, sIs_cons, sI_lit, lset_zero, lset_succ]
      gi_wp2
      refine ⟨nb, nv, ?_, hR'⟩
      simp [sIs_nil, sIs_cons, sI_lit, lset_zero, lset_succ, mark, hd]
    case o7 =>
      rintro b' a' w' hb hd ⟨nb, nv, rfl, hR⟩
      have hR' := hR.same (c' := mark b' 7) (mark_other _ (by decide)) (mark_other _ (by decide)) (mark_other _ (by decide))
      simp [Region.binds] at hd
      have f0 : w'.cell? ⟨b, off + x * 2, none⟩ = some (.string ss[x].label) := hR.keep.cell (p := ⟨b, off + x * 2, none⟩) (hS _ (by show b < _; omega) (by show b ≠ _; omega) (by show b ≠ _; omega) (by show b ≠ _; omega)) e0
      have f1 : w'.cell? ⟨b, off + x * 2 + 1, none⟩ = some (.slice a5 ss[x].args.length c5) := hR.keep.cell (p := ⟨b, off + x * 2 + 1, none⟩) (hS _ (by show b < _; omega) (by show b ≠ _; omega) (by show b ≠ _; omega) (by show b ≠ _; omega)) e1
      simp only [sIs_nil, sIs_cons, sI_lit, lset_zero, lset_succ]
      gi_wp2
      refine ⟨nb, nv, ?_, hR'⟩
      simp [sIs_nil, sIs_cons, sI_lit, lset_zero, lset_succ, mark, hd]
    case o8 =>
      rintro b' a' w' hb hd ⟨nb, nv, rfl, hR⟩
      have hR' := hR.same (c' := mark b' 8) (mark_other _ (by decide)) (mark_other _ (by decide)) (mark_other _ (by decide))
      have f1 : w'.cell? ⟨w.heap.size + 6, 0, none⟩ = some (.slice (some ⟨w.heap.size + 5, 0, none⟩) ss.length ss.length) := hR.keep.cell (p := ⟨w.heap.size + 6, 0, none⟩) (hS _ (by show w.heap.size + 6 < _; omega) (by show w.heap.size + 6 ≠ _; omega) (by show w.heap.size + 6 ≠ _; omega) (by show w.heap.size + 6 ≠ _; omega)) (hI.nbox.cell 0)
      simp only [sIs_nil, sIs_cons, sI_lit, lset_zero, lset_succ]
      gi_wp2
      refine ⟨nb, nv, ?_, hR'⟩
      simp [sIs_nil, sIs_cons, sI_lit, lset_zero, lset_succ, mark]
    case o11 =>
      rintro b' a' w' hb hd ⟨nb, nv, rfl, hR⟩
      have hR' := hR.same (c' := mark b' 11) (mark_other _ (by decide)) (mark_other _ (by decide)) (mark_other _ (by decide))
      simp [Region.binds] at hd
      simp only [sIs_nil, sIs_cons, sI_lit, lset_zero, lset_succ]
      gi_wp2
      refine ⟨nb, nv, ?_, hR'⟩
      simp [sIs_nil, sIs_cons, sI_lit, lset_zero, lset_succ, mark, hd]
    case o9 =>
      rintro b' a' w' hb hd ⟨nb, nv, rfl, hR⟩
      simp [Region.binds] at hd
      have h10 : b' 10 = false := by
        cases h : b' 10 with
        | false => rfl
        | true => rw [hR.ord h] at hb; cases hb
      have h12 : b' 12 = false := by
        cases h : b' 12 with
        | false => rfl
        | true => rw [hR.ord12 h] at h10; cases h10
      have hcall := renumbered_c ss[x] L (.agg #[.string ss[x].label, .slice a5 ss[x].args.length c5]) (.slice (some ⟨w.heap.size + 5, 0, none⟩) ss.length ss.length) w'
        ⟨_, rfl, ?hv⟩ ?hn ((hok.2.2 x hx).1) ?ha
      case hv =>
        exact (hva2.keep hR.keep fun k _ hk => hS k (by omega) (by omega) (by omega) (by omega)).sub fun _ _ _ => trivial
      case hn =>
        have h := (hR.row0 h12).isInts All trivial (by omega) (fun y hy => by have := Hb3.out y hy; omega) ss.length
        rw [hb2] at h
        exact h
      case ha =>
        intro y hy
        have h := (hok.2.2 x hx).2 y hy
        omega
      have HR := hid hR
      clear hR
      simp only [sIs_nil, sIs_cons, sI_lit, lset_zero, lset_succ]
      gi_wp2
      refine ⟨trivial, fun h => by simp [Fence.wide] at h, ?_⟩
      refine (CallsIn.inRound l (callsIn_wide.2 hcall)).mono ?_
      clear hcall
      rintro e w3 ⟨nb', rfl, hnb, hrow, hk3⟩
      gi_wp2
      refine ⟨nb', nv, by simp [sIs_nil, sIs_cons, sI_lit, lset_zero, lset_succ, mark, hd, h10], ?_⟩
      have hR := HR.out
      refine ⟨?_, ?_, hR.keep.trans (hk3.sub fun _ _ _ => trivial), fun _ => ⟨Nat.le_trans hR.keep.size hnb, ?_⟩, fun _ => (hR.sh0 h10).keep hk3 trivial trivial fun _ _ => trivial, ?_, fun _ => (hR.row0 h12).keep hk3 trivial, ?_⟩
      · simp [mark, h10]
      · simp [mark, h12]
      · rw [← hsa.out]; exact hrow
      · simp [mark, h10]
      · simp [mark, h12]
    case o10 =>
      rintro b' a' w' hb hd ⟨nb, nv, rfl, hR⟩
      have hd2 : b' 2 = true := hd { on := 2, ground := Ground.data } (by simp) rfl
      have hd9 : b' 9 = true := hd { on := 9, ground := Ground.data } (by simp) rfl
      have h12 : b' 12 = false := by
        cases h : b' 12 with
        | false => rfl
        | true => rw [hR.ord12 h] at hb; cases hb
      obtain ⟨hnb, hrow⟩ := hR.call hd9
      have hks := hR.keep.size
      have hcall := add_c (w.heap.size + 14) (w.heap.size + 3) (w.heap.size + 2) oldv olds s (.slice (some ⟨nb, 0, none⟩) ss[x].args.length ss[x].args.length) w' (hR.sh0 hb) (by omega) (by omega) (by omega) (by omega) (by omega) ?ha
        (by rw [← hsn.out]; exact (hok.2.2 x hx).1) ?ht
      case ha =>
        rw [hsn.out]
        refine hrow.isInts _ ⟨by omega, fun e => absurd (hownW _ e) (by omega)⟩ (by rw [← hsn.out]; have := (hok.2.2 x hx).1; omega) ?_ _
        intro y hy
        rw [← hsa.out] at hy
        obtain ⟨q, _, rfl⟩ := List.mem_map.1 hy
        unfold numAt
        rw [List.getD_eq_getElem?_getD]
        cases hq : L[q.toNat]? with
        | none => simp
        | some z => have := Hb3.out z (List.mem_of_getElem? hq); simp; omega
      case ht => exact Ht.out.keep (hI.keep.upto hR.keep fun k hk => hS k (by omega) (by omega) (by omega) (by omega))
      have HR := hid hR
      clear hR
      rw [← hsl.out] at hcall
      simp only [sIs_nil, sIs_cons, sI_lit, lset_zero, lset_succ, hd2, hd9, cond_true]
      gi_wp2
      refine ⟨trivial, fun h => by simp [Fence.wide] at h, ?_⟩
      refine (CallsIn.inRound l (callsIn_wide.2 hcall)).mono ?_
      clear hcall
      rintro e w3 ⟨rfl, v', hsh3, hk3⟩
      gi_wp2
      refine ⟨nb, v', by simp [sIs_nil, sIs_cons, sI_lit, lset_zero, lset_succ, mark, hd2, hd9], ?_⟩
      have hR := HR.out
      refine ⟨?_, ?_, hR.keep.trans (hk3.sub fun k _ h => ⟨h.1, h.2.1, h.2.2.2⟩), fun _ => ⟨hnb, hrow.keep hk3 ⟨by omega, by omega, fun e => absurd (hownW _ e) (by omega)⟩⟩, ?_, fun _ => hsh3, fun _ => (hR.row0 h12).keep hk3 ⟨by omega, by omega, hown _ (by omega)⟩, ?_⟩
      · simp [mark, hd9]
      · simp [mark, h12]
      · simp [mark]
      · simp [mark, h12]
    case o12 =>
      rintro b' a' w' hb hd ⟨nb, nv, rfl, hR⟩
      have hd10 : b' 10 = true := hd { on := 10, ground := Ground.data } (by simp) rfl
      have hd11 : b' 11 = true := hd { on := 11, ground := Ground.data } (by simp) rfl
      have hr0 := hR.row0 hb
      have f1 : w'.cell? ⟨w.heap.size + 5, x, none⟩ = some (.int .i64 L[x]) := hr0.ints_cell hxL
      have f2 := hr0.frozen x
      have HR := hid hR
      have Hr0 := hid hr0
      clear hR hd hr0
      generalize L[x] = y0 at f1
      simp only [sIs_nil, sIs_cons, sI_lit, lset_zero, lset_succ, hd10, hd11, cond_true]
      gi_wp2
      refine ⟨nb, nv, ?_, ?_⟩
      · simp [sIs_nil, sIs_cons, sI_lit, lset_zero, lset_succ, mark, hd10, hd11]
      have hR := HR.out
      have hd9 := hR.ord hd10
      obtain ⟨q1, q2⟩ := hR.call hd9
      have hkw : Keeps (fun k => k ≠ w.heap.size + 5) w' (w'.setCell ⟨w.heap.size + 5, x, none⟩ (.int .i64 (addAt olds s))) := (Keeps.refl _ _).setCell (fun _ hn => hn rfl) _
      refine ⟨fun _ => mark_mono _ hd9, fun _ => mark_mono _ hd10, hR.keep.trans (hkw.sub fun k _ h => h.2.2.1), fun _ => ⟨q1, q2.keep hkw (by omega)⟩, ?_, fun _ => (hR.sh1 hd10).keep hkw (by omega) (by omega) (fun k hk => by omega), ?_, fun _ => ?_⟩
      · simp [mark, hd10]
      · simp [mark]
      · rw [← ints_set]; exact Hr0.out.set _ _
    case fin =>
      rintro b' a' w' hb ⟨nb, nv, rfl, hR⟩
      have hfst : (shareTo ss (pre ++ [x])).1 = addM olds s := by rw [Hnext.out, Hs.out]; rfl
      have hsnd : (shareTo ss (pre ++ [x])).2 = L.set x (addAt olds s) := by rw [Hnext.out, Hs.out]; rfl
      refine ⟨⟨hI.keep.upto hR.keep fun k hk => hS k (by omega) (by omega) (by omega) (by omega), by have := hR.keep.size; omega, hI.pbox.keep hR.keep (hS _ (by omega) (by omega) (by omega) (by omega)), hI.rbox.keep hR.keep (hS _ (by omega) (by omega) (by omega) (by omega)),
        hI.xbox.keep hR.keep (hS _ (by omega) (by omega) (by omega) (by omega)), hI.nbox.keep hR.keep (hS _ (by omega) (by omega) (by omega) (by omega)), ?_, nv, ?_⟩, ?_⟩
      · rw [hsnd]; exact hR.row1 (hb 12 (by decide))
      · rw [hfst]; exact hR.sh1 (hb 10 (by decide))
      · refine hR.keep.sub fun k _ hk => ?_
        simp at hk; exact hS k (by omega) (by omega) (by omega) (by omega)
  case done =>
    intro D W hD hI hdef
    obtain ⟨v, hsh⟩ := hI.sh
    obtain ⟨d0, d0', _⟩ := hsh.1.two
    obtain ⟨d1, d2⟩ := hI.rbox.one
    obtain ⟨d3, d4⟩ := hI.xbox.one
    have hv : ∃ a n c, v = .slice a n c := by
      obtain ⟨_, _, vs, _, h, _⟩ := hsh
      rcases h.2 with ⟨rfl, _⟩ | ⟨g, cap, cur, rfl, _⟩
      · exact ⟨_, _, _, rfl⟩
      · exact ⟨_, _, _, rfl⟩
    obtain ⟨a3, n3, c3, rfl⟩ := hv
    have hlt := hI.xbox.lt
    gi_wp2
    have hne : D ≠ w.heap.size + 1 := by simp at hD; omega
    have hdef' : (W.setCell ⟨w.heap.size + 1, 0, none⟩ (.slice a3 n3 c3)).heap[D]? = some (.deferred (some [])) := by
      rw [Below.heap_setCell _ _ _ _ hne]; exact hdef
    have hkp : Keeps (fun k => k ≠ D ∧ k ≠ w.heap.size + 1) W ((W.setCell ⟨w.heap.size + 1, 0, none⟩ (.slice a3 n3 c3)).putObj D (.deferred none)) :=
      keeps_put ((Keeps.refl _ _).setCell (fun _ (hn : w.heap.size + 1 ≠ D ∧ w.heap.size + 1 ≠ w.heap.size + 1) => hn.2 rfl) _) (fun hn => hn.1 rfl) _
    have hcell : ((W.setCell ⟨w.heap.size + 1, 0, none⟩ (.slice a3 n3 c3)).putObj D (.deferred none)).cell? ⟨w.heap.size + 1, 0, none⟩ = some (.slice a3 n3 c3) :=
      ((hI.rbox.set 0 (.slice a3 n3 c3)).keep (S := fun k => k ≠ D) (keeps_put (Keeps.refl _ _) (fun hn => hn rfl) _) (fun e => hne e.symm)).cell 0
    refine ⟨by simp, .inl ⟨_, _, rfl, run_takeDeferred hdef', ?_⟩⟩
    refine ⟨.agg #[.slice a3 n3 c3], ?_, _, rfl, ?_, ?_⟩
    · simp [results, Tryd.results32, go_sem, hcell]
    · obtain ⟨hb1, _⟩ := shareTo_bounds ss (post ss)
      have hst := (hsh.2.2.isSteps (by have := post_length_le hok; omega))
      exact ⟨_, rfl, hst.move hkp fun k hlt hk => ⟨⟨by simp at hD; omega, by omega⟩, by omega⟩⟩
    · exact hI.keep.upto hkp fun k hlt => ⟨by simp at hD; omega, by omega⟩

end Go.Proofs.YtcbmljfgmeeadaaDoor
