/-
  CONTRACT: Ordered.
-/
import Derived.Test.YtcbmljfgmeeadaaDoorG2
import Derived.Test.YtcbmljfgmeeadaaDoorG3
import Derived.Test.YtcbmljfgmeeadaaDoorG5
import Derived.Test.YtcbmljfgmeeadaaDoorOwn
import Derived.Test.YtcbmljfgmeeadaaDoorReg
namespace Go.Proofs.YtcbmljfgmeeadaaDoor
open Go.RowKit Go.Shelf

attribute [local go_sem] Oper.semAt_some

/-- What Ordered keeps from round to round: the blocks base (out), base + 1 (now), base + 2 (the box of now). -/
structure OInv (ss : List Stp) (w : World) (base : Nat) (ps : Value) (pre : List Nat) (W : World) : Prop where
  keep : Keeps All w W
  size : base + 4 ≤ W.heap.size
  pbox : IsRow W w.heap.size 24 [ps]
  rbox : IsRow W (w.heap.size + 1) 24 [.slice none 0 0]
  nbox : IsRow W (base + 2) 43 [.slice (some ⟨base + 1, 0, none⟩) ss.length ss.length]
  out : ∃ v, IsRow W base 24 [v] ∧ OwnSteps (base + 10) W v (pre.map (ordStep ss (post ss)))
  now : ∃ L : List Int, IsRow W (base + 1) 3 (ints L) ∧ L.length = ss.length ∧ (∀ x ∈ pre, L[x]? = some (((post ss).idxOf x : Nat) : Int)) ∧ ∀ x ∈ L, 0 ≤ x ∧ x ≤ 2000

theorem OInv.move {ss : List Stp} {w : World} {base : Nat} {ps : Value} {pre : List Nat} {A B : World} (h : OInv ss w base ps pre A) (hb : w.heap.size + 2 ≤ base) {S : Nat → Prop} (hk : Keeps S A B)
    (hS : ∀ k, k < base + 4 ∨ base + 10 ≤ k → S k) : OInv ss w base ps pre B := by
  obtain ⟨v, h1, h2⟩ := h.out
  obtain ⟨L, h3, h4⟩ := h.now
  have := h.size
  have hw := h.keep.size
  exact ⟨h.keep.upto hk fun k hlt => hS _ (by omega), by have := hk.size; omega, h.pbox.keep hk (hS _ (by omega)), h.rbox.keep hk (hS _ (by omega)), h.nbox.keep hk (hS _ (by omega)), ⟨v, h1.keep hk (hS _ (by omega)), h2.keep hk fun k h => hS _ (by omega)⟩, ⟨L, h3.keep hk (hS _ (by omega)), h4⟩⟩

/-- The append of a round: what memory holds, by what has come up: the call (8), the new element's place (9), append (10), the store (12). -/
structure AppInv (base nb tb : Nat) (oldv newv : Value) (olds : List Stp) (s : Stp) (W0 : World) (c : Nat → Bool) (w : World) : Prop where
  ord1 : c 10 = true → c 1 = true
  ord9 : c 9 = true → c 8 = true
  ord10 : c 10 = true → c 9 = true
  ord12 : c 12 = true → c 10 = true
  keep : Keeps (fun k => k ≠ base ∧ oldv.ownBlock ≠ some k) W0 w
  early : c 10 = false → Keeps All W0 w
  call : c 8 = true → W0.heap.size ≤ nb ∧ IsRow w nb 3 (ints s.args)
  tmp : c 9 = true → c 10 = false → IsRow w tb 45 [.string s.label, .slice (some ⟨nb, 0, none⟩) s.args.length s.args.length]
  box : c 12 = false → IsRow w base 24 [oldv]
  out : c 10 = true → OwnSteps (base + 10) w newv (olds ++ [s])
  done : c 12 = true → IsRow w base 24 [newv]

theorem AppInv.same {base nb tb : Nat} {oldv newv : Value} {olds : List Stp} {s : Stp} {W0 : World} {c c' : Nat → Bool} {w : World} (h : AppInv base nb tb oldv newv olds s W0 c w)
    (h1 : c 1 = true → c' 1 = true) (h8 : c' 8 = c 8) (h9 : c' 9 = c 9) (h10 : c' 10 = c 10) (h12 : c' 12 = c 12) : AppInv base nb tb oldv newv olds s W0 c' w := by
  obtain ⟨a0, a1, a2, a3, a4, a5, a6, a7, a8, a9, a10⟩ := h
  exact ⟨by rw [h10]; exact fun h => h1 (a0 h), by rw [h9, h8]; exact a1, by rw [h10, h9]; exact a2, by rw [h12, h10]; exact a3, a4, by rw [h10]; exact a5, by rw [h8]; exact a6, by rw [h9, h10]; exact a7, by rw [h12]; exact a8, by rw [h10]; exact a9, by rw [h12]; exact a10⟩

/-- The frame of that region. -/
def AppReg (lab : ByteArray) (base n0 x k m : Nat) (ps nows : Value) (xa : Addr) (va : Value) (a3 : Option Addr) (c3 : Nat) (olds : List Stp) (s : Stp) (T : Array Value) (W0 : World) (c : Nat → Bool) (a' : Act) (w' : World) : Prop :=
  ∃ (nb tb : Nat) (a4 : Option Addr) (c4 : Nat), a' = Act.mk (sIs T [(c 0, 28, .pointer (some ⟨base, 0, none⟩)), (c 1, 29, .slice a3 k c3), (c 2, 30, .pointer (some ⟨n0, 0, none⟩)),
      (c 3, 31, ps), (c 4, 32, .int .i64 x), (c 5, 33, .pointer (some xa)), (c 6, 34, .agg #[.string lab, va]),
      (c 7, 35, nows), (c 8, 36, .agg #[.string lab, .slice (some ⟨nb, 0, none⟩) m m]), (c 9, 37, .slice (some ⟨tb, 0, none⟩) 1 1), (c 10, 38, .slice a4 (k + 1) c4),
      (c 11, 39, .pointer (some ⟨base, 0, none⟩))]) [] ∧ AppInv base nb tb (.slice a3 k c3) (.slice a4 (k + 1) c4) olds s W0 c w'

theorem Ordered_bad (ss : List Stp) (v : Value) (w : World) (hv : IsProof All w v ss) (hf : formM ss ≠ 0) :
    Calls Tryd.prog 8 #[v] w fun e w' => e = .returned (.tuple #[.agg #[.slice none 0 0], .int .i64 (formM ss)]) ∧ Keeps All w w' := by
  obtain ⟨u, rfl, hs⟩ := hv
  have hform := form_c ss (.agg #[u]) (((w.alloc (.cells #[u] 24)).alloc (.cells #[.slice none 0 0] 24))) ⟨u, rfl, hs.keep (((Keeps.refl _ _).alloc _).alloc _) fun _ _ h => h⟩
  obtain ⟨a, cap, rfl, hl, h⟩ := hs
  clear h
  generalize formM ss = e0 at hform hf
  have h0 : (e0 == 0) = false := by simpa using hf
  go_enter Tryd.func8, Tryd.ntmps8
  go_wp2_with (go_at_call 29; refine hform.mono ?_; clear hform; rintro e w1 ⟨rfl, hk1⟩; have r1 : IsRow w1 (w.heap.size + 1) 24 [.slice none 0 0] := IsRow.keep (S := All) (IsRow.newAt (by simp)) hk1 trivial; obtain ⟨c1, c2⟩ := r1.one)
  have k2 := (r1.set 0 (.slice none 0 0)).one
  refine bodyPost_ret (v := .tuple #[.agg #[.slice none 0 0], .int .i64 e0]) (by simp [results, Tryd.results8, go_sem, k2]) rfl ⟨rfl, ?_⟩
  exact (((Keeps.refl All w).alloc _).trans (((Keeps.refl _ _).alloc _).trans hk1)).setCell (fun (h : w.heap.size + 1 < _) => absurd h (by omega)) _

set_option maxHeartbeats 1000000 in
theorem Ordered_good (ss : List Stp) (v : Value) (w : World) (hv : IsProof All w v ss) (hok : Okay ss) :
    Calls Tryd.prog 8 #[v] w fun e w' => ∃ vr, e = .returned (.tuple #[vr, .int .i64 0]) ∧ IsProof All w' vr (orderedM ss) ∧ Keeps All w w' := by
  obtain ⟨u, rfl, hs⟩ := hv
  have hs' := hs
  have hform := form_c ss (.agg #[u]) (((w.alloc (.cells #[u] 24)).alloc (.cells #[.slice none 0 0] 24))) ⟨u, rfl, hs.keep (((Keeps.refl _ _).alloc _).alloc _) fun _ _ h => h⟩
  rw [(formM_zero ss).2 hok] at hform
  obtain ⟨a, cap, rfl, hl, h⟩ := hs
  rcases h with ⟨rfl, _⟩ | ⟨b, off, rfl, hB, _, hc⟩
  · exact absurd hok.1 (by simp)
  have hlen : ss.length ≤ 2000 := hok.2.1
  have hmk := make_ints ss.length hlen
  have Hc := hid hc
  clear hc
  refine (callsIn_wide (n := 5)).1 ?_
  refine callsIn_of_wp_marks Tryd.func8 rfl trivial ?_ rfl
  simp only [Tryd.ntmps8, List.size_toArray, List.length_cons, List.length_nil, Nat.reduceAdd, Nat.reduceSub, Array.replicate_succ, Array.replicate_zero, List.push_toArray, List.append_toArray, List.nil_append, List.cons_append]
  gi_wp2
  refine ⟨trivial, ?_⟩
  refine (callsIn_wide.2 hform).mono ?_
  clear hform
  rintro e w1 ⟨rfl, hk1⟩
  have hk0 : Keeps All w w1 := (((Keeps.refl _ _).alloc _).alloc _).trans hk1
  have r0 : IsRow w1 w.heap.size 24 [.slice (some ⟨b, off, none⟩) ss.length cap] := IsRow.keep (S := All) (by repeat (first | (refine IsRow.newAt ?_; (simp; done)) | refine IsRow.alloc ?_ _)) hk1 trivial
  have r1 : IsRow w1 (w.heap.size + 1) 24 [.slice none 0 0] := IsRow.keep (S := All) (by repeat (first | (refine IsRow.newAt ?_; (simp; done)) | refine IsRow.alloc ?_ _)) hk1 trivial
  have hs1 := hk1.size
  simp at hs1
  obtain ⟨c0, _⟩ := r0.one
  have l0 : w.heap.size < w1.heap.size := by omega
  have l1 : w.heap.size < w1.heap.size + 1 := by omega
  have l2 : w.heap.size < w1.heap.size + 1 + 1 := by omega
  have l3 : w.heap.size < w1.heap.size + 1 + 1 + 1 := by omega
  gi_wp2
  refine ⟨trivial, ?_⟩
  refine (callsIn_wide.2 (postorder_c _ _)).mono ?_
  rintro e w2 ⟨rfl, rfl⟩
  gi_wp2
  refine wpIn_rangeFunc_f (fun T v => (T.setIfInBounds 21 v).setIfInBounds 7 v) (gf := 55) (lb := #[.pointer (some ⟨w1.heap.size + 3, 0, none⟩)]) rfl eg_postorder1
    (postorder1_seq ss hok (w1.heap.size + 3) (fun k => k < w.heap.size ∨ k = w1.heap.size + 3) (Or.inr rfl) _ ?hP ?hd) rfl
    (OInv ss w w1.heap.size (.slice (some ⟨b, off, none⟩) ss.length cap)) ?hI ?h0 ?assign ?body ?hProt ?done
  case hP => intro k hk; simp; omega
  case hProt => intro k hk; simp; omega
  case hd =>
    refine ⟨.slice (some ⟨b, off, none⟩) ss.length cap, ?_, ?_⟩
    · exact (show IsRow _ (w1.heap.size + 3) 24 [_] from IsRow.newAt (by simp)).cell 0
    · exact (hs'.move (hk0.trans (by repeat (first | exact Keeps.refl _ _ | refine Keeps.alloc ?_ _))) fun k hk _ => ⟨trivial, Or.inl hk⟩)
  case hI =>
    intro pre A B h hA hk
    refine h.move (by omega) hk fun k hk => ?_
    simp; omega
  case h0 =>
    refine ⟨hk0.trans (by repeat (first | exact Keeps.refl _ _ | refine Keeps.alloc ?_ _)), by simp, ((((r0.alloc _).alloc _).alloc _).alloc _), ((((r1.alloc _).alloc _).alloc _).alloc _), ?_, ⟨.slice none 0 0, ?_, OwnSteps.nil _ _⟩,
      ⟨List.replicate ss.length 0, ?_, by simp, by simp, fun x hx => by rw [List.eq_of_mem_replicate hx]; omega⟩⟩
    all_goals repeat (first | (refine IsRow.newAt ?_; (simp; done)) | refine IsRow.alloc ?_ _)
  case assign =>
    intro m l x W K hK
    gi_wp2
    exact hK
  case body =>
    intro m l pre x W hI hpre hsz
    obtain ⟨hx, hxp, hkids⟩ := hok.round hpre
    obtain ⟨v, ro, ho⟩ := hI.out
    obtain ⟨L, rn, hL, hLp, hLb⟩ := hI.now
    have hpl : pre.length < 2000 := by
      have h1 := hpre.length_le
      have h2 := post_length_le hok
      simp at h1
      omega
    have hv : ∃ a c, v = .slice a pre.length c := by
      obtain ⟨vs, _, h, _⟩ := ho
      rcases h.2 with ⟨rfl, h0⟩ | ⟨g, cap, cur, rfl, _⟩
      · rw [List.length_map] at h0; rw [h0]; exact ⟨_, _, rfl⟩
      · rw [List.length_map]; exact ⟨_, _, rfl⟩
    obtain ⟨a3, c3, rfl⟩ := hv
    obtain ⟨d0, d0'⟩ := ro.one
    obtain ⟨d1, _⟩ := hI.nbox.one
    have hxL : x < L.length := by omega
    have d2 : W.cell? ⟨w1.heap.size + 1, x, none⟩ = some (.int .i64 L[x]) := rn.ints_cell hxL
    have d3 := rn.frozen x
    have Hk := hid hkids
    have Hp := hid hxp
    have HL := hid hL
    have HLp := hid hLp
    have HLb := hid hLb
    clear hkids hxp hL hLp hLb
    generalize L[x] = y at d2
    simp only [List.setIfInBounds_toArray, List.set_cons_succ, List.set_cons_zero]
    obtain ⟨W1, hW1⟩ : ∃ W1, W.setCell ⟨w1.heap.size + 1, x, none⟩ (.int .i64 (pre.length : Int)) = W1 := ⟨_, rfl⟩
    have k1 : Keeps (fun k => k ≠ w1.heap.size + 1) W W1 := by rw [← hW1]; exact (Keeps.refl _ _).setCell (fun _ hn => hn rfl) _
    have rn1 : IsRow W1 (w1.heap.size + 1) 3 (ints (L.set x pre.length)) := by rw [← hW1, ← ints_set]; exact rn.set _ _
    have ro1 := ro.keep k1 (by omega)
    have rb1 := hI.nbox.keep k1 (by omega)
    have rp1 := hI.pbox.keep k1 (by omega)
    have ho1 := ho.keep k1 (fun k hk => by omega)
    have hst1 : IsSteps All W1 (.slice (some ⟨b, off, none⟩) ss.length cap) ss := hs'.keep (hI.keep.upto k1 fun k hk => by omega) fun _ _ _ => trivial
    have hsz1 := k1.size
    obtain ⟨e0, va, e1, hva⟩ : W1.cell? ⟨b, off + x * 2, none⟩ = some (.string ss[x].label) ∧ ∃ va, W1.cell? ⟨b, off + x * 2 + 1, none⟩ = some va ∧ IsInts All W1 va ss[x].args := by
      obtain ⟨_, _, he, _, h⟩ := hst1
      cases he
      rcases h with ⟨h, _⟩ | ⟨b', off', h, _, _, hc⟩
      · exact absurd hx (by rw [h]; simp)
      · cases h
        exact hc x hx
    have hva2 := hva
    obtain ⟨a5, c5, rfl, _, _, h5⟩ := hva
    clear h5
    gi_wp2
    have hargs : ss[x].args.map (numAt (L.set x pre.length)) = (ordStep ss (post ss) x).args := by
      rw [ordStep_lt hx]
      refine List.map_congr_left fun y hy => ?_
      have h1 := (hok.2.2 x hx).2 y hy
      have h2 : y.toNat ∈ pre := Hk.out _ (by rw [kidsOf_lt hx]; exact List.mem_map.2 ⟨y, hy, rfl⟩)
      have h3 := HLp.out _ h2
      simp only [numAt, List.getD_eq_getElem?_getD]
      rw [List.getElem?_set_ne (by omega), h3]
      rfl
    have hlab : (ordStep ss (post ss) x).label = ss[x].label := by rw [ordStep_lt hx]
    have hal : (ordStep ss (post ss) x).args.length = ss[x].args.length := by rw [← hargs, List.length_map]
    have hown : ∀ k, k < w1.heap.size + 10 → (Value.slice a3 pre.length c3).ownBlock ≠ some k := fun k hk e => by
      obtain ⟨_, _, h, _⟩ := ho1
      have := (h.lt k e).1
      omega
    refine wpIn_region_inv (AppReg ss[x].label w1.heap.size w.heap.size x pre.length ss[x].args.length (.slice (some ⟨b, off, none⟩) ss.length cap) (.slice (some ⟨w1.heap.size + 1, 0, none⟩) ss.length ss.length) ⟨b, off + x * 2, none⟩
      (.slice a5 ss[x].args.length c5) a3 c3 (pre.map (ordStep ss (post ss))) (ordStep ss (post ss) x)) mixed (by kernel_rfl) ?start ⟨?o0, ?o1, ?o2, ?o3, ?o4, ?o5, ?o6, ?o7, ?o8, ?o9, ?o10, ?o11, ?o12, trivial⟩ ?fin
    case start =>
      refine ⟨0, 0, none, 0, by simp only [sIs_nil, sIs_cons, sI_false], ⟨?_, ?_, ?_, ?_, (Keeps.refl _ _).drew, fun _ => (Keeps.refl _ _).drew, ?_, ?_, fun _ => ro1, ?_, ?_⟩⟩
      all_goals (intro h; cases h)
    case o0 =>
      rintro b' a' w' hb hd ⟨nb, tb, a4, c4, rfl, hR⟩
      have hR' := hR.same (c' := mark b' 0) (mark_mono _) (mark_other _ (by decide)) (mark_other _ (by decide)) (mark_other _ (by decide)) (mark_other _ (by decide))
      simp only [sIs_nil, sIs_cons, sI_lit, lset_zero, lset_succ]
      gi_wp2
      refine ⟨nb, tb, a4, c4, ?_, hR'⟩
      simp [sIs_nil, sIs_cons, sI_lit, lset_zero, lset_succ, mark]
    case o1 =>
      rintro b' a' w' hb hd ⟨nb, tb, a4, c4, rfl, hR⟩
      have hR' := hR.same (c' := mark b' 1) (mark_mono _) (mark_other _ (by decide)) (mark_other _ (by decide)) (mark_other _ (by decide)) (mark_other _ (by decide))
      simp only [sIs_nil, sIs_cons, sI_lit, lset_zero, lset_succ]
      simp [Region.binds] at hd
      have h12 : b' 12 = false := by
        cases h : b' 12 with
        | false => rfl
        | true => rw [hR.ord1 (hR.ord12 h)] at hb; cases hb
      obtain ⟨f1, _⟩ := (hR.box h12).one
      gi_wp2
      refine ⟨nb, tb, a4, c4, ?_, hR'⟩
      simp [sIs_nil, sIs_cons, sI_lit, lset_zero, lset_succ, mark, hd]
    case o2 =>
      rintro b' a' w' hb hd ⟨nb, tb, a4, c4, rfl, hR⟩
      have hR' := hR.same (c' := mark b' 2) (mark_mono _) (mark_other _ (by decide)) (mark_other _ (by decide)) (mark_other _ (by decide)) (mark_other _ (by decide))
      simp only [sIs_nil, sIs_cons, sI_lit, lset_zero, lset_succ]
      gi_wp2
      refine ⟨nb, tb, a4, c4, ?_, hR'⟩
      simp [sIs_nil, sIs_cons, sI_lit, lset_zero, lset_succ, mark]
    case o3 =>
      rintro b' a' w' hb hd ⟨nb, tb, a4, c4, rfl, hR⟩
      have hR' := hR.same (c' := mark b' 3) (mark_mono _) (mark_other _ (by decide)) (mark_other _ (by decide)) (mark_other _ (by decide)) (mark_other _ (by decide))
      simp only [sIs_nil, sIs_cons, sI_lit, lset_zero, lset_succ]
      simp [Region.binds] at hd
      have f1 : w'.cell? ⟨w.heap.size, 0, none⟩ = some (.slice (some ⟨b, off, none⟩) ss.length cap) := hR.keep.cell (p := ⟨w.heap.size, 0, none⟩) ⟨by show w.heap.size ≠ _; omega, hown _ (by show w.heap.size < _; omega)⟩ (rp1.cell 0)
      gi_wp2
      refine ⟨nb, tb, a4, c4, ?_, hR'⟩
      simp [sIs_nil, sIs_cons, sI_lit, lset_zero, lset_succ, mark, hd]
    case o4 =>
      rintro b' a' w' hb hd ⟨nb, tb, a4, c4, rfl, hR⟩
      have hR' := hR.same (c' := mark b' 4) (mark_mono _) (mark_other _ (by decide)) (mark_other _ (by decide)) (mark_other _ (by decide)) (mark_other _ (by decide))
      simp only [sIs_nil, sIs_cons, sI_lit, lset_zero, lset_succ]
      gi_wp2
      refine ⟨nb, tb, a4, c4, ?_, hR'⟩
      simp [sIs_nil, sIs_cons, sI_lit, lset_zero, lset_succ, mark]
    case o5 =>
      rintro b' a' w' hb hd ⟨nb, tb, a4, c4, rfl, hR⟩
      have hR' := hR.same (c' := mark b' 5) (mark_mono _) (mark_other _ (by decide)) (mark_other _ (by decide)) (mark_other _ (by decide)) (mark_other _ (by decide))
      simp only [sIs_nil, sIs_cons, sI_lit, lset_zero, lset_succ]
      simp [Region.binds] at hd
      gi_wp2
      refine ⟨nb, tb, a4, c4, ?_, hR'⟩
      simp [sIs_nil, sIs_cons, sI_lit, lset_zero, lset_succ, mark, hd]
    case o6 =>
      rintro b' a' w' hb hd ⟨nb, tb, a4, c4, rfl, hR⟩
      have hR' := hR.same (c' := mark b' 6) (mark_mono _) (mark_other _ (by decide)) (mark_other _ (by decide)) (mark_other _ (by decide)) (mark_other _ (by decide))
      simp only [sIs_nil, sIs_cons, sI_lit, lset_zero, lset_succ]
      simp [Region.binds] at hd
      have f0 : w'.cell? ⟨b, off + x * 2, none⟩ = some (.string ss[x].label) := hR.keep.cell (p := ⟨b, off + x * 2, none⟩) ⟨by show b ≠ _; omega, hown _ (by show b < _; omega)⟩ e0
      have f1 : w'.cell? ⟨b, off + x * 2 + 1, none⟩ = some (.slice a5 ss[x].args.length c5) := hR.keep.cell (p := ⟨b, off + x * 2 + 1, none⟩) ⟨by show b ≠ _; omega, hown _ (by show b < _; omega)⟩ e1
      gi_wp2
      refine ⟨nb, tb, a4, c4, ?_, hR'⟩
      simp [sIs_nil, sIs_cons, sI_lit, lset_zero, lset_succ, mark, hd]
    case o7 =>
      rintro b' a' w' hb hd ⟨nb, tb, a4, c4, rfl, hR⟩
      have hR' := hR.same (c' := mark b' 7) (mark_mono _) (mark_other _ (by decide)) (mark_other _ (by decide)) (mark_other _ (by decide)) (mark_other _ (by decide))
      simp only [sIs_nil, sIs_cons, sI_lit, lset_zero, lset_succ]
      have f1 : w'.cell? ⟨w1.heap.size + 1 + 1, 0, none⟩ = some (.slice (some ⟨w1.heap.size + 1, 0, none⟩) ss.length ss.length) := hR.keep.cell (p := ⟨w1.heap.size + 1 + 1, 0, none⟩) ⟨by show w1.heap.size + 1 + 1 ≠ _; omega, hown _ (by show w1.heap.size + 1 + 1 < _; omega)⟩ (rb1.cell 0)
      gi_wp2
      refine ⟨nb, tb, a4, c4, ?_, hR'⟩
      simp [sIs_nil, sIs_cons, sI_lit, lset_zero, lset_succ, mark]
    case o11 =>
      rintro b' a' w' hb hd ⟨nb, tb, a4, c4, rfl, hR⟩
      have hR' := hR.same (c' := mark b' 11) (mark_mono _) (mark_other _ (by decide)) (mark_other _ (by decide)) (mark_other _ (by decide)) (mark_other _ (by decide))
      simp only [sIs_nil, sIs_cons, sI_lit, lset_zero, lset_succ]
      gi_wp2
      refine ⟨nb, tb, a4, c4, ?_, hR'⟩
      simp [sIs_nil, sIs_cons, sI_lit, lset_zero, lset_succ, mark]
    case o8 =>
      rintro b' a' w' hb hd ⟨nb, tb, a4, c4, rfl, hR⟩
      simp [Region.binds] at hd
      have h9 : b' 9 = false := by
        cases h : b' 9 with
        | false => rfl
        | true => rw [hR.ord9 h] at hb; cases hb
      have h10 : b' 10 = false := by
        cases h : b' 10 with
        | false => rfl
        | true => rw [hR.ord10 h] at h9; cases h9
      have h12 : b' 12 = false := by
        cases h : b' 12 with
        | false => rfl
        | true => rw [hR.ord12 h] at h10; cases h10
      have hk := hR.early h10
      have hcall := renumbered_c ss[x] (L.set x pre.length) (.agg #[.string ss[x].label, .slice a5 ss[x].args.length c5]) (.slice (some ⟨w1.heap.size + 1, 0, none⟩) ss.length ss.length) w'
        ⟨_, rfl, hva2.keep hk fun _ _ _ => trivial⟩ ?hn ((hok.2.2 x hx).1) ?ha
      case hn =>
        have h := (rn1.keep hk trivial).isInts All trivial (by rw [List.length_set, HL.out]; omega) (fun y hy => by
          rcases List.mem_or_eq_of_mem_set hy with h | h
          · have := HLb.out y h; omega
          · omega) ss.length
        rw [List.length_set, HL.out] at h
        exact h
      case ha =>
        intro y hy
        have h := (hok.2.2 x hx).2 y hy
        rw [List.length_set, HL.out]
        omega
      have HR := hid hR
      clear hR
      simp only [sIs_nil, sIs_cons, sI_lit, lset_zero, lset_succ]
      gi_wp2
      refine ⟨trivial, fun h => by simp [Fence.wide] at h, ?_⟩
      refine (CallsIn.inRound l (callsIn_wide.2 hcall)).mono ?_
      clear hcall
      rintro e w3 ⟨nb', rfl, hnb, hrow, hk3⟩
      gi_wp2
      refine ⟨nb', tb, a4, c4, by simp [sIs_nil, sIs_cons, sI_lit, lset_zero, lset_succ, mark, hd, h9, h10], ?_⟩
      have hR := HR.out
      refine ⟨?_, ?_, ?_, ?_, hR.keep.trans (hk3.sub fun _ _ _ => trivial), fun _ => hk.trans hk3, fun _ => ⟨Nat.le_trans hk.size hnb, ?_⟩, ?_, fun _ => (hR.box h12).keep hk3 trivial, ?_, ?_⟩
      · simp [mark, h10]
      · simp [mark, h9]
      · simp [mark, h10]
      · simp [mark, h12]
      · rw [← hargs]; exact hrow
      · simp [mark, h9]
      · simp [mark, h10]
      · simp [mark, h12]
    case o9 =>
      rintro b' a' w' hb hd ⟨nb, tb, a4, c4, rfl, hR⟩
      simp [Region.binds] at hd
      have h10 : b' 10 = false := by
        cases h : b' 10 with
        | false => rfl
        | true => rw [hR.ord10 h] at hb; cases hb
      have h12 : b' 12 = false := by
        cases h : b' 12 with
        | false => rfl
        | true => rw [hR.ord12 h] at h10; cases h10
      have HR := hid hR
      clear hR
      simp only [sIs_nil, sIs_cons, sI_lit, lset_zero, lset_succ]
      gi_wp2
      refine ⟨nb, w'.heap.size, a4, c4, by simp [sIs_nil, sIs_cons, sI_lit, lset_zero, lset_succ, mark, hd, h10], ?_⟩
      have hR := HR.out
      obtain ⟨hc1, hc2⟩ := hR.call hd
      refine ⟨?_, ?_, ?_, ?_, hR.keep.alloc _, fun _ => (hR.early h10).alloc _, fun _ => ⟨hc1, hc2.alloc _⟩, fun _ _ => ?_, fun _ => (hR.box h12).alloc _, ?_, ?_⟩
      · simp [mark, h10]
      · simp [mark, hd]
      · simp [mark]
      · simp [mark, h12]
      · rw [hlab, hal]; exact IsRow.new _ _ _
      · simp [mark, h10]
      · simp [mark, h12]
    case o10 =>
      rintro b' a' w' hb hd ⟨nb, tb, a4, c4, rfl, hR⟩
      simp [Region.binds] at hd
      obtain ⟨hd1, hd9, _⟩ := hd
      have h12 : b' 12 = false := by
        cases h : b' 12 with
        | false => rfl
        | true => rw [hR.ord12 h] at hb; cases hb
      obtain ⟨hc1, hc2⟩ := hR.call (hR.ord9 hd9)
      have hk := hR.early hb
      obtain ⟨t0, t1, _, _⟩ := (hR.tmp hd9 hb).two
      obtain ⟨vs, hvl, hown', hvi⟩ := ho1.keep hk fun _ _ => trivial
      obtain ⟨i0, hi, hz0, hz1, hz2⟩ := info_parts info_step
      have HR := hid hR
      have Hvi := hid hvi
      clear hR hvi
      simp only [sIs_nil, sIs_cons, sI_lit, lset_zero, lset_succ, hd1, hd9, cond_true]
      rw [List.length_map] at hown'
      refine wpListIn_append_where _ rfl (.tmp 29) (.tmp 37) 22 rfl (w1.heap.size + 10) 45 i0 _ 2 40 Tryd.underlying22 hi hz0 hz1 hz2 rfl (by decide) _ _ _ rfl hown' ⟨tb, 0, none⟩ 1 1 [.string (ordStep ss (post ss) x).label, .slice (some ⟨nb, 0, none⟩) (ordStep ss (post ss) x).args.length (ordStep ss (post ss) x).args.length] rfl rfl ?c1 ?c2 ?c3 ?c4 ?c5 ?_
      case c1 =>
        intro j u hu
        have hadd : (⟨tb, 0, none⟩ : Addr).add j = ⟨tb, j, none⟩ := by unfold Addr.add; split <;> simp_all
        rw [hadd]
        rcases j with _ | _ | j
        · simp at hu; subst hu; exact t0
        · simp at hu; subst hu; exact t1
        · simp at hu
      case c2 => intro u hu; simp at hu; rcases hu with rfl | rfl <;> rfl
      case c3 => unfold maxLen; omega
      case c4 => omega
      case c5 => have := hk.size; simp at hsz; omega
      intro v' w3 hown3 hg3 hw3
      obtain ⟨g', cap', rfl⟩ := ownsRow_succ hown3
      refine ⟨nb, tb, some ⟨g', 0, none⟩, cap', ?_, ?_⟩
      · simp [Act.put, sIs_nil, sIs_cons, sI_lit, lset_zero, lset_succ, mark, hd1, hd9]
      have hR := HR.out
      have hsz' := hk.size
      have hkw : Keeps (fun k => (Value.slice a3 pre.length c3).ownBlock ≠ some k) w' w3 := ⟨hg3.os, hg3.tape, hg3.output, hg3.size, fun k hlt hs => hg3.block k hlt (fun e => hs e.symm)⟩
      have hnb : (Value.slice a3 pre.length c3).ownBlock ≠ some nb := fun e => by
        have := hown'.lt nb e
        obtain ⟨_, _, h, _⟩ := ho1
        have := (h.lt nb e).2
        omega
      have hbase : (Value.slice a3 pre.length c3).ownBlock ≠ some w1.heap.size := hown _ (by omega)
      refine ⟨?_, ?_, ?_, ?_, hR.keep.trans (hkw.sub fun k _ h => h.2), ?_, fun _ => ⟨hc1, hc2.keep hkw hnb⟩, ?_, fun _ => (hR.box h12).keep hkw hbase, fun _ => ?_, ?_⟩
      · simp [mark, hd1]
      · simp [mark]; intro; exact hR.ord9 hd9
      · simp [mark, hd9]
      · simp [mark]
      · simp [mark]
      · simp [mark]
      · refine OwnSteps.snoc (va := .slice (some ⟨nb, 0, none⟩) (ordStep ss (post ss) x).args.length (ordStep ss (post ss) x).args.length) hvl Hvi.out ?_ (by rw [List.length_map]; exact hown3) hg3 ?_
        · refine hc2.isInts _ ⟨by simp at hsz; omega, hnb⟩ (by rw [hal]; have := (hok.2.2 x hx).1; omega) ?_ _
          intro y hy
          rw [ordStep_lt hx] at hy
          obtain ⟨q, _, rfl⟩ := List.mem_map.1 hy
          have h1 := List.idxOf_le_length (a := q.toNat) (l := post ss)
          have h2 := post_length_le hok
          omega
        · rcases hw3 with h | h
          · exact Or.inl h
          · exact Or.inr fun k hk2 => by rw [h] at hk2; cases hk2; exact Nat.le_refl _
      · simp [mark, h12]
    case o12 =>
      rintro b' a' w' hb hd ⟨nb, tb, a4, c4, rfl, hR⟩
      simp [Region.binds] at hd
      obtain ⟨hd11, hd10, hd'⟩ := hd
      obtain ⟨f1, f2⟩ := (hR.box hb).one
      have HR := hid hR
      clear hR
      simp only [sIs_nil, sIs_cons, sI_lit, lset_zero, lset_succ]
      gi_wp2
      refine ⟨nb, tb, a4, c4, ?_, ?_⟩
      · simp [sIs_nil, sIs_cons, sI_lit, lset_zero, lset_succ, mark, hd11, hd10, hd']
      have hR := HR.out
      have hkw : Keeps (fun k => k ≠ w1.heap.size) w' (w'.setCell ⟨w1.heap.size, 0, none⟩ (.slice a4 (pre.length + 1) c4)) := (Keeps.refl _ _).setCell (fun _ hn => hn rfl) _
      obtain ⟨q1, q2⟩ := hR.call hd'.2.2.2.2.2.2.2.2.1
      refine ⟨fun _ => mark_mono _ (hR.ord1 hd10), fun h => mark_mono _ (hR.ord9 (by simpa [mark] using h)), fun h => mark_mono _ (hR.ord10 (by simpa [mark] using h)), fun _ => mark_mono _ hd10, hR.keep.trans (hkw.sub fun k _ h => h.1), ?_, fun _ => ⟨q1, q2.keep hkw (by simp at hsz; omega)⟩, ?_, ?_, fun _ => (hR.out hd10).keep hkw (fun k hk => by omega), fun _ => ?_⟩
      · simp [mark, hd10]
      · simp [mark, hd10]
      · simp [mark]
      · exact (hR.box hb).set 0 _
    case fin =>
      rintro b' a' w' hb ⟨nb, tb, a4, c4, rfl, hR⟩
      have hsz' : w1.heap.size + 10 ≤ W.heap.size := by simp at hsz; omega
      have hS : ∀ k, k < w1.heap.size + 10 → k ≠ w1.heap.size → k ≠ w1.heap.size ∧ (Value.slice a3 pre.length c3).ownBlock ≠ some k := fun k h1 h2 => ⟨h2, hown k h1⟩
      refine ⟨⟨(hI.keep.upto k1 fun k hk => by omega).upto hR.keep fun k hk => hS k (by omega) (by omega), by have := hR.keep.size; omega, rp1.keep hR.keep (hS _ (by omega) (by omega)), (hI.rbox.keep k1 (by omega)).keep hR.keep (hS _ (by omega) (by omega)),
        rb1.keep hR.keep (hS _ (by omega) (by omega)), ⟨_, hR.done (hb 12 (by decide)), ?_⟩, ⟨_, rn1.keep hR.keep (hS _ (by omega) (by omega)), by rw [List.length_set]; exact HL.out, ?_, ?_⟩⟩, ?_⟩
      · rw [List.map_append]; exact hR.out (hb 10 (by decide))
      · intro y hy
        by_cases hyx : y = x
        · subst hyx
          rw [List.getElem?_set_self hxL, idxOf_prefix hpre Hp.out]
        · rw [List.getElem?_set_ne (fun e => hyx e.symm)]
          refine HLp.out y ?_
          rcases List.mem_append.1 hy with h | h
          · exact h
          · simp at h; exact absurd h hyx
      · intro y hy
        rcases List.mem_or_eq_of_mem_set hy with h | h
        · exact HLb.out y h
        · omega
      · refine (k1.sub fun k _ hk => ?_).trans (hR.keep.sub fun k _ hk => ?_)
        · simp at hk; omega
        · simp at hk; exact hS k (by omega) (by omega)
  case done =>
    intro D W hD hI hdef
    obtain ⟨v, ro, ho⟩ := hI.out
    obtain ⟨d0, _⟩ := ro.one
    obtain ⟨d1, d2⟩ := hI.rbox.one
    have hv : ∃ a n c, v = .slice a n c := by
      obtain ⟨vs, _, h, _⟩ := ho
      rcases h.2 with ⟨rfl, _⟩ | ⟨g, cap, cur, rfl, _⟩
      · exact ⟨_, _, _, rfl⟩
      · exact ⟨_, _, _, rfl⟩
    obtain ⟨a3, n3, c3, rfl⟩ := hv
    gi_wp2
    have hne : D ≠ w.heap.size + 1 := by simp at hD; omega
    have hdef' : (W.setCell ⟨w.heap.size + 1, 0, none⟩ (.slice a3 n3 c3)).heap[D]? = some (.deferred (some [])) := by
      rw [Below.heap_setCell _ _ _ _ hne]; exact hdef
    have hkp : Keeps (fun k => k ≠ D ∧ k ≠ w.heap.size + 1) W ((W.setCell ⟨w.heap.size + 1, 0, none⟩ (.slice a3 n3 c3)).putObj D (.deferred none)) :=
      keeps_put ((Keeps.refl _ _).setCell (fun _ (hn : w.heap.size + 1 ≠ D ∧ w.heap.size + 1 ≠ w.heap.size + 1) => hn.2 rfl) _) (fun hn => hn.1 rfl) _
    have hcell : ((W.setCell ⟨w.heap.size + 1, 0, none⟩ (.slice a3 n3 c3)).putObj D (.deferred none)).cell? ⟨w.heap.size + 1, 0, none⟩ = some (.slice a3 n3 c3) :=
      ((hI.rbox.set 0 (.slice a3 n3 c3)).keep (S := fun k => k ≠ D) (keeps_put (Keeps.refl _ _) (fun hn => hn rfl) _) (fun e => hne e.symm)).cell 0
    refine ⟨by simp, .inl ⟨_, _, rfl, run_takeDeferred hdef', ?_⟩⟩
    refine ⟨.tuple #[.agg #[.slice a3 n3 c3], .int .i64 0], ?_, _, rfl, ?_, ?_⟩
    · simp [results, Tryd.results8, go_sem, hcell]
    · have hst := (ho.isSteps (by rw [List.length_map]; have := post_length_le hok; omega))
      exact ⟨_, rfl, hst.move hkp fun k hlt hk => ⟨⟨by simp at hD; omega, by omega⟩, trivial⟩⟩
    · exact hI.keep.upto hkp fun k hlt => ⟨by simp at hD; omega, by omega⟩

end Go.Proofs.YtcbmljfgmeeadaaDoor
