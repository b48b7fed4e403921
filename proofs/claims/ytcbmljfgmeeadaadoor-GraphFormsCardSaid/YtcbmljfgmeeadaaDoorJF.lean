/-
  CONTRACT: Names.
  PLAIN LAW: the labels of a graph are those of its tree; the trees of a graft.
  CONTRACT: GraphGrafts.
  CONTRACT: GraphGrafts, where Share refuses.
-/
import Derived.Test.YtcbmljfgmeeadaaDoorJE
import Derived.Test.YtcbmljfgmeeadaaDoorG2
import Derived.Test.YtcbmljfgmeeadaaDoorG5
import Derived.Test.YtcbmljfgmeeadaaDoorG21
import Derived.Test.YtcbmljfgmeeadaaDoorJC
import Derived.Test.YtcbmljfgmeeadaaDoorG18
import Derived.Test.YtcbmljfgmeeadaaDoorG22
import Derived.Test.YtcbmljfgmeeadaaDoorJP
namespace Go.Proofs.YtcbmljfgmeeadaaDoor
open Go.RowKit Go.Shelf

attribute [local go_sem] Oper.semAt_some

/-- The label of a step. -/
def labOf (ss : List Stp) (x : Nat) : ByteArray := (ss[x]?.map Stp.label).getD ByteArray.empty
/-- What Names returns. -/
def namesM (ss : List Stp) : List ByteArray := setL ((post ss).map (labOf ss))

theorem post_ne {ss : List Stp} (hok : Okay ss) : post ss ≠ [] := by
  intro h
  have h1 : ss.length - 1 ∈ post ss := by
    unfold post
    have := hok.1
    obtain ⟨f, hf⟩ : ∃ f, ss.length = f + 1 := ⟨ss.length - 1, by omega⟩
    rw [hf]; exact trav_mem _ f _ _
  rw [h] at h1; cases h1

/-- A row of texts of the call's own, as a slice. -/
theorem own_strs {W : World} {lo : Nat} {v : Value} {xs : List ByteArray} (h : W.ownsRow lo 9 1 v xs.length (strs xs)) (hl : xs.length ≤ 140737488351232) (S : Nat → Prop) (hS : ∀ k, v.ownBlock = some k → S k) : IsStrs S W v xs := by
  rcases h.2 with ⟨rfl, h0⟩ | ⟨g, cap, cur, rfl, hb, hg, _⟩
  · have : xs = [] := List.eq_nil_of_length_eq_zero h0
    subst this
    exact ⟨none, 0, rfl, hl, Or.inl ⟨rfl, trivial⟩⟩
  · refine ⟨_, cap, rfl, hl, Or.inr ⟨g, 0, rfl, (Array.getElem?_eq_some_iff.1 hg).1, hS g rfl, fun i hi => ?_⟩⟩
    have hc := h.cells (g := g) rfl
    have hadd : ∀ j, (⟨g, 0, none⟩ : Addr).add j = ⟨g, j, none⟩ := fun j => by unfold Addr.add; split <;> simp_all
    have := hc i (.string xs[i]) (by simp [strs, List.getElem?_eq_getElem hi])
    rw [hadd] at this
    simpa using this

theorem IsStrs.keep2 {S S' T : Nat → Prop} {w w' : World} {v : Value} {xs : List ByteArray} (h : IsStrs S w v xs) (hk : Keeps T w w') (hs : ∀ k, k < w.heap.size → S k → S' k ∧ T k) : IsStrs S' w' v xs := by
  obtain ⟨a, cap, hv, hl, h⟩ := h
  refine ⟨a, cap, hv, hl, ?_⟩
  rcases h with h | ⟨b, off, ha, hB, hS, hc⟩
  · exact Or.inl h
  · exact Or.inr ⟨b, off, ha, by have := hk.size; omega, (hs _ hB hS).1, fun i hi => hk.cell (hs _ hB hS).2 (hc i hi)⟩

/-- What Names keeps from round to round. -/
structure NInv (ss : List Stp) (w : World) (base : Nat) (ps : Value) (pre : List Nat) (W : World) : Prop where
  keep : Keeps All w W
  size : base + 2 ≤ W.heap.size
  pbox : IsRow W w.heap.size 24 [ps]
  out : ∃ v, IsRow W base 36 [v] ∧ W.ownsRow (base + 8) 9 1 v pre.length (strs (pre.map (labOf ss)))

/-- The append of a round of Names. -/
structure NmInv (base tb k : Nat) (oldv newv : Value) (olds : List ByteArray) (lab : ByteArray) (W0 : World) (c : Nat → Bool) (w : World) : Prop where
  ord0 : c 8 = true → c 0 = true
  ord7 : c 8 = true → c 7 = true
  ord9 : c 9 = true → c 8 = true
  keep : Keeps (fun q => q ≠ base ∧ oldv.ownBlock ≠ some q) W0 w
  early : c 8 = false → Keeps All W0 w
  tmp : c 7 = true → c 8 = false → IsRow w tb 9 [.string lab]
  box : c 9 = false → IsRow w base 36 [oldv]
  out : c 8 = true → w.ownsRow (base + 8) 9 1 newv (k + 1) (strs (olds ++ [lab]))
  done : c 9 = true → IsRow w base 36 [newv]

theorem NmInv.same {base tb k : Nat} {oldv newv : Value} {olds : List ByteArray} {lab : ByteArray} {W0 : World} {c c' : Nat → Bool} {w : World} (h : NmInv base tb k oldv newv olds lab W0 c w)
    (h0 : c 0 = true → c' 0 = true) (h7 : c' 7 = c 7) (h8 : c' 8 = c 8) (h9 : c' 9 = c 9) : NmInv base tb k oldv newv olds lab W0 c' w := by
  obtain ⟨a0, a1, a2, a3, a4, a5, a6, a7, a8⟩ := h
  exact ⟨by rw [h8]; exact fun h => h0 (a0 h), by rw [h8, h7]; exact a1, by rw [h9, h8]; exact a2, a3, by rw [h8]; exact a4, by rw [h7, h8]; exact a5, by rw [h9]; exact a6, by rw [h8]; exact a7, by rw [h9]; exact a8⟩

def NmReg (n0 base x k : Nat) (ps : Value) (xa : Addr) (a3 : Option Addr) (c3 : Nat) (olds : List ByteArray) (lab : ByteArray) (T : Array Value) (W0 : World) (c : Nat → Bool) (a' : Act) (w' : World) : Prop :=
  ∃ (tb : Nat) (a4 : Option Addr) (c4 : Nat), a' = Act.mk (sIs T [(c 0, 11, .slice a3 k c3), (c 1, 12, .pointer (some ⟨n0, 0, none⟩)), (c 2, 13, ps), (c 3, 14, .int .i64 x), (c 4, 15, .pointer (some xa)), (c 5, 16, .pointer (some xa)), (c 6, 17, .string lab),
      (c 7, 18, .slice (some ⟨tb, 0, none⟩) 1 1), (c 8, 19, .slice a4 (k + 1) c4)]) [] ∧ NmInv base tb k (.slice a3 k c3) (.slice a4 (k + 1) c4) olds lab W0 c w'

theorem Names_bad (ss : List Stp) (v : Value) (w : World) (hv : IsProof All w v ss) (hf : formM ss ≠ 0) :
    Calls Tryd.prog 15 #[v] w fun e w' => e = .returned (.slice none 0 0) ∧ Keeps All w w' := by
  obtain ⟨u, rfl, hs⟩ := hv
  have hk0 : Keeps All w (w.alloc (.cells #[u] 24)) := (Keeps.refl _ _).alloc _
  have hform := form_c ss (.agg #[u]) _ ⟨u, rfl, hs.keep hk0 fun _ _ h => h⟩
  obtain ⟨a, cap, rfl, hl, h⟩ := hs
  clear h
  generalize formM ss = e0 at hform hf
  have h0 : (e0 == 0) = false := by simpa using hf
  go_enter Tryd.func15, Tryd.ntmps15
  go_wp2_with (go_at_call 29; refine Hid.out ?_)
  refine hid ?_
  refine hform.mono ?_
  clear hform
  rintro e w1 ⟨rfl, hk1⟩
  go_wp2
  go_ret
  exact ⟨rfl, hk0.trans hk1⟩

set_option maxHeartbeats 1000000 in
theorem Names_good (ss : List Stp) (v : Value) (w : World) (hv : IsProof All w v ss) (hok : Okay ss) :
    Calls Tryd.prog 15 #[v] w fun e w' => ∃ v', e = .returned v' ∧ IsStrs (fun k => w.heap.size ≤ k) w' v' (namesM ss) ∧ Keeps All w w' := by
  obtain ⟨u, rfl, hs⟩ := hv
  have hs' := hs
  have hk00 : Keeps All w (w.alloc (.cells #[u] 24)) := (Keeps.refl _ _).alloc _
  have hform := form_c ss (.agg #[u]) _ ⟨u, rfl, hs.keep hk00 fun _ _ h => h⟩
  rw [(formM_zero ss).2 hok] at hform
  obtain ⟨a, cap, rfl, hl, h⟩ := hs
  rcases h with ⟨rfl, _⟩ | ⟨b, off, rfl, hB, _, hc⟩
  · exact absurd hok.1 (by simp)
  have hlen : ss.length ≤ 2000 := hok.2.1
  have Hc := hid hc
  clear hc
  refine (callsIn_wide (n := 5)).1 ?_
  refine callsIn_of_wp_marks Tryd.func15 rfl trivial ?_ rfl
  simp only [Tryd.ntmps15, List.size_toArray, List.length_cons, List.length_nil, Nat.reduceAdd, Nat.reduceSub, Array.replicate_succ, Array.replicate_zero, List.push_toArray, List.append_toArray, List.nil_append, List.cons_append]
  gi_wp2
  refine ⟨trivial, ?_⟩
  refine (callsIn_wide.2 hform).mono ?_
  clear hform
  rintro e w1 ⟨rfl, hk1⟩
  have hk0 : Keeps All w w1 := hk00.trans hk1
  have r0 : IsRow w1 w.heap.size 24 [.slice (some ⟨b, off, none⟩) ss.length cap] := IsRow.keep (S := All) (IsRow.new _ _ _) hk1 trivial
  obtain ⟨c0, _⟩ := r0.one
  have l0 := r0.lt
  have l1 : w.heap.size < w1.heap.size + 1 := by omega
  gi_wp2
  refine ⟨trivial, ?_⟩
  refine (callsIn_wide.2 (postorder_c _ _)).mono ?_
  rintro e w2 ⟨rfl, rfl⟩
  gi_wp2
  refine wpIn_rangeFunc_f (fun T v => (T.setIfInBounds 10 v).setIfInBounds 4 v) (gf := 55) (lb := #[.pointer (some ⟨w1.heap.size + 1, 0, none⟩)]) rfl eg_postorder1
    (postorder1_seq ss hok (w1.heap.size + 1) (fun k => k < w.heap.size ∨ k = w1.heap.size + 1) (Or.inr rfl) _ ?hP ?hd) rfl
    (NInv ss w w1.heap.size (.slice (some ⟨b, off, none⟩) ss.length cap)) ?hI ?h0 ?assign ?body ?hProt ?done
  case hP => intro k hk; simp; omega
  case hProt => intro k hk; simp; omega
  case hd =>
    refine ⟨.slice (some ⟨b, off, none⟩) ss.length cap, ?_, ?_⟩
    · exact (show IsRow _ (w1.heap.size + 1) 24 [_] from IsRow.newAt (by simp)).cell 0
    · exact (hs'.move (hk0.trans (((Keeps.refl _ _).alloc _).alloc _)) fun k hk _ => ⟨trivial, Or.inl hk⟩)
  case hI =>
    intro pre A B h hA hk
    obtain ⟨v, h1, h2⟩ := h.out
    have := h.size
    simp at hA hk
    exact ⟨h.keep.upto hk fun k hlt => by omega, by have := hk.size; omega, h.pbox.keep hk (by omega), v, h1.keep hk (by omega), owns_keep h2 hk fun q e => by have := (h2.lt q e).1; omega⟩
  case h0 => exact ⟨hk0.trans (((Keeps.refl _ _).alloc _).alloc _), by simp, (r0.alloc _).alloc _, .slice none 0 0, (IsRow.new _ _ _).alloc _, World.ownsRow_nil _ _ _ _⟩
  case assign =>
    intro m l x W K hK
    gi_wp2
    exact hK
  case body =>
    intro m l pre x W hI hpre hsz
    obtain ⟨hx, hxp, hkids⟩ := hok.round hpre
    clear hkids
    have hpl : pre.length < 2000 := by
      have h1 := hpre.length_le
      have h2 := post_length_le hok
      simp at h1
      omega
    obtain ⟨v, hbx, hr⟩ := hI.out
    obtain ⟨a3, c3, rfl⟩ := owns_form hr
    have hsz2 : w1.heap.size + 8 ≤ W.heap.size := by simp at hsz; omega
    have hlow : ∀ q, q < w1.heap.size + 8 → (Value.slice a3 pre.length c3).ownBlock ≠ some q := fun q hq e => by have := (hr.lt q e).1; omega
    have e0 : W.cell? ⟨b, off + x * 2, none⟩ = some (.string ss[x].label) := hI.keep.cell (p := ⟨b, off + x * 2, none⟩) trivial (Hc.out x hx).1
    have hlab : Hid (labOf ss x = ss[x].label) := by simp [Hid, labOf, hx]
    have Hr := hid hr
    clear hr
    simp only [List.setIfInBounds_toArray, List.set_cons_succ, List.set_cons_zero]
    gi_wp2
    refine wpIn_region_inv (NmReg w.heap.size w1.heap.size x pre.length (.slice (some ⟨b, off, none⟩) ss.length cap) ⟨b, off + x * 2, none⟩ a3 c3 (pre.map (labOf ss)) ss[x].label) mixed (by kernel_rfl) ?start ⟨?o0, ?o1, ?o2, ?o3, ?o4, ?o5, ?o6, ?o7, ?o8, ?o9, trivial⟩ ?fin
    case start =>
      refine ⟨0, none, 0, by simp only [sIs_nil, sIs_cons, sI_false], ⟨?_, ?_, ?_, (Keeps.refl _ _).drew, fun _ => (Keeps.refl _ _).drew, ?_, fun _ => hbx, ?_, ?_⟩⟩
      all_goals (intro h; cases h)
    case o0 =>
      rintro b' a' w4 hb hd ⟨tb, a4, c4, rfl, hR⟩
      have hR' := hR.same (c' := mark b' 0) (mark_mono _) (mark_other _ (by decide)) (mark_other _ (by decide)) (mark_other _ (by decide))
      have h9 : b' 9 = false := by
        cases h : b' 9 with
        | false => rfl
        | true => rw [hR.ord0 (hR.ord9 h)] at hb; cases hb
      obtain ⟨f1, _⟩ := (hR.box h9).one
      simp only [sIs_nil, sIs_cons, sI_lit, lset_zero, lset_succ]
      gi_wp2
      refine ⟨tb, a4, c4, ?_, hR'⟩
      simp [sIs_nil, sIs_cons, sI_lit, lset_zero, lset_succ, mark]
    case o1 =>
      rintro b' a' w4 hb hd ⟨tb, a4, c4, rfl, hR⟩
      have hR' := hR.same (c' := mark b' 1) (mark_mono _) (mark_other _ (by decide)) (mark_other _ (by decide)) (mark_other _ (by decide))
      simp only [sIs_nil, sIs_cons, sI_lit, lset_zero, lset_succ]
      gi_wp2
      refine ⟨tb, a4, c4, ?_, hR'⟩
      simp [sIs_nil, sIs_cons, sI_lit, lset_zero, lset_succ, mark]
    case o2 =>
      rintro b' a' w4 hb hd ⟨tb, a4, c4, rfl, hR⟩
      have hR' := hR.same (c' := mark b' 2) (mark_mono _) (mark_other _ (by decide)) (mark_other _ (by decide)) (mark_other _ (by decide))
      simp [Region.binds] at hd
      have f1 : w4.cell? ⟨w.heap.size, 0, none⟩ = some (.slice (some ⟨b, off, none⟩) ss.length cap) := hR.keep.cell (p := ⟨w.heap.size, 0, none⟩) ⟨by show w.heap.size ≠ _; omega, hlow _ (by show w.heap.size < _; omega)⟩ (hI.pbox.cell 0)
      simp only [sIs_nil, sIs_cons, sI_lit, lset_zero, lset_succ]
      gi_wp2
      refine ⟨tb, a4, c4, ?_, hR'⟩
      simp [sIs_nil, sIs_cons, sI_lit, lset_zero, lset_succ, mark, hd]
    case o3 =>
      rintro b' a' w4 hb hd ⟨tb, a4, c4, rfl, hR⟩
      have hR' := hR.same (c' := mark b' 3) (mark_mono _) (mark_other _ (by decide)) (mark_other _ (by decide)) (mark_other _ (by decide))
      simp only [sIs_nil, sIs_cons, sI_lit, lset_zero, lset_succ]
      gi_wp2
      refine ⟨tb, a4, c4, ?_, hR'⟩
      simp [sIs_nil, sIs_cons, sI_lit, lset_zero, lset_succ, mark]
    case o4 =>
      rintro b' a' w4 hb hd ⟨tb, a4, c4, rfl, hR⟩
      have hR' := hR.same (c' := mark b' 4) (mark_mono _) (mark_other _ (by decide)) (mark_other _ (by decide)) (mark_other _ (by decide))
      simp [Region.binds] at hd
      simp only [sIs_nil, sIs_cons, sI_lit, lset_zero, lset_succ]
      gi_wp2
      refine ⟨tb, a4, c4, ?_, hR'⟩
      simp [sIs_nil, sIs_cons, sI_lit, lset_zero, lset_succ, mark, hd]
    case o5 =>
      rintro b' a' w4 hb hd ⟨tb, a4, c4, rfl, hR⟩
      have hR' := hR.same (c' := mark b' 5) (mark_mono _) (mark_other _ (by decide)) (mark_other _ (by decide)) (mark_other _ (by decide))
      simp [Region.binds] at hd
      simp only [sIs_nil, sIs_cons, sI_lit, lset_zero, lset_succ]
      gi_wp2
      refine ⟨tb, a4, c4, ?_, hR'⟩
      simp [sIs_nil, sIs_cons, sI_lit, lset_zero, lset_succ, mark, hd]
    case o6 =>
      rintro b' a' w4 hb hd ⟨tb, a4, c4, rfl, hR⟩
      have hR' := hR.same (c' := mark b' 6) (mark_mono _) (mark_other _ (by decide)) (mark_other _ (by decide)) (mark_other _ (by decide))
      simp [Region.binds] at hd
      have f1 : w4.cell? ⟨b, off + x * 2, none⟩ = some (.string ss[x].label) := hR.keep.cell (p := ⟨b, off + x * 2, none⟩) ⟨by show b ≠ _; omega, hlow _ (by show b < _; omega)⟩ e0
      simp only [sIs_nil, sIs_cons, sI_lit, lset_zero, lset_succ]
      gi_wp2
      refine ⟨tb, a4, c4, ?_, hR'⟩
      simp [sIs_nil, sIs_cons, sI_lit, lset_zero, lset_succ, mark, hd]
    case o7 =>
      rintro b' a' w4 hb hd ⟨tb, a4, c4, rfl, hR⟩
      simp [Region.binds] at hd
      have h8 : b' 8 = false := by
        cases h : b' 8 with
        | false => rfl
        | true => rw [hR.ord7 h] at hb; cases hb
      have h9 : b' 9 = false := by
        cases h : b' 9 with
        | false => rfl
        | true => rw [hR.ord9 h] at h8; cases h8
      have HR := hid hR
      clear hR
      simp only [sIs_nil, sIs_cons, sI_lit, lset_zero, lset_succ]
      gi_wp2
      refine ⟨w4.heap.size, a4, c4, by simp [sIs_nil, sIs_cons, sI_lit, lset_zero, lset_succ, mark, hd, h8], ?_⟩
      have hR := HR.out
      refine ⟨?_, ?_, ?_, hR.keep.alloc _, fun _ => (hR.early h8).alloc _, fun _ _ => IsRow.new _ _ _, fun _ => (hR.box h9).alloc _, ?_, ?_⟩
      · simp [mark, h8]
      · simp [mark]
      · simp [mark, h9]
      · simp [mark, h8]
      · simp [mark, h9]
    case o8 =>
      rintro b' a' w4 hb hd ⟨tb, a4, c4, rfl, hR⟩
      simp [Region.binds] at hd
      obtain ⟨hd0, hd7⟩ := hd
      have h9 : b' 9 = false := by
        cases h : b' 9 with
        | false => rfl
        | true => rw [hR.ord9 h] at hb; cases hb
      have hk := hR.early hb
      obtain ⟨t0, _⟩ := (hR.tmp hd7 hb).one
      have hr1 := owns_keep Hr.out hk fun _ _ => trivial
      have hlt1 := hid (fun q (e : (Value.slice a3 pre.length c3).ownBlock = some q) => Hr.out.lt q e)
      obtain ⟨i0, hi0, hz0, hz1, hz2⟩ := info_parts info_string
      have HR := hid hR
      clear hR
      simp only [sIs_nil, sIs_cons, sI_lit, lset_zero, lset_succ, hd0, hd7, cond_true]
      refine wpListIn_append_where _ rfl (.tmp 11) (.tmp 18) 36 rfl (w1.heap.size + 8) 9 i0 _ 1 16 Tryd.underlying36 hi0 hz0 hz1 hz2 rfl (by decide) _ _ _ rfl hr1 ⟨tb, 0, none⟩ 1 1 [.string ss[x].label] rfl rfl ?c1 ?c2 ?c3 ?c4 ?c5 ?_
      case c1 =>
        intro j u hu
        have hadd : (⟨tb, 0, none⟩ : Addr).add j = ⟨tb, j, none⟩ := by unfold Addr.add; split <;> simp_all
        rw [hadd]
        rcases j with _ | j
        · simp at hu; subst hu; exact t0
        · simp at hu
      case c2 => intro u hu; simp at hu; subst hu; rfl
      case c3 => unfold maxLen; omega
      case c4 => omega
      case c5 => have := hk.size; omega
      intro v' w3 hown3 hg3 hw3
      obtain ⟨g', cap', rfl⟩ := ownsRow_succ hown3
      refine ⟨tb, some ⟨g', 0, none⟩, cap', ?_, ?_⟩
      · simp [Act.put, sIs_nil, sIs_cons, sI_lit, lset_zero, lset_succ, mark, hd0, hd7]
      have hR := HR.out
      have hkw : Keeps (fun q => (Value.slice a3 pre.length c3).ownBlock ≠ some q) w4 w3 := ⟨hg3.os, hg3.tape, hg3.output, hg3.size, fun q hlt hs => hg3.block q hlt (fun e => hs e.symm)⟩
      refine ⟨?_, ?_, ?_, hR.keep.trans (hkw.sub fun q _ h => h.2), ?_, ?_, fun _ => (hR.box h9).keep hkw (hlow _ (by omega)), fun _ => ?_, ?_⟩
      · simp [mark, hd0]
      · simp [mark, hd7]
      · simp [mark]
      · simp [mark]
      · simp [mark]
      · simpa [strs] using hown3
      · simp [mark, h9]
    case o9 =>
      rintro b' a' w4 hb hd ⟨tb, a4, c4, rfl, hR⟩
      simp [Region.binds] at hd
      obtain ⟨hd8, hd'⟩ := hd
      obtain ⟨f1, f2⟩ := (hR.box hb).one
      have HR := hid hR
      clear hR
      simp only [sIs_nil, sIs_cons, sI_lit, lset_zero, lset_succ]
      gi_wp2
      refine ⟨tb, a4, c4, ?_, ?_⟩
      · simp [sIs_nil, sIs_cons, sI_lit, lset_zero, lset_succ, mark, hd8, hd']
      have hR := HR.out
      have hkw : Keeps (fun q => q ≠ w1.heap.size) w4 (w4.setCell ⟨w1.heap.size, 0, none⟩ (.slice a4 (pre.length + 1) c4)) := (Keeps.refl _ _).setCell (fun _ hn => hn rfl) _
      refine ⟨fun _ => mark_mono _ (hR.ord0 hd8), fun _ => mark_mono _ (hR.ord7 hd8), fun _ => mark_mono _ hd8, hR.keep.trans (hkw.sub fun q _ h => h.1), ?_, ?_, ?_, fun _ => owns_keep (hR.out hd8) hkw (fun q e => by have := ((hR.out hd8).lt q e).1; omega), fun _ => (hR.box hb).set 0 _⟩
      · simp [mark, hd8]
      · simp [mark, hd8]
      · simp [mark]
    case fin =>
      rintro b' a' w4 hb ⟨tb, a4, c4, rfl, hR⟩
      have hS : ∀ q, q < w1.heap.size + 8 → q ≠ w1.heap.size → q ≠ w1.heap.size ∧ (Value.slice a3 pre.length c3).ownBlock ≠ some q := fun q h1 h2 => ⟨h2, hlow q h1⟩
      refine ⟨⟨hI.keep.upto hR.keep fun q hq => hS q (by omega) (by omega), by have := hR.keep.size; omega, hI.pbox.keep hR.keep (hS _ (by omega) (by omega)), _, hR.done (hb 9 (by decide)), ?_⟩, ?_⟩
      · have h := hR.out (hb 8 (by decide))
        rw [List.map_append, List.map_cons, List.map_nil, hlab.out, List.length_append]
        exact h
      · refine hR.keep.sub fun q _ hk => ?_
        simp at hk; exact hS q (by omega) (by omega)
  case done =>
    intro D W hD hI hdef
    obtain ⟨v, hb, hr⟩ := hI.out
    obtain ⟨a3, c3, rfl⟩ := owns_form hr
    obtain ⟨d0, _⟩ := hb.one
    have hne : (post ss).map (labOf ss) ≠ [] := by
      have h := post_ne hok
      intro he
      exact h (List.map_eq_nil_iff.1 he)
    have hpl := post_length_le hok
    have hst : IsStrs All W (.slice a3 (post ss).length c3) ((post ss).map (labOf ss)) := by
      rw [show (post ss).length = ((post ss).map (labOf ss)).length by simp] at hr ⊢
      exact own_strs hr (by simp; omega) All fun _ _ => trivial
    have hcall := set_c ((post ss).map (labOf ss)) _ W hst (by simp; omega) hne
    have hD2 : D < W.heap.size := (Array.getElem?_eq_some_iff.1 hdef).1
    have HI := hid hI
    have HD := hid hD
    clear hr hst hI hD
    gi_wp2
    refine ⟨trivial, ?_⟩
    refine (callsIn_wide.2 hcall).mono ?_
    clear hcall
    rintro e w3 ⟨v', rfl, hv', hk3⟩
    obtain ⟨a5, c5, rfl⟩ := hv'.form
    have hdef3 : w3.heap[D]? = some (.deferred (some [])) := (hk3.block D hD2 trivial).trans hdef
    have hkp : Keeps (fun k => k ≠ D) w3 (w3.putObj D (.deferred none)) := keeps_put (Keeps.refl _ _) (fun hn => hn rfl) _
    gi_wp2
    refine ⟨by simp, .inl ⟨_, _, rfl, run_takeDeferred hdef3, ?_⟩⟩
    refine ⟨.slice a5 (setL ((post ss).map (labOf ss))).length c5, by simp [results, Tryd.results15], _, rfl, ?_, ?_⟩
    · have hszW := HI.out.keep.size
      exact (hv'.sub fun k _ h => (show w.heap.size ≤ k ∧ k ≠ D by omega)).keep2 hkp fun k _ h => ⟨h.1, h.2⟩
    · exact (HI.out.keep.trans hk3).upto hkp fun k hk => by have hD := HD.out; simp at hD; omega

end Go.Proofs.YtcbmljfgmeeadaaDoor

namespace Go.Proofs.YtcbmljfgmeeadaaDoor
open Go.RowKit Go.Shelf Go.Sort

mutual
/-- The labels of a tree. -/
def tlabs : Tree → List ByteArray
  | .node l ks => l :: tlabsL ks
def tlabsL : List Tree → List ByteArray
  | [] => []
  | k :: ks => tlabs k ++ tlabsL ks
end

theorem mem_tlabsL {x : ByteArray} : ∀ (ks : List Tree), x ∈ tlabsL ks ↔ ∃ k ∈ ks, x ∈ tlabs k
  | [] => by simp [tlabsL]
  | k :: ks => by simp [tlabsL, mem_tlabsL ks]

theorem labOf_tree {ss : List Stp} (hok : Okay ss) (i : Nat) (x : ByteArray) : x ∈ tlabs (treeAt ss i) ↔ x = labOf ss i ∨ ∃ a ∈ kidsOf ss i, x ∈ tlabs (treeAt ss a) := by
  rw [treeAt_eq hok.kids]
  simp only [tlabs, List.mem_cons, mem_tlabsL, List.mem_map]
  constructor
  · rintro (h | ⟨k, ⟨a, ha, rfl⟩, hx⟩)
    · exact Or.inl h
    · exact Or.inr ⟨a, ha, hx⟩
  · rintro (h | ⟨a, ha, hx⟩)
    · exact Or.inl h
    · exact Or.inr ⟨_, ⟨a, ha, rfl⟩, hx⟩

theorem trav_labs {ss : List Stp} (hok : Okay ss) : ∀ (f i : Nat) (o : List Nat) (y : Nat), y ∈ trav (kidsOf ss) f i o → y ∈ o ∨ labOf ss y ∈ tlabs (treeAt ss i)
  | 0, _, _, _, h => Or.inl h
  | f + 1, i, o, y, h => by
    simp only [trav] at h
    split at h
    · exact Or.inl h
    · rcases List.mem_append.1 h with h | h
      · have key : ∀ (l : List Nat) (o : List Nat), (∀ a ∈ l, a ∈ kidsOf ss i) → y ∈ l.foldl (fun o a => trav (kidsOf ss) f a o) o → y ∈ o ∨ labOf ss y ∈ tlabs (treeAt ss i) := by
          intro l
          induction l with
          | nil => intro o _ h; exact Or.inl h
          | cons a l ih =>
            intro o hl h
            rcases ih _ (fun b hb => hl b (by simp [hb])) h with h | h
            · rcases trav_labs hok f a o y h with h | h
              · exact Or.inl h
              · exact Or.inr ((labOf_tree hok i _).2 (Or.inr ⟨a, hl a (by simp), h⟩))
            · exact Or.inr h
        exact key _ o (fun _ h => h) h
      · obtain rfl : y = i := by simpa using h
        exact Or.inr ((labOf_tree hok y _).2 (Or.inl rfl))

theorem post_labs {ss : List Stp} (hok : Okay ss) (x : ByteArray) : x ∈ (post ss).map (labOf ss) ↔ x ∈ tlabs (treeM ss) := by
  constructor
  · intro h
    obtain ⟨y, hy, rfl⟩ := List.mem_map.1 h
    rcases trav_labs hok _ _ _ y hy with h | h
    · cases h
    · exact h
  · have key : ∀ i, i ∈ post ss → ∀ x ∈ tlabs (treeAt ss i), x ∈ (post ss).map (labOf ss) := by
      intro i
      induction i using Nat.strongRecOn with
      | ind i ih =>
        intro hi x hx
        rcases (labOf_tree hok i x).1 hx with rfl | ⟨a, ha, hx⟩
        · exact List.mem_map.2 ⟨i, hi, rfl⟩
        · exact ih a (hok.kids i a ha) (post_closed hok hi a ha) x hx
    intro h
    obtain ⟨p, hp⟩ := post_last hok
    exact key (ss.length - 1) (by rw [hp]; simp) x h

theorem mem_compactUpTo {α : Type} [Inhabited α] [DecidableEq α] (d : Array α) : ∀ (m : Nat) (i : Nat), i < m → d[i]! ∈ Lib.compactUpTo d m
  | 0, i, h => by omega
  | m + 1, i, h => by
    have key : d[m]! ∈ Lib.compactUpTo d (m + 1) := by
      rw [Lib.compactUpTo_succ]
      cases hk : Lib.keeps d m with
      | true => simp
      | false =>
        simp only [Lib.keeps, decide_eq_false_iff_not, not_or, ne_eq, Decidable.not_not] at hk
        rw [hk.2]
        exact List.mem_append_left _ (mem_compactUpTo d m (m - 1) (by omega))
    by_cases hi : i = m
    · subst hi; exact key
    · rw [Lib.compactUpTo_succ]
      exact List.mem_append_left _ (mem_compactUpTo d m i (by omega))

theorem mem_compact {α : Type} [Inhabited α] [DecidableEq α] {zs : List α} {x : α} : x ∈ Lib.compact zs ↔ x ∈ zs := by
  constructor
  · intro h
    unfold Lib.compact Lib.compactUpTo at h
    obtain ⟨j, hj, rfl⟩ := List.mem_map.1 h
    have hj2 : j < zs.length := by simpa using (List.mem_filter.1 hj).1
    rw [getElem!_pos _ j (by simpa using hj2)]
    simp
  · intro h
    obtain ⟨i, hi, rfl⟩ := List.getElem_of_mem h
    have := mem_compactUpTo zs.toArray zs.length i hi
    rw [getElem!_pos _ i (by simpa using hi)] at this
    simpa [Lib.compact] using this

theorem mem_setL {xs : List ByteArray} {x : ByteArray} : x ∈ setL xs ↔ x ∈ xs := by
  unfold setL
  rw [List.mem_map]
  constructor
  · rintro ⟨l, hl, rfl⟩
    have h := (List.mergeSort_perm _ _).mem_iff.1 (mem_compact.1 hl)
    obtain ⟨y, hy, rfl⟩ := List.mem_map.1 h
    exact hy
  · intro h
    exact ⟨bytesOf x, mem_compact.2 ((List.mergeSort_perm _ _).mem_iff.2 (List.mem_map.2 ⟨x, h, rfl⟩)), rfl⟩

theorem mem_namesM {ss : List Stp} (hok : Okay ss) (x : ByteArray) : x ∈ namesM ss ↔ x ∈ tlabs (treeM ss) := mem_setL.trans (post_labs hok x)

theorem take_okay {p : List Stp} (hp : Okay p) {k : Nat} (hk : k < p.length) : Okay (p.take (k + 1)) := by
  have hlen : (p.take (k + 1)).length = k + 1 := by rw [List.length_take]; omega
  refine ⟨by omega, by have := hp.2.1; omega, fun i hi => ?_⟩
  rw [hlen] at hi
  simp only [List.getElem_take]
  exact hp.2.2 i (by omega)

theorem kids_append {q r : List Stp} {i : Nat} (h : i < r.length) : kidsOf (q ++ r) (q.length + i) = r[i].args.map Int.toNat := by
  unfold kidsOf
  rw [List.getElem?_append_right (by omega), Nat.add_sub_cancel_left, List.getElem?_eq_getElem h]
  rfl

theorem numAt_graft {n m at_ i : Nat} (h : i < m) : numAt (graftNow n m at_) i = if i = at_ then (n : Int) - 1 else ((n + i : Nat) : Int) := by
  unfold numAt
  rw [List.getD_eq_getElem?_getD, Int.toNat_natCast, graftNow]
  split
  · rename_i e; subst e
    rw [List.getElem?_set_self (by simpa using h)]; rfl
  · rename_i e
    rw [List.getElem?_set_ne (fun h => e h.symm)]
    simp [h]

/-- Where step i of p lies in the graft. -/
def graftAt (n at_ i : Nat) : Nat := if i = at_ then n - 1 else n + i

theorem graftW_kids {p q : List Stp} (hp : Okay p) (hq : Okay q) (at_ : Nat) {i : Nat} (h : i < p.length) : kidsOf (graftW p at_ q) (q.length + i) = (kidsOf p i).map (graftAt q.length at_) := by
  have hq1 := hq.1
  unfold graftW
  rw [kids_append (by simpa using h), kidsOf_lt h]
  simp only [List.getElem_map, renumM, List.map_map]
  refine List.map_congr_left fun a ha => ?_
  have ha2 := (hp.2.2 i h).2 a ha
  have h1 := numAt_graft (n := q.length) (m := p.length) (at_ := at_) (i := a.toNat) (by omega)
  rw [show ((a.toNat : Nat) : Int) = a by omega] at h1
  simp only [Function.comp, h1, graftAt]
  split <;> omega

theorem graftW_treeq {p q : List Stp} (hp : Okay p) (hq : Okay q) (at_ : Nat) (hlen : p.length + q.length ≤ 2000) {i : Nat} (h : i < q.length) : treeAt (graftW p at_ q) i = treeAt q i :=
  Back.ahead hq.back (graftW_okay hp hq at_ hlen).back (List.prefix_append _ _) i h

theorem labOf_graft {p q : List Stp} (at_ : Nat) {i : Nat} (h : i < p.length) : labOf (graftW p at_ q) (q.length + i) = labOf p i := by
  unfold labOf graftW
  rw [List.getElem?_append_right (by omega), Nat.add_sub_cancel_left]
  simp [h, renumM]

/-- Graft of the tree of step at_ itself: the same trees. -/
theorem graftW_same {p q : List Stp} (hp : Okay p) (hq : Okay q) (at_ : Nat) (hlen : p.length + q.length ≤ 2000) (hs : treeM q = treeAt p at_) :
    ∀ i, i < p.length → treeAt (graftW p at_ q) (graftAt q.length at_ i) = treeAt p i := by
  have hok := graftW_okay hp hq at_ hlen
  have hq1 := hq.1
  intro i
  induction i using Nat.strongRecOn with
  | ind i ih =>
    intro hi
    unfold graftAt
    split
    · rename_i e; subst e
      rw [graftW_treeq hp hq i hlen (by omega)]
      exact hs
    · rw [treeAt_eq hok.kids, treeAt_eq hp.kids, graftW_kids hp hq at_ hi]
      have hl := labOf_graft (p := p) (q := q) at_ hi
      unfold labOf at hl
      rw [hl, List.map_map]
      congr 1
      refine List.map_congr_left fun a ha => ?_
      have := hp.kids i a ha
      exact ih a this (by omega)

theorem graftM_same {p : List Stp} (hp : Okay p) (k : Nat) (hk : k < p.length) (hlen : p.length + p.length ≤ 2000) : treeM (graftM p k (p.take (k + 1))) = treeM p := by
  unfold graftM
  split
  · rename_i e
    rw [e, List.take_length]
  · rename_i e
    have hq : Okay (p.take (k + 1)) := take_okay hp (by omega)
    have hql : (p.take (k + 1)).length = k + 1 := by rw [List.length_take]; omega
    have hs : treeM (p.take (k + 1)) = treeAt p k := by
      unfold treeM
      rw [hql]
      exact (Back.ahead hq.back hp.back (List.take_prefix _ _) k (by omega)).symm
    have h := graftW_same hp hq k (by omega) hs (p.length - 1) (by omega)
    unfold graftAt at h
    rw [if_neg (by omega)] at h
    show treeAt _ _ = treeAt p (p.length - 1)
    rw [← h]
    congr 1
    simp [graftW]; omega

/-- The labels of a graft are among those of both. -/
theorem graftW_labs {p q : List Stp} (hp : Okay p) (hq : Okay q) (at_ : Nat) (hlen : p.length + q.length ≤ 2000) :
    ∀ i, i < p.length → ∀ x ∈ tlabs (treeAt (graftW p at_ q) (graftAt q.length at_ i)), x ∈ tlabs (treeAt p i) ∨ x ∈ tlabs (treeM q) := by
  have hok := graftW_okay hp hq at_ hlen
  have hq1 := hq.1
  intro i
  induction i using Nat.strongRecOn with
  | ind i ih =>
    intro hi x hx
    unfold graftAt at hx
    split at hx
    · rw [graftW_treeq hp hq at_ hlen (by omega)] at hx
      exact Or.inr hx
    · rcases (labOf_tree hok _ x).1 hx with rfl | ⟨a, ha, hx⟩
      · rw [labOf_graft at_ hi]
        exact Or.inl ((labOf_tree hp i _).2 (Or.inl rfl))
      · rw [graftW_kids hp hq at_ hi] at ha
        obtain ⟨b, hb, rfl⟩ := List.mem_map.1 ha
        have hlt := hp.kids i b hb
        rcases ih b hlt (by omega) x hx with h | h
        · exact Or.inl ((labOf_tree hp i _).2 (Or.inr ⟨b, hb, h⟩))
        · exact Or.inr h

theorem graftM_labs {p q : List Stp} (hp : Okay p) (hq : Okay q) (k : Nat) (hlen : p.length + q.length ≤ 2000) (x : ByteArray) (hx : x ∈ tlabs (treeM (graftM p k q))) : x ∈ tlabs (treeM p) ∨ x ∈ tlabs (treeM q) := by
  unfold graftM at hx
  split at hx
  · exact Or.inr hx
  · rename_i e
    have hp1 := hp.1
    refine graftW_labs hp hq k hlen (p.length - 1) (by omega) x ?_
    unfold graftAt
    rw [if_neg (by omega)]
    unfold treeM at hx
    rwa [show (graftW p k q).length - 1 = q.length + (p.length - 1) by simp [graftW]; omega] at hx

/-- The names of a graft are among those of both. -/
theorem names_graft {p q : List Stp} (hp : Okay p) (hq : Okay q) (k : Nat) (hlen : p.length + q.length ≤ 2000) (x : ByteArray) (hx : x ∈ namesM (shareM (graftM p k q))) : x ∈ namesM p ∨ x ∈ namesM q := by
  have hg := graftM_okay hp hq k hlen
  rw [mem_namesM (shareM_okay hg), (shareM_back hg).2.2] at hx
  rw [mem_namesM hp, mem_namesM hq]
  exact graftM_labs hp hq k hlen x hx

end Go.Proofs.YtcbmljfgmeeadaaDoor

namespace Go.Proofs.YtcbmljfgmeeadaaDoor
open Go.RowKit Go.Shelf

attribute [local go_sem] Oper.semAt_some

theorem ContainsStr_c (xs : List ByteArray) (v : Value) (x : ByteArray) (w : World) (hv : IsStrs All w v xs) :
    Calls Tryd.prog 16 #[v, .string x] w fun e w' => e = .returned (.bool (Lib.containsS xs x)) ∧ w = w' := by
  obtain ⟨a, c, rfl, hl, h⟩ := hv
  rcases h with ⟨rfl, _⟩ | ⟨b, off, rfl, _, _, hc⟩
  · refine (Tryd.slices_Contains_string_empty a c x w).mono ?_
    rintro e w' ⟨rfl, rfl⟩
    exact ⟨rfl, rfl⟩
  · refine (Tryd.slices_Contains_string b off xs.length c xs x w (Nat.le_refl _) (by omega) fun j hj => ?_).mono ?_
    · rw [hc j hj]; simp [List.getD, hj]
    · rintro e w' ⟨rfl, rfl⟩
      exact ⟨ret_bool (by rw [List.take_length]), rfl⟩

theorem Tab.kept {A : World} (h : Tab A) : Kept (fun W => Tab W) A := fun _ hk => h.keep hk

/-- What lies through GraphGrafts: the two proofs, boxed. -/
def GG (w : World) (va vb : Value) (ss ts : List Stp) (W : World) : Prop :=
  IsRow W w.heap.size 24 [va] ∧ IsRow W (w.heap.size + 1) 24 [vb] ∧ IsProof All W (.agg #[va]) ss ∧ IsProof All W (.agg #[vb]) ts ∧ Keeps All w W ∧ Tab W

theorem gg_start (ss ts : List Stp) (va vb : Value) (w : World) (h1 : IsSteps All w va ss) (h2 : IsSteps All w vb ts) (htab : Tab w) :
    Kept (GG w va vb ss ts) ((w.alloc (.cells #[va] 24)).alloc (.cells #[vb] 24)) := by
  have hk : Keeps All w ((w.alloc (.cells #[va] 24)).alloc (.cells #[vb] 24)) := ((Keeps.refl _ _).alloc _).alloc _
  intro B hB
  exact ⟨((IsRow.new _ _ _).alloc _).keep hB trivial, (show IsRow _ (w.heap.size + 1) 24 [vb] from IsRow.newAt (by simp)).keep hB trivial, ⟨_, rfl, h1.keep (hk.trans hB) fun _ _ h => h⟩, ⟨_, rfl, h2.keep (hk.trans hB) fun _ _ h => h⟩, hk.trans hB, htab.keep (hk.trans hB)⟩

theorem few_len {ss : List Stp} {n : Int} (h : fewM ss n = true) : (ss.length : Int) ≤ n := by
  simp only [fewM, Bool.and_eq_true, decide_eq_true_eq] at h
  exact h.1

theorem GraphGrafts_many (ss ts : List Stp) (va vb : Value) (x : Nat) (w : World) (h1 : IsSteps All w va ss) (h2 : IsSteps All w vb ts) (htab : Tab w) (hf : fewM ss 60 = false ∨ fewM ts 60 = false ∨ ss = []) :
    Calls Tryd.prog 4 #[.agg #[va], .agg #[vb], .int .u8 (x : Int)] w fun e w' => e = .returned (.bool true) ∧ Keeps All w w' := by
  have m := gg_start ss ts va vb w h1 h2 htab
  obtain ⟨a, c, rfl⟩ := h1.form
  obtain ⟨a2, c2, rfl⟩ := h2.form
  obtain ⟨p1, p2, _⟩ := m.now
  clear h1 h2 htab
  cases f1 : fewM ss 60 with
  | false =>
    have hfew := Few_c ss 60 _ _ m.now.2.2.1
    rw [f1] at hfew
    clear f1 hf p1 p2
    go_enter Tryd.func4, Tryd.ntmps4
    go_wp2_with (go_at_call 6; refine Hid.out ?_)
    refine hid ?_
    refine hfew.mono ?_
    clear hfew
    rintro e w1 ⟨rfl, hk1⟩
    have m1 := m.on hk1
    have haw := awake_c w1 m1.now.2.2.2.2.2
    go_wp2_with (go_at_call 7; refine Hid.out ?_)
    refine hid ?_
    refine haw.mono ?_
    rintro e w2 ⟨rfl, hk2⟩
    go_wp2
    go_ret
    exact ⟨rfl, m1.now.2.2.2.2.1.trans hk2⟩
  | true =>
    have hl := few_len f1
    have hfew := Few_c ss 60 _ _ m.now.2.2.1
    rw [f1] at hfew
    have hf2 : fewM ts 60 = false ∨ fewM ts 60 = true ∧ ss = [] := by
      rcases hf with h | h | h
      · rw [f1] at h; cases h
      · exact Or.inl h
      · cases fewM ts 60 <;> simp [h]
    clear f1 hf p1 p2
    rcases hf2 with hf2 | ⟨hf2, h0⟩
    · go_enter Tryd.func4, Tryd.ntmps4
      go_wp2_with (go_at_call 6; refine Hid.out ?_)
      refine hid ?_
      refine hfew.mono ?_
      clear hfew
      rintro e w1 ⟨rfl, hk1⟩
      have m1 := m.on hk1
      obtain ⟨p1, p2, _⟩ := m1.now
      obtain ⟨d1, _⟩ := p2.one
      have hfew := Few_c ts 60 _ _ m1.now.2.2.2.1
      rw [hf2] at hfew
      go_wp2_with (go_at_call 6; refine Hid.out ?_)
      refine hid ?_
      refine hfew.mono ?_
      clear hfew
      rintro e w2 ⟨rfl, hk2⟩
      have m2 := m1.on hk2
      have haw := awake_c w2 m2.now.2.2.2.2.2
      go_wp2_with (go_at_call 7; refine Hid.out ?_)
      refine hid ?_
      refine haw.mono ?_
      rintro e w3 ⟨rfl, hk3⟩
      go_wp2
      go_ret
      exact ⟨rfl, m2.now.2.2.2.2.1.trans hk3⟩
    · subst h0
      go_enter Tryd.func4, Tryd.ntmps4
      go_wp2_with (go_at_call 6; refine Hid.out ?_)
      refine hid ?_
      refine hfew.mono ?_
      clear hfew
      rintro e w1 ⟨rfl, hk1⟩
      have m1 := m.on hk1
      obtain ⟨p1, p2, _⟩ := m1.now
      obtain ⟨d1, _⟩ := p2.one
      have hfew := Few_c ts 60 _ _ m1.now.2.2.2.1
      rw [hf2] at hfew
      go_wp2_with (go_at_call 6; refine Hid.out ?_)
      refine hid ?_
      refine hfew.mono ?_
      clear hfew
      rintro e w2 ⟨rfl, hk2⟩
      have m2 := m1.on hk2
      obtain ⟨q1, q2, _⟩ := m2.now
      obtain ⟨d2, _⟩ := q1.one
      have haw := awake_c w2 m2.now.2.2.2.2.2
      go_wp2_with (go_at_call 7; refine Hid.out ?_)
      refine hid ?_
      refine haw.mono ?_
      rintro e w3 ⟨rfl, hk3⟩
      go_wp2
      go_ret
      exact ⟨rfl, m2.now.2.2.2.2.1.trans hk3⟩

end Go.Proofs.YtcbmljfgmeeadaaDoor

namespace Go.Proofs.YtcbmljfgmeeadaaDoor
open Go.RowKit Go.Shelf

attribute [local go_sem] Oper.semAt_some

theorem GraphGrafts_bad (ss ts : List Stp) (va vb : Value) (x : Nat) (w : World) (h1 : IsSteps All w va ss) (h2 : IsSteps All w vb ts) (htab : Tab w) (hx : x < 256) (hf1 : fewM ss 60 = true) (hf2 : fewM ts 60 = true) (hne : ss ≠ []) (hbad : formM ss ≠ 0) :
    Calls Tryd.prog 4 #[.agg #[va], .agg #[vb], .int .u8 (x : Int)] w fun e w' => e = .returned (.bool true) ∧ Keeps All w w' := by
  have m := gg_start ss ts va vb w h1 h2 htab
  obtain ⟨a, c, rfl⟩ := h1.form
  obtain ⟨a2, c2, rfl⟩ := h2.form
  have hl := few_len hf1
  have hl1 : 1 ≤ ss.length := by cases ss with | nil => exact absurd rfl hne | cons _ _ => simp
  have hn0 : ((ss.length : Int) == 0) = false := by simp; omega
  have Hbad := hid hbad
  have hfew := Few_c ss 60 _ _ m.now.2.2.1
  rw [hf1] at hfew
  clear h1 h2 htab hf1 hne hbad
  go_enter Tryd.func4, Tryd.ntmps4
  go_wp2_with (go_at_call 6; refine Hid.out ?_)
  refine hid ?_
  refine hfew.mono ?_
  clear hfew
  rintro e w1 ⟨rfl, hk1⟩
  have m1 := m.on hk1
  obtain ⟨p1, p2, _⟩ := m1.now
  obtain ⟨d1, _⟩ := p2.one
  have hfew := Few_c ts 60 _ _ m1.now.2.2.2.1
  rw [hf2] at hfew
  clear p1 p2 hf2
  go_wp2_with (go_at_call 6; refine Hid.out ?_)
  refine hid ?_
  refine hfew.mono ?_
  clear hfew d1 m
  rintro e w2 ⟨rfl, hk2⟩
  have m2 := m1.on hk2
  obtain ⟨q1, q2, _⟩ := m2.now
  obtain ⟨d2, _⟩ := q1.one
  clear q1 q2
  have hsh := Share_bad ss _ w2 m2.now.2.2.1 Hbad.out
  generalize formM ss = e0 at hsh Hbad
  have hb2 : (e0 == 0) = false := by simpa using Hbad.out
  go_wp2_with (go_at_call 9; refine Hid.out ?_)
  refine hid ?_
  trace_state
  refine hsh.mono ?_
  clear hsh
  rintro e w3 ⟨rfl, hk3⟩
  have m3 := m2.on (hk3.trans ((Keeps.refl _ _).alloc (.cells #[.slice none 0 0] 24)))
  have haw := awake_c _ m3.now.2.2.2.2.2
  go_wp2_with (go_at_call 7; refine Hid.out ?_)
  refine hid ?_
  refine haw.mono ?_
  rintro e w4 ⟨rfl, hk4⟩
  go_wp2
  go_ret
  exact ⟨rfl, m3.now.2.2.2.2.1.trans hk4⟩

end Go.Proofs.YtcbmljfgmeeadaaDoor
