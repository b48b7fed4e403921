/-
  CONTRACT: Graft, where it returns a proof.
-/
import Derived.Test.YtcbmljfgmeeadaaDoorG21
import Derived.Test.YtcbmljfgmeeadaaDoorJC
namespace Go.Proofs.YtcbmljfgmeeadaaDoor
open Go.RowKit Go.Shelf

attribute [local go_sem] Oper.semAt_some

theorem IsSteps.first {S : Nat → Prop} {w : World} {a : Option Addr} {n c : Nat} {ss : List Stp} (h : IsSteps S w (.slice a n c) ss) {k : Nat} (hk : k ≤ ss.length) : IsSteps S w (.slice a k c) (ss.take k) := by
  obtain ⟨_, _, he, hl, h⟩ := h
  cases he
  have hlen : (ss.take k).length = k := by rw [List.length_take]; omega
  refine ⟨a, c, by rw [hlen], by rw [hlen]; omega, ?_⟩
  rcases h with ⟨h, _⟩ | ⟨b, off, rfl, hb, hS, hc⟩
  · exact Or.inl ⟨by rw [h]; simp, trivial⟩
  · refine Or.inr ⟨b, off, rfl, hb, hS, fun i hi => ?_⟩
    rw [hlen] at hi
    simp only [List.getElem_take]
    exact hc i (by omega)

theorem OwnIn.place {S : Nat → Prop} {lo : Nat} {W : World} {v : Value} {ss : List Stp} (h : OwnIn S lo W v ss) (hn : 1 ≤ ss.length) : ∃ g cap, v = .slice (some ⟨g, 0, none⟩) ss.length cap ∧ ss.length ≤ cap ∧ cap ≤ maxLen := by
  obtain ⟨vs, hl, ho, _⟩ := h
  rcases ho.2 with ⟨_, h0⟩ | ⟨g, cap, cur, rfl, _, _, h1, h2, _⟩
  · omega
  · exact ⟨g, cap, rfl, h1, h2⟩

/-- What is owned, as a slice. -/
theorem OwnIn.isSteps {S T : Nat → Prop} {lo : Nat} {W : World} {v : Value} {ss : List Stp} (h : OwnIn S lo W v ss) (hn : ss.length ≤ 140737488351232) (hg0 : ∀ q, v.ownBlock = some q → T q) (hT : ∀ q, S q → T q) : IsSteps T W v ss := by
  obtain ⟨vs, hl, ho, hi⟩ := h
  rcases ho.2 with ⟨rfl, h0⟩ | ⟨g, cap, cur, rfl, hb, hg, _⟩
  · have : ss = [] := List.eq_nil_of_length_eq_zero h0
    subst this
    exact ⟨none, 0, rfl, hn, Or.inl ⟨rfl, trivial⟩⟩
  · refine ⟨_, cap, rfl, hn, Or.inr ⟨g, 0, rfl, (Array.getElem?_eq_some_iff.1 hg).1, hg0 g rfl, fun i h => ?_⟩⟩
    have hc := ho.cells (g := g) rfl
    obtain ⟨h1, h2⟩ := stepCells_get ss vs hl i h (by omega)
    have a1 := hc _ _ h1
    have a2 := hc _ _ h2
    have hadd : ∀ j, (⟨g, 0, none⟩ : Addr).add j = ⟨g, j, none⟩ := fun j => by unfold Addr.add; split <;> simp_all
    rw [hadd] at a1 a2
    exact ⟨by rw [Nat.zero_add]; exact a1, _, by rw [Nat.zero_add]; exact a2, (hi i h).sub fun q _ hq => hT q hq.1⟩

/-- The append of a round of Graft. -/
structure GrInv (S : Nat → Prop) (lo wb nb tb : Nat) (oldv newv : Value) (olds : List Stp) (s : Stp) (W0 : World) (c : Nat → Bool) (w : World) : Prop where
  ord1 : c 6 = true → c 1 = true
  ord5 : c 5 = true → c 4 = true
  ord6 : c 6 = true → c 5 = true
  ord8 : c 8 = true → c 6 = true
  keep : Keeps (fun q => q ≠ wb ∧ oldv.ownBlock ≠ some q) W0 w
  early : c 6 = false → Keeps All W0 w
  call : c 4 = true → W0.heap.size ≤ nb ∧ IsRow w nb 3 (ints s.args)
  tmp : c 5 = true → c 6 = false → IsRow w tb 45 [.string s.label, .slice (some ⟨nb, 0, none⟩) s.args.length s.args.length]
  box : c 8 = false → IsRow w wb 24 [oldv]
  out : c 6 = true → OwnIn S lo w newv (olds ++ [s])
  whr : c 6 = true → newv.ownBlock = oldv.ownBlock ∨ ∀ q, newv.ownBlock = some q → W0.heap.size ≤ q
  done : c 8 = true → IsRow w wb 24 [newv]

theorem GrInv.same {S : Nat → Prop} {lo wb nb tb : Nat} {oldv newv : Value} {olds : List Stp} {s : Stp} {W0 : World} {c c' : Nat → Bool} {w : World} (h : GrInv S lo wb nb tb oldv newv olds s W0 c w)
    (h1 : c 1 = true → c' 1 = true) (h4 : c' 4 = c 4) (h5 : c' 5 = c 5) (h6 : c' 6 = c 6) (h8 : c' 8 = c 8) : GrInv S lo wb nb tb oldv newv olds s W0 c' w := by
  obtain ⟨a0, a1, a2, a3, a4, a5, a6, a7, a8, a9, a10, a11⟩ := h
  exact ⟨by rw [h6]; exact fun h => h1 (a0 h), by rw [h5, h4]; exact a1, by rw [h6, h5]; exact a2, by rw [h8, h6]; exact a3, a4, by rw [h6]; exact a5, by rw [h4]; exact a6, by rw [h5, h6]; exact a7, by rw [h8]; exact a8, by rw [h6]; exact a9, by rw [h6]; exact a10, by rw [h8]; exact a11⟩

def GrReg (S : Nat → Prop) (lo wb m : Nat) (lab : ByteArray) (va nows : Value) (a3 : Option Addr) (k c3 : Nat) (olds : List Stp) (s : Stp) (T : Array Value) (W0 : World) (c : Nat → Bool) (a' : Act) (w' : World) : Prop :=
  ∃ (nb tb : Nat) (a4 : Option Addr) (c4 : Nat), a' = Act.mk (sIs T [(c 0, 72, .pointer (some ⟨wb, 0, none⟩)), (c 1, 73, .slice a3 k c3), (c 2, 74, .agg #[.string lab, va]), (c 3, 75, nows), (c 4, 76, .agg #[.string lab, .slice (some ⟨nb, 0, none⟩) m m]),
      (c 5, 77, .slice (some ⟨tb, 0, none⟩) 1 1), (c 6, 78, .slice a4 (k + 1) c4), (c 7, 79, .pointer (some ⟨wb, 0, none⟩))]) [] ∧
    GrInv S lo wb nb tb (.slice a3 k c3) (.slice a4 (k + 1) c4) olds s W0 c w'

set_option maxHeartbeats 2000000 in
theorem Graft_good (ss ts : List Stp) (v u : Value) (k : Nat) (w : World) (hv : IsProof All w v ss) (hu : IsProof All w u ts) (hok1 : Okay ss) (hok2 : Okay ts) (hat : k < ss.length) (hlen : ss.length + ts.length ≤ 2000) (htab : Tab w) :
    Calls Tryd.prog 14 #[v, .int .i64 (k : Int), u] w fun e w' => ∃ vr, e = .returned (.tuple #[vr, .int .i64 0]) ∧ IsProof All w' vr (shareM (graftM ss k ts)) ∧ Keeps All w w' := by
  have Ht := hid htab
  clear htab
  obtain ⟨ua, rfl, h1⟩ := hv
  obtain ⟨ub, rfl, h2⟩ := hu
  have l1 : w.heap.size < w.heap.size + 1 := by omega
  have l2 : w.heap.size < w.heap.size + 1 + 1 := by omega
  refine (callsIn_wide (n := 5)).1 ?_
  refine callsIn_of_wp Tryd.func14 rfl trivial ?_ rfl
  simp only [Tryd.ntmps14, List.size_toArray, List.length_cons, List.length_nil, Nat.reduceAdd, Nat.reduceSub, Array.replicate_succ, Array.replicate_zero, List.push_toArray, List.append_toArray, List.nil_append, List.cons_append]
  gi_wp2
  obtain ⟨W0, hW0⟩ : ∃ W0, ((w.alloc (.cells #[ua] 24)).alloc (.cells #[ub] 24)).alloc (.cells #[.slice none 0 0] 24) = W0 := ⟨_, rfl⟩
  have hk0 : Keeps All w W0 := by rw [← hW0]; exact (((Keeps.refl _ _).alloc _).alloc _).alloc _
  have r0 : IsRow W0 w.heap.size 24 [ua] := by rw [← hW0]; exact ((IsRow.new _ _ _).alloc _).alloc _
  have r1 : IsRow W0 (w.heap.size + 1) 24 [ub] := by rw [← hW0]; exact (IsRow.newAt (by simp)).alloc _
  have r2 : IsRow W0 (w.heap.size + 2) 24 [.slice none 0 0] := by rw [← hW0]; exact IsRow.newAt (by simp)
  have hs0 : W0.heap.size = w.heap.size + 3 := by rw [← hW0]; simp
  have hp : ∀ W, Keeps All W0 W → IsProof All W (.agg #[ua]) ss := fun W hk => ⟨ua, rfl, h1.keep (hk0.trans hk) fun _ _ h => h⟩
  have hq : ∀ W, Keeps All W0 W → IsProof All W (.agg #[ub]) ts := fun W hk => ⟨ub, rfl, h2.keep (hk0.trans hk) fun _ _ h => h⟩
  have Hp := hid hp
  have Hq := hid hq
  have h1G := hid h1
  have h2G := hid h2
  clear hp hq h1 h2
  rw [hW0]
  have hmk := make_ints ss.length (by omega)
  have h1F := h1G
  have h2F := h2G
  obtain ⟨a, c, hua⟩ := h1F.out.form
  have Hua := hid hua
  obtain ⟨a2, c2, hub⟩ := h2F.out.form
  have Hub := hid hub
  clear hua hub
  have Hx := hid ((formM_zero ss).2 hok1).symm
  have Hy := hid ((formM_zero ts).2 hok2).symm
  refine wpIn_region_inv (FormReg2 ua ub 0 0) mixed (by kernel_rfl) ?start ⟨?o0, ?o1, ?o2, ?o3, ?o4, ?o5, ?o6, trivial⟩ ?fin
  case start => exact ⟨0, by simp only [sIs_nil, sIs_cons, sI_false], (Keeps.refl _ _).drew, fun h => (by cases h), fun h => (by cases h)⟩
  case o0 =>
    rintro b' a' w' hb hd ⟨nb, rfl, hk, hr, h54⟩
    have f1 : w'.cell? ⟨w.heap.size, 0, none⟩ = some ua := hk.cell (p := ⟨w.heap.size, 0, none⟩) trivial (r0.cell 0)
    simp only [sIs_nil, sIs_cons, sI_lit, lset_zero, lset_succ]
    gi_wp2
    exact ⟨nb, by simp [sIs_nil, sIs_cons, sI_lit, lset_zero, lset_succ, mark], hk, fun h => hr (by simpa [mark] using h), fun h => mark_mono _ (h54 (by simpa [mark] using h))⟩
  case o2 =>
    rintro b' a' w' hb hd ⟨nb, rfl, hk, hr, h54⟩
    have f1 : w'.cell? ⟨w.heap.size + 1, 0, none⟩ = some ub := hk.cell (p := ⟨w.heap.size + 1, 0, none⟩) trivial (r1.cell 0)
    simp only [sIs_nil, sIs_cons, sI_lit, lset_zero, lset_succ]
    gi_wp2
    exact ⟨nb, by simp [sIs_nil, sIs_cons, sI_lit, lset_zero, lset_succ, mark], hk, fun h => hr (by simpa [mark] using h), fun h => mark_mono _ (h54 (by simpa [mark] using h))⟩
  case o1 =>
    rintro b' a' w' hb hd ⟨nb, rfl, hk, hr, h54⟩
    have hd0 : b' 0 = true := hd { on := 0, ground := Ground.data } (by simp) rfl
    have hcall := form_c ss _ w' (Hp.out w' hk)
    rw [← Hx.out] at hcall
    simp only [sIs_nil, sIs_cons, sI_lit, lset_zero, lset_succ, hd0, cond_true]
    gi_wp2
    refine ⟨trivial, ?_⟩
    refine (callsIn_wide.2 hcall).mono ?_
    clear hcall
    rintro e w3 ⟨rfl, hk3⟩
    gi_wp2
    exact ⟨nb, by simp [sIs_nil, sIs_cons, sI_lit, lset_zero, lset_succ, mark, hd0], hk.trans hk3, fun h => (hr (by simpa [mark] using h)).keep hk3 trivial, fun h => mark_mono _ (h54 (by simpa [mark] using h))⟩
  case o3 =>
    rintro b' a' w' hb hd ⟨nb, rfl, hk, hr, h54⟩
    have hd0 : b' 2 = true := hd { on := 2, ground := Ground.data } (by simp) rfl
    have hcall := form_c ts _ w' (Hq.out w' hk)
    rw [← Hy.out] at hcall
    simp only [sIs_nil, sIs_cons, sI_lit, lset_zero, lset_succ, hd0, cond_true]
    gi_wp2
    refine ⟨trivial, ?_⟩
    refine (callsIn_wide.2 hcall).mono ?_
    clear hcall
    rintro e w3 ⟨rfl, hk3⟩
    gi_wp2
    exact ⟨nb, by simp [sIs_nil, sIs_cons, sI_lit, lset_zero, lset_succ, mark, hd0], hk.trans hk3, fun h => (hr (by simpa [mark] using h)).keep hk3 trivial, fun h => mark_mono _ (h54 (by simpa [mark] using h))⟩
  case o4 =>
    rintro b' a' w' hb hd ⟨nb, rfl, hk, hr, h54⟩
    have hd1 : b' 1 = true := hd { on := 1, ground := Ground.data } (by simp) rfl
    have hd3 : b' 3 = true := hd { on := 3, ground := Ground.data } (by simp) rfl
    have h5 : b' 5 = false := by
      cases h : b' 5 with
      | false => rfl
      | true => rw [h54 h] at hb; cases hb
    simp only [sIs_nil, sIs_cons, sI_lit, lset_zero, lset_succ, hd1, hd3, cond_true]
    gi_wp2
    exact ⟨w'.heap.size, by simp [sIs_nil, sIs_cons, sI_lit, lset_zero, lset_succ, mark, hd1, hd3, h5], hk.alloc _, fun _ => IsRow.new _ _ _, fun h => by simp [mark, h5] at h⟩
  case o5 =>
    rintro b' a' w' hb hd ⟨nb, rfl, hk, hr, h54⟩
    have hd4 : b' 4 = true := hd { on := 4, ground := Ground.data } (by simp) rfl
    have hrow : IsRow w' nb 27 (ints [0, 0]) := hr hd4
    have hcall := cmpOr_c [0, 0] _ w' (hrow.isInts All trivial (by simp) (fun z hz => by simp at hz; omega) 2)
    simp only [List.length_cons, List.length_nil, Nat.zero_add, Nat.reduceAdd] at hcall
    obtain ⟨q, hq⟩ : ∃ q, q = orM [0, 0] := ⟨_, rfl⟩
    have HQ := hid hq
    rw [← hq] at hcall
    clear hq
    simp only [sIs_nil, sIs_cons, sI_lit, lset_zero, lset_succ, hd4, cond_true]
    gi_wp2
    refine ⟨trivial, ?_⟩
    refine (callsIn_wide.2 hcall).mono ?_
    clear hcall
    rintro e w3 ⟨rfl, hk3⟩
    gi_wp2
    exact ⟨nb, by simp [sIs_nil, sIs_cons, sI_lit, lset_zero, lset_succ, mark, hd4, HQ.out], hk.trans hk3, fun h => (hr (by simpa [mark] using h)).keep hk3 trivial, fun _ => mark_mono _ hd4⟩
  case o6 =>
    rintro b' a' w' hb hd ⟨nb, rfl, hk, hr, h54⟩
    have hd5 : b' 5 = true := hd { on := 5, ground := Ground.data } (by simp) rfl
    obtain ⟨q, hq⟩ : ∃ q, q = orM [0, 0] := ⟨_, rfl⟩
    have HQ := hid hq
    simp only [sIs_nil, sIs_cons, sI_lit, lset_zero, lset_succ, hd5, cond_true, ← hq]
    clear hq
    gi_wp2
    exact ⟨nb, by simp [sIs_nil, sIs_cons, sI_lit, lset_zero, lset_succ, mark, hd5, h54 hd5, HQ.out], hk, fun h => hr (by simpa [mark] using h), fun h => mark_mono _ (h54 (by simpa [mark] using h))⟩
  case fin =>
    rintro b' a' w' hb ⟨nb, rfl, hk, hr, h54⟩
    have e0 := hb 0 (by decide)
    have e1 := hb 1 (by decide)
    have e2 := hb 2 (by decide)
    have e3 := hb 3 (by decide)
    have e4 := hb 4 (by decide)
    have e5 := hb 5 (by decide)
    have e6 := hb 6 (by decide)
    clear hb hr h54
    have hor : orM [0, 0] = 0 := rfl
    simp only [sIs_nil, sIs_cons, sI_lit, lset_zero, lset_succ, e0, e1, e2, e3, e4, e5, e6, cond_true, hor]
    clear e0 e1 e2 e3 e4 e5 e6 hor
    obtain ⟨c3, _⟩ := (r0.keep hk trivial).one
    rw [Hua.out] at c3
    obtain ⟨c4, _⟩ := (r1.keep hk trivial).one
    rw [Hub.out] at c4
    have hS := Hq.out w' hk
    obtain ⟨u', hu', hst⟩ := hS
    cases hu'
    rw [Hub.out] at hst
    have hclone := Clone_c ts (.slice a2 ts.length c2) w' (fun k => k < w'.heap.size) (hst.move (Keeps.refl All _) fun k hk _ => ⟨trivial, hk⟩) (fun h => by rw [h] at hok2; exact absurd hok2.1 (by simp)) (by omega) (fun k h => h)
    gi_wp2
    refine ⟨trivial, ?_⟩
    refine (callsIn_wide.2 hclone).mono ?_
    clear hclone
    rintro e w1 ⟨v1, rfl, hown, hk1⟩
    obtain ⟨a3, c5, rfl⟩ := hown.form
    have hlo : Hid (∀ q, (Value.slice a3 ts.length c5).ownBlock = some q → w'.heap.size ≤ q ∧ q < w1.heap.size) := fun q e => hown.lt e
    have hn1 : 1 ≤ ts.length := hok2.1
    have hm1 : 1 ≤ ss.length := hok1.1
    have hksz := hk1.size
    have hksz0 := hk.size
    have p1 := (r0.keep hk trivial).keep hk1 trivial
    rw [Hua.out] at p1
    obtain ⟨d0, _⟩ := p1.one
    have Hown := hid hown
    clear hown c3 c4
    have l3 : w.heap.size < w1.heap.size + 1 := by omega
    have l4 : w1.heap.size < w1.heap.size + 1 := by omega
    have l5 : w.heap.size < w1.heap.size := by omega
    gi_wp2
    obtain ⟨W1, hW1⟩ : ∃ W1, (w1.alloc (.cells #[.slice a3 ts.length c5] 24)).alloc (.cells (ints (List.replicate ss.length 0)).toArray 3) = W1 := ⟨_, rfl⟩
    have hkW : Keeps All w1 W1 := by rw [← hW1]; exact ((Keeps.refl _ _).alloc _).alloc _
    have rw1 : IsRow W1 w1.heap.size 24 [.slice a3 ts.length c5] := by rw [← hW1]; exact (IsRow.new _ _ _).alloc _
    have rn1 : IsRow W1 (w1.heap.size + 1) 3 (ints (List.replicate ss.length 0)) := by rw [← hW1]; exact IsRow.newAt (by simp)
    have hsW : W1.heap.size = w1.heap.size + 2 := by rw [← hW1]; simp
    rw [hW1]
    clear hW1
    gi_loopw [12, 50] (fun i12 iv wr => ∃ i : Nat, i ≤ ss.length ∧ iv = .int .i64 i ∧ Keeps (fun q => q ≠ w1.heap.size + 1) W1 wr ∧ IsRow wr (w1.heap.size + 1) 3 (ints ((List.range i).map (fun j => ((ts.length + j : Nat) : Int)) ++ List.replicate (ss.length - i) 0))) (fun _ iv _ => ss.length - (intOf iv).toNat)
    case atStart => exact ⟨0, Nat.zero_le _, rfl, Keeps.refl _ _, by simpa using rn1⟩
    case round =>
      obtain ⟨i, hi, rfl, hki, hri⟩ := hrel
      by_cases hlt : i < ss.length
      · obtain ⟨q, hq⟩ : ∃ q, ss.length - i = q + 1 := ⟨ss.length - i - 1, by omega⟩
        rw [hq, List.replicate_succ] at hri
        have f1 : wr.cell? ⟨w1.heap.size + 1, i, none⟩ = some (.int .i64 0) := by
          rw [hri.cell, ints_get, List.getElem?_append_right (by simp)]; simp
        have f2 := hri.frozen i
        have Hq2 := hid hq
        have Hri := hid hri
        clear hq hri
        gi_wp2
        go_roundw
        case rel =>
          refine ⟨i + 1, by omega, by go_num, hki.setCell (fun _ hn => hn rfl) _, ?_⟩
          have h := Hri.out.set i (.int .i64 ((ts.length : Int) + i))
          rw [ints_set, List.set_append_right _ _ (by simp), show i - ((List.range i).map fun j => ((ts.length + j : Nat) : Int)).length = 0 by simp, List.set_cons_zero] at h
          have hq := Hq2.out
          rw [show ss.length - (i + 1) = q by omega, List.range_succ, List.map_append, List.append_assoc]
          simpa using h
        case measure => simp [intOf]; omega
      · obtain rfl : i = ss.length := by omega
        simp only [Nat.sub_self, List.replicate_zero, List.append_nil] at hri
        have hl0 : ((List.range ss.length).map fun j => ((ts.length + j : Nat) : Int)).length = ss.length := by simp
        have f1 : wr.cell? ⟨w1.heap.size + 1, k, none⟩ = some (.int .i64 ((ts.length + k : Nat) : Int)) := by
          rw [hri.cell, ints_get]; simp [hat]
        have f2 := hri.frozen k
        have hrk : IsRow (wr.setCell ⟨w1.heap.size + 1, k, none⟩ (.int .i64 ((ts.length : Int) - 1))) (w1.heap.size + 1) 3 (ints (graftNow ts.length ss.length k)) := by
          rw [graftNow, ← ints_set]; exact hri.set _ _
        obtain ⟨W2, hW2⟩ : ∃ W2, wr.setCell ⟨w1.heap.size + 1, k, none⟩ (.int .i64 ((ts.length : Int) - 1)) = W2 := ⟨_, rfl⟩
        have hk2 : Keeps (fun q => q ≠ w1.heap.size + 1) W1 W2 := by rw [← hW2]; exact hki.setCell (fun _ hn => hn rfl) _
        rw [hW2] at hrk
        have pW2 := (p1.keep hkW trivial).keep hk2 (by omega)
        have wW2 := rw1.keep hk2 (by omega)
        have hks2 := hk2.size
        have hkp2 : Keeps (fun q => q < w'.heap.size) w' W2 := (hk1.sub fun _ _ _ => trivial).trans ((hkW.sub fun _ _ _ => trivial).trans (hk2.sub fun q _ h => by omega))
        have hO2 : OwnIn (fun q => q ≠ w1.heap.size) w'.heap.size W2 (.slice a3 ts.length c5) (ts ++ (ss.take 0).map (renumM (graftNow ts.length ss.length k))) := by
          rw [List.take_zero, List.map_nil, List.append_nil]
          have h1 := (Hown.out.sub (S' := fun q => q < w'.heap.size) fun _ _ h => h).keep hkW (fun _ _ => trivial) (fun _ _ _ _ => trivial)
          exact (h1.keep hk2 (fun q e => by have := hlo.out q e; omega) (fun q _ h _ => by omega)).sub fun q _ h => by omega
        obtain ⟨d1, _⟩ := pW2.one
        have hss : Hid (∀ W, Keeps (fun q => q < w'.heap.size) w' W → IsSteps (fun q => q < w'.heap.size) W (.slice a ss.length c) ss) := fun W hkk => by
          obtain ⟨u2, hu2, hs2⟩ := Hp.out w' hk
          cases hu2
          rw [Hua.out] at hs2
          exact hs2.move hkk fun q hq _ => ⟨hq, hq⟩
        have Hrk := hid hrk
        have HW2 := hid wW2
        have HO2 := hid hO2
        clear hri hki hrk pW2 wW2 hO2
        gi_wp2
        gi_loopw [14, 68] (fun i14 iv wr => ∃ (i : Nat) (v2 : Value), i ≤ ss.length ∧ iv = .int .i64 i ∧ Keeps (fun q => q < w'.heap.size) w' wr ∧ w1.heap.size + 2 ≤ wr.heap.size ∧ IsRow wr (w1.heap.size + 1) 3 (ints (graftNow ts.length ss.length k)) ∧ IsRow wr w1.heap.size 24 [v2] ∧
          OwnIn (fun q => q ≠ w1.heap.size) w'.heap.size wr v2 (ts ++ (ss.take i).map (renumM (graftNow ts.length ss.length k))) ∧ Hid (v2.ownBlock ≠ some w1.heap.size ∧ v2.ownBlock ≠ some (w1.heap.size + 1))) (fun _ iv _ => ss.length - (intOf iv).toNat)
        case atStart =>
          exact ⟨0, _, Nat.zero_le _, rfl, hkp2, by omega, Hrk.out, HW2.out, HO2.out, fun e => by have := hlo.out _ e; omega, fun e => by have := hlo.out _ e; omega⟩
        case round =>
          obtain ⟨i2, v2, hi2, rfl, hkr, hsr, hnr, hwr, hor, hvr⟩ := hrel
          by_cases hlt : i2 < ss.length
          · obtain ⟨b, off, va, rfl, e0, e1, hva⟩ := (hss.out wr hkr).at hlt
            have hva0 := hva
            obtain ⟨a5, c6, rfl⟩ := hva.form
            obtain ⟨s, hs0⟩ : ∃ s, s = renumM (graftNow ts.length ss.length k) ss[i2] := ⟨_, rfl⟩
            have hsl : Hid (ss[i2].label = s.label) := by show _ = _; rw [hs0]; rfl
            have hsa : Hid (ss[i2].args.map (numAt (graftNow ts.length ss.length k)) = s.args) := by show _ = _; rw [hs0]; rfl
            have hsn : Hid (ss[i2].args.length = s.args.length) := by show _ = _; rw [← hsa.out, List.length_map]
            obtain ⟨olds, ho0⟩ : ∃ o, o = ts ++ (ss.take i2).map (renumM (graftNow ts.length ss.length k)) := ⟨_, rfl⟩
            have hnext : Hid (ts ++ (ss.take (i2 + 1)).map (renumM (graftNow ts.length ss.length k)) = olds ++ [s]) := by
              show _ = _
              rw [List.take_succ_eq_append_getElem hlt, List.map_append, ← List.append_assoc, ho0, hs0]; rfl
            have holl : Hid (olds.length = ts.length + i2) := by show _ = _; rw [ho0, List.length_append, List.length_map, List.length_take]; omega
            rw [← ho0] at hor
            obtain ⟨a3, c3, rfl⟩ := hor.form
            obtain ⟨now, hnow⟩ : ∃ now, now = graftNow ts.length ss.length k := ⟨_, rfl⟩
            have hnl : Hid (now.length = ss.length) := by show _ = _; rw [hnow]; exact graftNow_length _ _ _
            have hnb : Hid (∀ y ∈ now, -9223372036854775808 ≤ y ∧ y ≤ 9223372036854775807) := by
              intro y hy
              rw [hnow] at hy
              obtain ⟨j, hj, rfl⟩ := List.getElem_of_mem hy
              have h1 := graftNow_get (n := ts.length) (m := ss.length) (at_ := k) (i := j) hn1 (by rw [graftNow_length] at hj; exact hj)
              unfold numAt at h1
              rw [List.getD_eq_getElem?_getD, Int.toNat_natCast, List.getElem?_eq_getElem hj, Option.getD_some] at h1
              rw [graftNow_length] at hj
              omega
            have hsb : Hid (∀ y ∈ s.args, -9223372036854775808 ≤ y ∧ y ≤ 9223372036854775807) := by
              intro y hy
              rw [← hsa.out] at hy
              obtain ⟨z, hz, rfl⟩ := List.mem_map.1 hy
              have h0 := (hok1.2.2 i2 hlt).2 z hz
              have h1 := graftNow_get (n := ts.length) (m := ss.length) (at_ := k) (i := z.toNat) hn1 (by omega)
              rw [show ((z.toNat : Nat) : Int) = z by omega] at h1
              omega
            rw [← hnow] at hnr hsa
            have Hnow := hid hnow
            clear hs0 ho0 hnow
            have hvl : Hid (∀ q, (Value.slice a3 olds.length c3).ownBlock = some q → w'.heap.size ≤ q ∧ q < wr.heap.size) := fun q e => hor.lt e
            obtain ⟨W0', hW0'⟩ : ∃ W0', wr.alloc (.cells #[.string ss[i2].label, .slice a5 ss[i2].args.length c6] 45) = W0' := ⟨_, rfl⟩
            have hka : Keeps All wr W0' := by rw [← hW0']; exact (Keeps.refl _ _).alloc _
            have rs : IsRow W0' wr.heap.size 45 [.string ss[i2].label, .slice a5 ss[i2].args.length c6] := by rw [← hW0']; exact IsRow.new _ _ _
            have hsz0' : W0'.heap.size = wr.heap.size + 1 := by rw [← hW0']; simp
            have rwb := hwr.keep hka trivial
            have rnb := hnr.keep hka trivial
            have ho1 := hor.keep hka (fun _ _ => trivial) (fun _ _ _ _ => trivial)
            have hva1 := hva0.keep hka fun _ _ h => trivial
            have hvr' := hvr
            gi_wp2
            clear hW0'
            refine wpIn_region_inv (GrReg (fun q => q ≠ w1.heap.size) w'.heap.size w1.heap.size ss[i2].args.length ss[i2].label (.slice a5 ss[i2].args.length c6) (.slice (some ⟨w1.heap.size + 1, 0, none⟩) ss.length ss.length) a3 olds.length c3 olds s) mixed (by kernel_rfl) ?start
              ⟨?o0, ?o1, ?o2, ?o3, ?o4, ?o5, ?o6, ?o7, ?o8, trivial⟩ ?fin
            case start =>
              refine ⟨0, 0, none, 0, by simp only [sIs_nil, sIs_cons, sI_false], ⟨?_, ?_, ?_, ?_, (Keeps.refl _ _).drew, fun _ => (Keeps.refl _ _).drew, ?_, ?_, fun _ => rwb, ?_, ?_, ?_⟩⟩
              all_goals (intro h; cases h)
            case o0 =>
              rintro b' a' w4 hb hd ⟨nb2, tb, a4, c4, rfl, hR⟩
              have hR' := hR.same (c' := mark b' 0) (mark_mono _) (mark_other _ (by decide)) (mark_other _ (by decide)) (mark_other _ (by decide)) (mark_other _ (by decide))
              simp only [sIs_nil, sIs_cons, sI_lit, lset_zero, lset_succ]
              gi_wp2
              refine ⟨nb2, tb, a4, c4, ?_, hR'⟩
              simp [sIs_nil, sIs_cons, sI_lit, lset_zero, lset_succ, mark]
            case o1 =>
              rintro b' a' w4 hb hd ⟨nb2, tb, a4, c4, rfl, hR⟩
              have hR' := hR.same (c' := mark b' 1) (mark_mono _) (mark_other _ (by decide)) (mark_other _ (by decide)) (mark_other _ (by decide)) (mark_other _ (by decide))
              simp [Region.binds] at hd
              have h8 : b' 8 = false := by
                cases h : b' 8 with
                | false => rfl
                | true => rw [hR.ord1 (hR.ord8 h)] at hb; cases hb
              obtain ⟨f1, _⟩ := (hR.box h8).one
              simp only [sIs_nil, sIs_cons, sI_lit, lset_zero, lset_succ]
              gi_wp2
              refine ⟨nb2, tb, a4, c4, ?_, hR'⟩
              simp [sIs_nil, sIs_cons, sI_lit, lset_zero, lset_succ, mark, hd]
            case o2 =>
              rintro b' a' w4 hb hd ⟨nb2, tb, a4, c4, rfl, hR⟩
              have hR' := hR.same (c' := mark b' 2) (mark_mono _) (mark_other _ (by decide)) (mark_other _ (by decide)) (mark_other _ (by decide)) (mark_other _ (by decide))
              obtain ⟨f1, _, f2, _⟩ := (rs.keep hR.keep ⟨by omega, fun e => by have := hvl.out _ e; omega⟩).two
              simp only [sIs_nil, sIs_cons, sI_lit, lset_zero, lset_succ]
              gi_wp2
              refine ⟨nb2, tb, a4, c4, ?_, hR'⟩
              simp [sIs_nil, sIs_cons, sI_lit, lset_zero, lset_succ, mark]
            case o3 =>
              rintro b' a' w4 hb hd ⟨nb2, tb, a4, c4, rfl, hR⟩
              have hR' := hR.same (c' := mark b' 3) (mark_mono _) (mark_other _ (by decide)) (mark_other _ (by decide)) (mark_other _ (by decide)) (mark_other _ (by decide))
              simp only [sIs_nil, sIs_cons, sI_lit, lset_zero, lset_succ]
              gi_wp2
              refine ⟨nb2, tb, a4, c4, ?_, hR'⟩
              simp [sIs_nil, sIs_cons, sI_lit, lset_zero, lset_succ, mark]
            case o7 =>
              rintro b' a' w4 hb hd ⟨nb2, tb, a4, c4, rfl, hR⟩
              have hR' := hR.same (c' := mark b' 7) (mark_mono _) (mark_other _ (by decide)) (mark_other _ (by decide)) (mark_other _ (by decide)) (mark_other _ (by decide))
              simp only [sIs_nil, sIs_cons, sI_lit, lset_zero, lset_succ]
              gi_wp2
              refine ⟨nb2, tb, a4, c4, ?_, hR'⟩
              simp [sIs_nil, sIs_cons, sI_lit, lset_zero, lset_succ, mark]
            case o4 =>
              rintro b' a' w4 hb hd ⟨nb2, tb, a4, c4, rfl, hR⟩
              have hd2 : b' 2 = true := hd { on := 2, ground := Ground.data } (by simp) rfl
              have hd3 : b' 3 = true := hd { on := 3, ground := Ground.data } (by simp) rfl
              have h5 : b' 5 = false := by
                cases h : b' 5 with
                | false => rfl
                | true => rw [hR.ord5 h] at hb; cases hb
              have h6 : b' 6 = false := by
                cases h : b' 6 with
                | false => rfl
                | true => rw [hR.ord6 h] at h5; cases h5
              have h8 : b' 8 = false := by
                cases h : b' 8 with
                | false => rfl
                | true => rw [hR.ord8 h] at h6; cases h6
              have hke := hR.early h6
              have hcall := renumbered_c ss[i2] now (.agg #[.string ss[i2].label, .slice a5 ss[i2].args.length c6]) (.slice (some ⟨w1.heap.size + 1, 0, none⟩) ss.length ss.length) w4 ⟨_, rfl, (hva1.keep hke fun _ _ _ => trivial).sub fun _ _ _ => trivial⟩ ?hn ((hok1.2.2 i2 hlt).1) ?ha
              case hn =>
                have h := (rnb.keep hke trivial).isInts All trivial (by rw [hnl.out]; omega) hnb.out ss.length
                rw [hnl.out] at h
                exact h
              case ha =>
                intro y hy
                have h := (hok1.2.2 i2 hlt).2 y hy
                rw [hnl.out]
                omega
              have HR := hid hR
              clear hR hd
              simp only [sIs_nil, sIs_cons, sI_lit, lset_zero, lset_succ, hd2, hd3, cond_true]
              gi_wp2
              refine ⟨trivial, ?_⟩
              refine (callsIn_wide.2 hcall).mono ?_
              clear hcall
              rintro e w5 ⟨nb', rfl, hnb', hrow, hk5⟩
              gi_wp2
              have hR := HR.out
              refine ⟨nb', tb, a4, c4, by simp [sIs_nil, sIs_cons, sI_lit, lset_zero, lset_succ, mark, hd2, hd3, h5, h6], ?_⟩
              refine ⟨?_, fun _ => mark_self _ _, ?_, ?_, hR.keep.trans (hk5.sub fun _ _ _ => trivial), fun _ => hke.trans hk5, fun _ => ⟨Nat.le_trans hke.size hnb', ?_⟩, ?_, fun _ => (hR.box h8).keep hk5 trivial, ?_, ?_, ?_⟩
              · simp [mark, h6]
              · simp [mark, h6]
              · simp [mark, h8]
              · rw [← hsa.out]; exact hrow
              · simp [mark, h5]
              · simp [mark, h6]
              · simp [mark, h6]
              · simp [mark, h8]
            case o5 =>
              rintro b' a' w4 hb hd ⟨nb2, tb, a4, c4, rfl, hR⟩
              have hd4 : b' 4 = true := hd { on := 4, ground := Ground.data } (by simp) rfl
              have h6 : b' 6 = false := by
                cases h : b' 6 with
                | false => rfl
                | true => rw [hR.ord6 h] at hb; cases hb
              have h8 : b' 8 = false := by
                cases h : b' 8 with
                | false => rfl
                | true => rw [hR.ord8 h] at h6; cases h6
              have HR := hid hR
              clear hR hd
              simp only [sIs_nil, sIs_cons, sI_lit, lset_zero, lset_succ, hd4, cond_true]
              gi_wp2
              have hR := HR.out
              obtain ⟨hc1, hc2⟩ := hR.call hd4
              refine ⟨nb2, w4.heap.size, a4, c4, by simp [sIs_nil, sIs_cons, sI_lit, lset_zero, lset_succ, mark, hd4, h6], ?_⟩
              refine ⟨?_, fun _ => mark_mono _ hd4, ?_, ?_, hR.keep.alloc _, fun _ => (hR.early h6).alloc _, fun _ => ⟨hc1, hc2.alloc _⟩, fun _ _ => ?_, fun _ => (hR.box h8).alloc _, ?_, ?_, ?_⟩
              · simp [mark, h6]
              · simp [mark]
              · simp [mark, h8]
              · rw [← hsl.out, ← hsn.out]; exact IsRow.new _ _ _
              · simp [mark, h6]
              · simp [mark, h6]
              · simp [mark, h8]
            case o6 =>
              rintro b' a' w4 hb hd ⟨nb2, tb, a4, c4, rfl, hR⟩
              have hd1 : b' 1 = true := hd { on := 1, ground := Ground.data } (by simp) rfl
              have hd5 : b' 5 = true := hd { on := 5, ground := Ground.data } (by simp) rfl
              have hd4 := hR.ord5 hd5
              have h8 : b' 8 = false := by
                cases h : b' 8 with
                | false => rfl
                | true => rw [hR.ord8 h] at hb; cases hb
              have hke := hR.early hb
              obtain ⟨t0, t1, _, _⟩ := (hR.tmp hd5 hb).two
              obtain ⟨hc1, hc2⟩ := hR.call hd4
              obtain ⟨vs, hvl2, hown', hvi⟩ := ho1.keep hke (fun _ _ => trivial) (fun _ _ _ _ => trivial)
              obtain ⟨i0, hi0, hz0, hz1, hz2⟩ := info_parts info_step
              have hks4 := hke.size
              have HR := hid hR
              have Hvi := hid hvi
              clear hR hd hvi
              simp only [sIs_nil, sIs_cons, sI_lit, lset_zero, lset_succ, hd1, hd5, cond_true]
              refine wpListIn_append_where _ rfl (.tmp 73) (.tmp 77) 22 rfl w'.heap.size 45 i0 _ 2 40 Tryd.underlying22 hi0 hz0 hz1 hz2 rfl (by decide) _ _ _ rfl hown' ⟨tb, 0, none⟩ 1 1 [.string s.label, .slice (some ⟨nb2, 0, none⟩) s.args.length s.args.length] rfl rfl ?c1 ?c2 ?c3 ?c4 ?c5 ?_
              case c1 =>
                intro j u hu
                have hadd : (⟨tb, 0, none⟩ : Addr).add j = ⟨tb, j, none⟩ := by unfold Addr.add; split <;> simp_all
                rw [hadd]
                rcases j with _ | _ | j
                · simp at hu; subst hu; exact t0
                · simp at hu; subst hu; exact t1
                · simp at hu
              case c2 => intro u hu; simp at hu; rcases hu with rfl | rfl <;> rfl
              case c3 => have := holl.out; unfold maxLen; omega
              case c4 => have := holl.out; omega
              case c5 => omega
              intro v' w5 hown3 hg3 hw3
              obtain ⟨g', cap', rfl⟩ := ownsRow_succ hown3
              refine ⟨nb2, tb, some ⟨g', 0, none⟩, cap', ?_, ?_⟩
              · simp [Act.put, sIs_nil, sIs_cons, sI_lit, lset_zero, lset_succ, mark, hd1, hd5]
              have hR := HR.out
              have hkw : Keeps (fun q => (Value.slice a3 olds.length c3).ownBlock ≠ some q) w4 w5 := ⟨hg3.os, hg3.tape, hg3.output, hg3.size, fun q hlt hs => hg3.block q hlt (fun e => hs e.symm)⟩
              have hnbo : (Value.slice a3 olds.length c3).ownBlock ≠ some nb2 := fun e => by have := hvl.out _ e; omega
              refine ⟨fun _ => mark_mono _ hd1, ?_, fun _ => mark_mono _ hd5, ?_, hR.keep.trans (hkw.sub fun _ _ h => h.2), ?_, fun _ => ⟨hc1, hc2.keep hkw hnbo⟩, ?_, fun _ => (hR.box h8).keep hkw hvr'.out.1, fun _ => ?_, fun _ => ?_, ?_⟩
              · simp [mark, hd4]
              · simp [mark]
              · simp [mark]
              · simp [mark]
              · refine OwnIn.snoc (va := .slice (some ⟨nb2, 0, none⟩) s.args.length s.args.length) hvl2 Hvi.out ?_ hown3 hg3 ?_
                · exact hc2.isInts _ ⟨by omega, hnbo⟩ (by rw [← hsn.out]; have := (hok1.2.2 i2 hlt).1; omega) hsb.out _
                · rcases hw3 with h | h
                  · exact Or.inl h
                  · exact Or.inr fun q hq => by rw [h] at hq; cases hq; omega
              · rcases hw3 with h | h
                · exact Or.inl h
                · exact Or.inr fun q hq => by rw [h] at hq; cases hq; omega
              · simp [mark, h8]
            case o8 =>
              rintro b' a' w4 hb hd ⟨nb2, tb, a4, c4, rfl, hR⟩
              have hd6 : b' 6 = true := hd { on := 6, ground := Ground.data } (by simp) rfl
              have hd7 : b' 7 = true := hd { on := 7, ground := Ground.data } (by simp) rfl
              have hd5 := hR.ord6 hd6
              have hd4 := hR.ord5 hd5
              have hd1 := hR.ord1 hd6
              obtain ⟨f1, f2⟩ := (hR.box hb).one
              have HR := hid hR
              clear hR hd
              simp only [sIs_nil, sIs_cons, sI_lit, lset_zero, lset_succ, hd6, hd7, cond_true]
              gi_wp2
              have hR := HR.out
              obtain ⟨hc1, hc2⟩ := hR.call hd4
              have hkw : Keeps (fun q => q ≠ w1.heap.size) w4 (w4.setCell ⟨w1.heap.size, 0, none⟩ (.slice a4 (olds.length + 1) c4)) := (Keeps.refl _ _).setCell (fun _ hn => hn rfl) _
              have hout := hR.out hd6
              refine ⟨nb2, tb, a4, c4, ?_, ?_⟩
              · simp [sIs_nil, sIs_cons, sI_lit, lset_zero, lset_succ, mark, hd6, hd7]
              refine ⟨fun _ => mark_mono _ hd1, fun _ => mark_mono _ hd4, fun _ => mark_mono _ hd5, fun _ => mark_mono _ hd6, hR.keep.trans (hkw.sub fun _ _ h => h.1), ?_, fun _ => ⟨hc1, hc2.keep hkw (by omega)⟩, ?_, ?_, fun _ => hout.keep hkw (fun q e => ?_) (fun q _ h _ => h), fun _ => hR.whr hd6, fun _ => (hR.box hb).set 0 _⟩
              · simp [mark, hd6]
              · simp [mark, hd6]
              · simp [mark]
              · rcases hR.whr hd6 with h | h
                · rw [h] at e; exact fun e2 => hvr'.out.1 (by rw [← e2]; exact e)
                · have := h q e; omega
            case fin =>
              rintro b' a' w4 hb ⟨nb2, tb, a4, c4, rfl, hR⟩
              have e0 := hb 0 (by decide)
              have e1 := hb 1 (by decide)
              have e2 := hb 2 (by decide)
              have e3 := hb 3 (by decide)
              have e4 := hb 4 (by decide)
              have e5 := hb 5 (by decide)
              have e6 := hb 6 (by decide)
              have e7 := hb 7 (by decide)
              have hout := hR.out e6
              have hdone := hR.done (hb 8 (by decide))
              have hwr2 := hid (hR.whr e6)
              have hkeep := hR.keep
              clear hb hR
              simp only [sIs_nil, sIs_cons, sI_lit, lset_zero, lset_succ, e0, e1, e2, e3, e4, e5, e6, e7, cond_true]
              gi_wp2
              go_roundw
              case rel =>
                have hks4 := hkeep.size
                refine ⟨i2 + 1, _, by omega, by go_num, ?_, by omega, ?_, hdone, by rw [hnext.out]; exact hout, ?_⟩
                · refine hkr.trans ((hka.sub fun _ _ _ => trivial).trans (hkeep.sub fun q _ hq => ⟨by omega, fun e => by have := hvl.out q e; omega⟩))
                · rw [← Hnow.out]; exact rnb.keep hkeep ⟨by omega, hvr'.out.2⟩
                · rcases hwr2.out with h | h
                  · rw [Hid, h]; exact hvr'.out
                  · exact ⟨fun e => by have := h _ e; omega, fun e => by have := h _ e; omega⟩
              case measure => simp [intOf]; omega
          · obtain rfl : i2 = ss.length := by omega
            rw [List.take_length] at hor
            have hWe : graftW ss k ts = ts ++ ss.map (renumM (graftNow ts.length ss.length k)) := rfl
            rw [← hWe] at hor
            have hwl : (graftW ss k ts).length = ts.length + ss.length := by simp [graftW]
            obtain ⟨g, cap, hv2, hcap1, hcap2⟩ := hor.place (by omega)
            rw [hwl] at hv2 hcap1
            subst hv2
            have hsteps := hor.isSteps (T := fun q => q ≠ w1.heap.size) (by omega) (fun q e => fun e2 => hvr.out.1 (by rw [← e2]; exact e)) (fun q h => h)
            have Hor := hid hor
            have hmax : Hid (maxLen = 9223372036854775807) := by show _ = _; decide
            have hfirst := hsteps.first (k := ts.length) (by omega)
            have hfq : (graftW ss k ts).take ts.length = ts := by simp [graftW]
            rw [hfq] at hfirst
            have r3 : IsRow wr (w.heap.size + 2) 24 [.slice none 0 0] := ((r2.keep hk trivial).keep hkr (by omega))
            have p3 : IsRow wr w.heap.size 24 [.slice a ss.length c] := by rw [← Hua.out]; exact (r0.keep hk trivial).keep hkr (by omega)
            obtain ⟨d2, _⟩ := p3.one
            obtain ⟨d3, d4⟩ := hwr.one
            have hkall : Hid (Keeps All w wr) := (hk0.trans hk).upto hkr fun q hq => by omega
            have Hst := hid hsteps
            have Hfi := hid hfirst
            clear hWe hfq hor hsteps hfirst
            have hgm : Okay (graftM ss k ts) := graftM_okay hok1 hok2 k (by omega)
            have hshl : (shareM (graftM ss k ts)).length ≤ 2000 := (shareM_okay hgm).2.1
            have Hgm := hid hgm
            clear hgm
            by_cases hlast : k + 1 = ss.length
            · have hgeq : Hid (graftM ss k ts = ts) := by show _ = _; rw [graftM, if_pos hlast]
              have hbeq : ((k : Int) == (ss.length : Int) - 1) = true := by simp; omega
              clear hlast
              have hcap3 : ts.length ≤ cap := by omega
              gi_wp2
              have hkX : Keeps (fun q => q ≠ w1.heap.size) wr (wr.setCell ⟨w1.heap.size, 0, none⟩ (.slice (some ⟨g, 0, none⟩) ts.length cap)) := (Keeps.refl _ _).setCell (fun _ hn => hn rfl) _
              have hXall : Keeps All w (wr.setCell ⟨w1.heap.size, 0, none⟩ (.slice (some ⟨g, 0, none⟩) ts.length cap)) := hkall.out.upto hkX fun q hq => by omega
              have rX := r3.keep hkX (by omega)
              have hcall := share_c (graftM ss k ts) (.agg #[.slice (some ⟨g, 0, none⟩) ts.length cap]) _ ⟨_, rfl, by rw [hgeq.out]; exact (Hfi.out.keep hkX fun q _ h => h).sub fun _ _ _ => trivial⟩ Hgm.out (Ht.out.keep hXall)
              refine ⟨trivial, ?_⟩
              refine (callsIn_wide.2 hcall).mono ?_
              clear hcall
              rintro e w6 ⟨vr, rfl, ⟨u6, rfl, hs6⟩, hk6⟩
              obtain ⟨a6, c6, rfl⟩ := hs6.form
              have r6 := rX.keep hk6 trivial
              obtain ⟨g1, g2⟩ := r6.one
              have l6 := r6.lt
              have l7 : w.heap.size + 1 + 1 < w6.heap.size := l6
              have hHs6 := hid hs6
              generalize hlr : (shareM (graftM ss k ts)).length = lr at hs6 hshl
              have Hlr := hid hlr
              clear hs6 hlr
              gi_wp2
              have hkw : Keeps (fun q => q ≠ w.heap.size + 2) w6 ((w6.setCell ⟨w.heap.size + 1 + 1, 0, none⟩ (.slice a6 lr c6)).alloc (.cells #[.slice a6 lr c6] 24)) := ((Keeps.refl _ _).setCell (fun _ hn => hn rfl) _).alloc _
              have k2 := ((r6.set 0 (.slice a6 lr c6)).alloc (.cells #[.slice a6 lr c6] 24)).one
              refine bodyPost_ret (v := .tuple #[.agg #[.slice a6 lr c6], .int .i64 0]) (by simp [results, Tryd.results14, go_sem, k2]) rfl ⟨_, rfl, ⟨_, rfl, ?_⟩, ?_⟩
              · have h := hHs6.out
                rw [Hlr.out] at h
                exact h.move hkw fun q _ hq => ⟨by have := rX.lt; omega, trivial⟩
              · exact (hXall.trans hk6).upto hkw fun q hq => by omega
            · have hgeq : Hid (graftM ss k ts = graftW ss k ts) := by show _ = _; rw [graftM, if_neg hlast]
              have hbeq : ((k : Int) == (ss.length : Int) - 1) = false := by simp; omega
              clear hlast
              gi_wp2
              have hXall := hkall.out
              have rX := r3
              have hst2 := Hst.out
              have hcall := share_c (graftM ss k ts) (.agg #[.slice (some ⟨g, 0, none⟩) (ts.length + ss.length) cap]) wr ⟨_, rfl, by rw [hgeq.out]; exact hst2.sub fun _ _ _ => trivial⟩ Hgm.out (Ht.out.keep hXall)
              refine ⟨trivial, ?_⟩
              refine (callsIn_wide.2 hcall).mono ?_
              clear hcall
              rintro e w6 ⟨vr, rfl, ⟨u6, rfl, hs6⟩, hk6⟩
              obtain ⟨a6, c6, rfl⟩ := hs6.form
              have r6 := rX.keep hk6 trivial
              obtain ⟨g1, g2⟩ := r6.one
              have l6 := r6.lt
              have l7 : w.heap.size + 1 + 1 < w6.heap.size := l6
              have hHs6 := hid hs6
              generalize hlr : (shareM (graftM ss k ts)).length = lr at hs6 hshl
              have Hlr := hid hlr
              clear hs6 hlr
              gi_wp2
              have hkw : Keeps (fun q => q ≠ w.heap.size + 2) w6 ((w6.setCell ⟨w.heap.size + 1 + 1, 0, none⟩ (.slice a6 lr c6)).alloc (.cells #[.slice a6 lr c6] 24)) := ((Keeps.refl _ _).setCell (fun _ hn => hn rfl) _).alloc _
              have k2 := ((r6.set 0 (.slice a6 lr c6)).alloc (.cells #[.slice a6 lr c6] 24)).one
              refine bodyPost_ret (v := .tuple #[.agg #[.slice a6 lr c6], .int .i64 0]) (by simp [results, Tryd.results14, go_sem, k2]) rfl ⟨_, rfl, ⟨_, rfl, ?_⟩, ?_⟩
              · have h := hHs6.out
                rw [Hlr.out] at h
                exact h.move hkw fun q _ hq => ⟨by have := rX.lt; omega, trivial⟩
              · exact (hXall.trans hk6).upto hkw fun q hq => by omega

end Go.Proofs.YtcbmljfgmeeadaaDoor
