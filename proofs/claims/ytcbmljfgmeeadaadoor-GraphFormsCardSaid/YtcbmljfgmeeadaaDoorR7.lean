/-
  CONTRACT: the reference's Merged.
-/
import Derived.Test.YtcbmljfgmeeadaaDoorR6
import Derived.Test.YtcbmljfgmeeadaaDoorJG
import Derived.Test.YtcbmljfgmeeadaaDoorG17
namespace Go.Proofs.YtcbmljfgmeeadaaDoor
open Go.RowKit

attribute [local go_sem] Oper.semAt_some

theorem cell_lt {w : World} {p : Addr} {v : Value} (h : w.cell? p = some v) : p.block < w.heap.size := by
  unfold World.cell? at h
  cases hb : w.heap[p.block]? with
  | none => simp [hb] at h
  | some o => exact (Array.getElem?_eq_some_iff.1 hb).1

theorem idxOf_first {os : List Stp} {s : Stp} {t : Nat} (h : ∀ j, j < t → os[j]? ≠ some s) (ht : os[t]? = some s) : os.idxOf s = t := by
  have hm : s ∈ os := List.mem_of_getElem? ht
  have hl := List.idxOf_lt_length_iff.2 hm
  have hg : os[os.idxOf s]? = some s := by rw [List.getElem?_eq_getElem hl, List.getElem_idxOf]
  rcases Nat.lt_trichotomy (os.idxOf s) t with h1 | h1 | h1
  · exact absurd hg (h _ h1)
  · exact h1
  · have htl : t < os.length := by omega
    have := List.not_of_lt_findIdx (p := (· == s)) (xs := os) (i := t) h1
    rw [List.getElem?_eq_getElem htl] at ht
    simp [Option.some.inj ht] at this
theorem not_mem_first {os : List Stp} {s : Stp} (h : ∀ j, j < os.length → os[j]? ≠ some s) : s ∉ os := fun hm => by
  have hl := List.idxOf_lt_length_iff.2 hm
  exact h _ hl (by rw [List.getElem?_eq_getElem hl, List.getElem_idxOf])

/-- The region that appends an Arg's new number to the step in the box. -/
def MgA (B6 i k y gn : Nat) (lv nowv : Value) (sa aa : Addr) (xv : Value) (lab : ByteArray) (a2 : Option Addr) (c2 : Nat) (d : Int) (xs : List Int) (T : Array Value) (W0 : World) (b : Nat → Bool) (a' : Act) (w' : World) : Prop :=
  ∃ (tb g' c' : Nat), a' = Act.mk (sIs T [(b 0, 33, .pointer (some ⟨B6, 1, none⟩)), (b 1, 34, .slice a2 k c2), (b 2, 35, nowv), (b 3, 36, lv), (b 4, 37, .int .i64 (i : Int)), (b 5, 38, .pointer (some sa)), (b 6, 39, .pointer (some ⟨sa.block, sa.off + 1, none⟩)), (b 7, 40, xv), (b 8, 41, .int .i64 (k : Int)),
      (b 9, 42, .pointer (some aa)), (b 10, 43, .int .i64 (y : Int)), (b 11, 44, .pointer (some ⟨gn, y, none⟩)), (b 12, 45, .int .i64 d), (b 13, 46, .slice (some ⟨tb, 0, none⟩) 1 1), (b 14, 47, .slice (some ⟨g', 0, none⟩) (k + 1) c'), (b 15, 48, .pointer (some ⟨B6, 1, none⟩))]) [] ∧
    Keeps (fun q => (Value.slice a2 k c2).ownBlock ≠ some q ∧ q ≠ B6) W0 w' ∧ (b 14 = false → Keeps All W0 w') ∧ (b 13 = true → b 14 = false → IsRow w' tb 3 [.int .i64 d]) ∧
    (b 14 = true → w'.ownsRow (B6 + 1) 3 1 (.slice (some ⟨g', 0, none⟩) (k + 1) c') (k + 1) (ints (xs ++ [d]))) ∧
    IsRow w' B6 45 [.string lab, bif b 16 then .slice (some ⟨g', 0, none⟩) (k + 1) c' else .slice a2 k c2] ∧ (b 14 = true → b 1 = true) ∧ (b 14 = true → b 13 = true) ∧ (b 16 = true → b 14 = true)

theorem OwnIn.swap {l2 lo gn gn' : Nat} {W W' : World} {ov : Value} {outs : List Stp} (h : OwnIn (fun q => l2 ≤ q ∧ q ≠ gn) lo W ov outs) (hk : Keeps (fun q => q ≠ gn) W W') (ho : ov.ownBlock ≠ some gn) (hg : gn' = gn ∨ W.heap.size ≤ gn') : OwnIn (fun q => l2 ≤ q ∧ q ≠ gn') lo W' ov outs := by
  have h1 := h.sub (S' := fun q => (l2 ≤ q ∧ q ≠ gn') ∧ q ≠ gn) fun q hq h => ⟨⟨h.1, by
    rcases hg with e | e
    · rw [e]; exact h.2
    · omega⟩, h.2⟩
  exact (h1.keep hk (fun q e e2 => by subst e2; exact ho e) fun q _ h _ => h.2).sub fun q _ h => h.1

/-- The region that compares a step with the one in the box. -/
def MgB (t m : Nat) (ov : Value) (oa : Addr) (s1 s2 : Value) (d : Bool) (T : Array Value) (W0 : World) (b : Nat → Bool) (a' : Act) (w' : World) : Prop :=
  a' = Act.mk (sIs T [(b 0, 49, .int .i64 (t : Int)), (b 1, 50, ov), (b 2, 51, .int .i64 (m : Int)), (b 3, 52, .bool true), (b 4, 53, .bool true), (b 5, 54, ov), (b 6, 55, .int .i64 (t : Int)), (b 7, 56, .pointer (some oa)), (b 8, 57, s1), (b 9, 58, s2), (b 10, 59, .bool d), (b 11, 60, .bool !d), (b 12, 61, .bool !d)]) [] ∧ Keeps All W0 w'
def MgB' (t m : Nat) (ov : Value) (T : Array Value) (W0 : World) (b : Nat → Bool) (a' : Act) (w' : World) : Prop :=
  a' = Act.mk (sIs T [(b 0, 49, .int .i64 (t : Int)), (b 1, 50, ov), (b 2, 51, .int .i64 (m : Int)), (b 3, 52, .bool false), (b 4, 53, .bool false), (b 5, 54, undef), (b 6, 55, undef), (b 7, 56, undef), (b 8, 57, undef), (b 9, 58, undef), (b 10, 59, undef), (b 11, 60, undef), (b 12, 61, .bool false)]) [] ∧ Keeps All W0 w'

set_option maxHeartbeats 8000000 in
theorem rMerged_c (ss : List Stp) (hok : Okay ss) (v : Value) (w : World) (hv : IsSteps All w v ss) :
    Calls Tryd.prog 62 #[v] w fun e w' => ∃ (g c gn cn : Nat), e = .returned (.agg #[.slice (some ⟨g, 0, none⟩) (mgTo ss ss.length).1.length c, .slice (some ⟨gn, 0, none⟩) ss.length cn]) ∧ (mgTo ss ss.length).1.length ≤ c ∧ c ≤ maxLen ∧
      IsSteps All w' (.slice (some ⟨g, 0, none⟩) (mgTo ss ss.length).1.length c) (mgTo ss ss.length).1 ∧ w'.ownsRow (w.heap.size + 1) 3 1 (.slice (some ⟨gn, 0, none⟩) ss.length cn) ss.length (ints (mgTo ss ss.length).2) ∧ Keeps All w w' := by
  obtain ⟨a, cap, rfl⟩ := hv.form
  have hlen : ss.length ≤ 2000 := hok.2.1
  have Hs := hid hv
  have Hok := hid hok
  obtain ⟨w0, hw0⟩ : ∃ w0, ((w.alloc (.cells #[.slice none 0 0, .slice none 0 0] 84)).alloc (.cells #[] 45)).alloc (.cells #[] 3) = w0 := ⟨_, rfl⟩
  have hk0 : Keeps All w w0 := by rw [← hw0]; exact (((Keeps.refl _ _).alloc _).alloc _).alloc _
  have hs0 : w0.heap.size = w.heap.size + 3 := by rw [← hw0]; simp
  have rr0 : IsRow w0 w.heap.size 84 [.slice none 0 0, .slice none 0 0] := by rw [← hw0]; exact ((IsRow.new _ _ _).alloc _).alloc _
  have ro0 : w0.ownsRow (w.heap.size + 1) 45 2 (.slice (some ⟨w.heap.size + 1, 0, none⟩) 0 0) 0 [] := by
    have h := (owns_none_step (w.alloc (.cells #[.slice none 0 0, .slice none 0 0] 84)) (w.heap.size + 1) (by simp)).alloc (.cells #[] 3)
    rw [World.size_alloc] at h
    rw [← hw0]; exact h
  have ra0 : w0.ownsRow (w.heap.size + 1) 3 1 (.slice (some ⟨w.heap.size + 2, 0, none⟩) 0 0) 0 (ints []) := by
    have h := owns_none_int ((w.alloc (.cells #[.slice none 0 0, .slice none 0 0] 84)).alloc (.cells #[] 45)) (w.heap.size + 1) (by simp)
    rw [World.size_alloc, World.size_alloc] at h
    rw [← hw0]; exact h
  have Ho0 := hid ro0
  have Ha0 := hid ra0
  have Hs0 := hid hs0
  clear hv hok ro0 ra0 hs0
  refine (callsIn_wide (n := 5)).1 ?_
  refine callsIn_of_wp Tryd.func62 rfl trivial ?_ rfl
  simp only [Tryd.ntmps62, List.size_toArray, List.length_cons, List.length_nil, Nat.reduceAdd, Nat.reduceSub, Array.replicate_succ, Array.replicate_zero, List.push_toArray, List.append_toArray, List.nil_append, List.cons_append]
  gi_wp2
  gi_loopw [3, 4, 5] (fun ov nv iv wr => ∃ (i go m co gn cn : Nat), i ≤ ss.length ∧ iv = .int .i64 i ∧ ov = .slice (some ⟨go, 0, none⟩) m co ∧ nv = .slice (some ⟨gn, 0, none⟩) i cn ∧ Hid (m = (mgTo ss i).1.length) ∧ Keeps All w wr ∧ w.heap.size + 3 ≤ wr.heap.size ∧
    IsRow wr w.heap.size 84 [.slice none 0 0, .slice none 0 0] ∧ OwnIn (fun q => w.heap.size + 1 ≤ q ∧ q ≠ gn) (w.heap.size + 1) wr (.slice (some ⟨go, 0, none⟩) m co) (mgTo ss i).1 ∧
    wr.ownsRow (w.heap.size + 1) 3 1 (.slice (some ⟨gn, 0, none⟩) i cn) i (ints (mgTo ss i).2) ∧ go ≠ gn) (fun _ _ iv _ => ss.length - (intOf iv).toNat)
  case atStart =>
    exact ⟨0, w.heap.size + 1, 0, 0, w.heap.size + 2, 0, Nat.zero_le _, rfl, rfl, rfl, by simp [Hid, mgTo], hk0, Nat.le_of_eq Hs0.out.symm, rr0, ⟨[], rfl, by simpa [mgTo, stepCells] using Ho0.out, fun i h => by simp [mgTo] at h⟩, by simpa [mgTo] using Ha0.out, by omega⟩
  case round =>
    obtain ⟨i, go, m, co, gn, cn, hi, rfl, rfl, rfl, hm, hkw, hsz, hrr, hol, hoa, hne⟩ := hrel
    have hmst := mgTo_st Hok.out i hi
    by_cases hlt : i < ss.length
    · obtain ⟨b, off, va, hab, e0, e1, hva⟩ := (Hs.out.keep hkw fun _ _ h => h).at hlt
      subst hab
      have hsucc := hid (mgTo_succ hlt)
      have hr40 := (Hok.out.2.2 i hlt).1
      have hrange := hid ((Hok.out.2.2 i hlt).2)
      have hsi : Hid (ss[i] = ⟨ss[i].label, ss[i].args⟩) := rfl
      have hml : m ≤ 2000 := by rw [hm.out]; have := hmst.olen; omega
      have hnl := hid hmst.len
      have hat := hid hmst.at_
      have holen := hid hmst.olen
      obtain ⟨outs, hou⟩ : ∃ outs, (mgTo ss i).1 = outs := ⟨_, rfl⟩
      obtain ⟨now, hno⟩ : ∃ now, (mgTo ss i).2 = now := ⟨_, rfl⟩
      rw [hou] at hm hol hat holen
      rw [hno] at hoa hnl hat
      have Hou := hid hou
      have Hno := hid hno
      clear hou hno hmst
      generalize hxs : ss[i].args = xs at *
      generalize hlab : ss[i].label = lab at *
      obtain ⟨xa, xc, rfl⟩ := hva.form
      have hgn := hoa.lt gn rfl
      have hgo := hol.lt (k := go) rfl
      obtain ⟨wo, rfl⟩ : ∃ wo : World, wo = wr := ⟨_, rfl⟩
      obtain ⟨W1, hW1⟩ : ∃ W1, wo.alloc (.cells #[.string lab, .slice none 0 0] 45) = W1 := ⟨_, rfl⟩
      have hk1 : Keeps All wo W1 := by rw [← hW1]; exact (Keeps.refl _ _).alloc _
      have hs1 : W1.heap.size = wo.heap.size + 1 := by rw [← hW1]; simp
      have rb1 : IsRow W1 wo.heap.size 45 [.string lab, .slice none 0 0] := by rw [← hW1]; exact IsRow.new _ _ _
      have Hs1 := hid hs1
      have Hxs := hid hxs
      have Hlab := hid hlab
      have Hva := hid hva
      have Hol := hid hol
      have Hoa := hid hoa
      have HW1 := hid hW1
      clear hs1 hxs hlab hva hol hoa hW1
      gi_wp2
      rw [HW1.out]
      gi_loopw [7] (fun kv wr => ∃ (k : Nat) (a2 : Option Addr) (c2 : Nat), k ≤ xs.length ∧ kv = .int .i64 k ∧ Keeps (fun q => q ≠ wo.heap.size) W1 wr ∧ IsRow wr wo.heap.size 45 [.string lab, .slice a2 k c2] ∧ wr.ownsRow (wo.heap.size + 1) 3 1 (.slice a2 k c2) k (ints ((xs.take k).map (numAt now)))) (fun kv _ => xs.length - (intOf kv).toNat)
      case atStart => exact ⟨0, none, 0, Nat.zero_le _, rfl, Keeps.refl _ _, rb1, World.ownsRow_nil _ _ _ _⟩
      case round =>
        obtain ⟨k, a2, c2, hk, rfl, hkj, hrb, hown⟩ := hrel
        have hkwj : Keeps (fun q => q ≠ wo.heap.size) wo wr := (hk1.sub fun _ _ _ => trivial).trans hkj
        have hsj := hkj.size
        have g1 : wr.cell? ⟨b, off + i * 2 + 1, none⟩ = some (.slice xa xs.length xc) := hkwj.cell (p := ⟨b, off + i * 2 + 1, none⟩) (by have := cell_lt e1; show b ≠ _; exact Nat.ne_of_lt this) e1
        by_cases hkl : k < xs.length
        · obtain ⟨b2, off2, rfl, d3⟩ := Hva.out.at hkl
          have d3' : wr.cell? ⟨b2, off2 + k, none⟩ = some (.int .i64 xs[k]) := hkwj.cell (p := ⟨b2, off2 + k, none⟩) (by have := cell_lt d3; show b2 ≠ _; exact Nat.ne_of_lt this) d3
          have hr := hrange.out xs[k] (List.getElem_mem hkl)
          obtain ⟨y, hy⟩ : ∃ y : Nat, xs[k] = (y : Int) := ⟨xs[k].toNat, by omega⟩
          have hyi : y < i := by omega
          obtain ⟨d, hd1, hd2, _⟩ := hat.out y hyi
          have hnum : Hid ((xs.take (k + 1)).map (numAt now) = (xs.take k).map (numAt now) ++ [(d : Int)]) := by
            rw [Hid, List.take_succ_eq_append_getElem hkl, List.map_append, hy]
            simp [numAt, hd1]
          have hoa2 := owns_keep Hoa.out hkwj fun q e => by cases e; show gn ≠ _; omega
          have d4 : wr.cell? ⟨gn, y, none⟩ = some (.int .i64 (d : Int)) := by
            have hyl : y < now.length := by rw [hnl.out]; exact hyi
            rw [owns_int_at hoa2 hyl]
            rw [List.getElem?_eq_getElem hyl] at hd1
            rw [Option.some.inj hd1]
          have hd3 : d ≤ 2000 := by have := holen.out; omega
          have hlk : Hid (((xs.take k).map (numAt now)).length = k) := by simp [Hid]; omega
          rw [hy] at d3'
          obtain ⟨f1, f2, f3, f4⟩ := hrb.two
          have hblt : b ≠ wo.heap.size := Nat.ne_of_lt (cell_lt e1)
          have hb2lt : b2 ≠ wo.heap.size := Nat.ne_of_lt (cell_lt d3)
          have hbl := cell_lt e1
          have hb2l := cell_lt d3
          have Hown := hid hown
          have hln : i < ss.length := hlt
          clear hy hr hd1 hd2 hoa2 hown f1 f2 f3 f4 d3
          obtain ⟨asq, hasq⟩ : ∃ asq, (xs.take k).map (numAt now) = asq := ⟨_, rfl⟩
          rw [hasq] at Hown hnum hlk
          clear hasq
          have hlo : ∀ q, q < wo.heap.size + 1 → (Value.slice a2 k c2).ownBlock ≠ some q := fun q hq e => by have := (Hown.out.lt q e).1; omega
          have hB := hrb.lt
          gi_wp2
          refine wpIn_region_inv (MgA wo.heap.size i k y gn (.slice (some ⟨b, off, none⟩) ss.length cap) (.slice (some ⟨gn, 0, none⟩) i cn) ⟨b, off + i * 2, none⟩ ⟨b2, off2 + k, none⟩ (.slice (some ⟨b2, off2, none⟩) xs.length xc) lab a2 c2 (d : Int) asq) mixed (by kernel_rfl) ?start ⟨?o0, ?o1, ?o2, ?o3, ?o4, ?o5, ?o6, ?o7, ?o8, ?o9, ?o10, ?o11, ?o12, ?o13, ?o14, ?o15, ?o16, trivial⟩ ?fin
          case start =>
            refine ⟨0, 0, 0, by simp only [sIs_nil, sIs_cons, sI_false], (Keeps.refl _ _).drew, fun _ => (Keeps.refl _ _).drew, ?_, ?_, hrb, ?_, ?_, ?_⟩
            all_goals (intro h; cases h)
          case o0 =>
            rintro b' a' w8 hb hd ⟨tb, g2, c4, rfl, hk8, hea8, htm8, hout8, hbx8, h141, h1413, h1614⟩
            simp only [sIs_nil, sIs_cons, sI_lit, lset_zero, lset_succ]
            gi_wp2
            refine ⟨tb, g2, c4, by simp [sIs_nil, sIs_cons, sI_lit, lset_zero, lset_succ, mark], hk8, ?_, ?_, ?_, ?_, ?_, ?_, ?_⟩
            all_goals (simp only [mark, if_false, Nat.reduceEqDiff]; assumption)
          case o1 =>
            rintro b' a' w8 hb hd ⟨tb, g2, c4, rfl, hk8, hea8, htm8, hout8, hbx8, h141, h1413, h1614⟩
            simp [Region.binds] at hd
            have n14 : b' 14 = false := by
              cases h : b' 14 with
              | false => rfl
              | true => rw [h141 h] at hb; cases hb
            have n16 : b' 16 = false := by
              cases h : b' 16 with
              | false => rfl
              | true => rw [h1614 h] at n14; cases n14
            have hbx := hbx8
            rw [n16, cond_false] at hbx
            obtain ⟨f1, f2, _, _⟩ := hbx.two
            simp only [sIs_nil, sIs_cons, sI_lit, lset_zero, lset_succ, hd, cond_true]
            gi_wp2
            refine ⟨tb, g2, c4, by simp [sIs_nil, sIs_cons, sI_lit, lset_zero, lset_succ, mark, hd], hk8, ?_, ?_, ?_, ?_, fun _ => mark_self _ _, ?_, ?_⟩
            all_goals (simp only [mark, if_false, Nat.reduceEqDiff]; assumption)
          case o2 =>
            rintro b' a' w8 hb hd ⟨tb, g2, c4, rfl, hk8, hea8, htm8, hout8, hbx8, h141, h1413, h1614⟩
            simp only [sIs_nil, sIs_cons, sI_lit, lset_zero, lset_succ]
            gi_wp2
            refine ⟨tb, g2, c4, by simp [sIs_nil, sIs_cons, sI_lit, lset_zero, lset_succ, mark], hk8, ?_, ?_, ?_, ?_, ?_, ?_, ?_⟩
            all_goals (simp only [mark, if_false, Nat.reduceEqDiff]; assumption)
          case o3 =>
            rintro b' a' w8 hb hd ⟨tb, g2, c4, rfl, hk8, hea8, htm8, hout8, hbx8, h141, h1413, h1614⟩
            simp only [sIs_nil, sIs_cons, sI_lit, lset_zero, lset_succ]
            gi_wp2
            refine ⟨tb, g2, c4, by simp [sIs_nil, sIs_cons, sI_lit, lset_zero, lset_succ, mark], hk8, ?_, ?_, ?_, ?_, ?_, ?_, ?_⟩
            all_goals (simp only [mark, if_false, Nat.reduceEqDiff]; assumption)
          case o4 =>
            rintro b' a' w8 hb hd ⟨tb, g2, c4, rfl, hk8, hea8, htm8, hout8, hbx8, h141, h1413, h1614⟩
            simp only [sIs_nil, sIs_cons, sI_lit, lset_zero, lset_succ]
            gi_wp2
            refine ⟨tb, g2, c4, by simp [sIs_nil, sIs_cons, sI_lit, lset_zero, lset_succ, mark], hk8, ?_, ?_, ?_, ?_, ?_, ?_, ?_⟩
            all_goals (simp only [mark, if_false, Nat.reduceEqDiff]; assumption)
          case o5 =>
            rintro b' a' w8 hb hd ⟨tb, g2, c4, rfl, hk8, hea8, htm8, hout8, hbx8, h141, h1413, h1614⟩
            simp [Region.binds] at hd
            simp only [sIs_nil, sIs_cons, sI_lit, lset_zero, lset_succ, hd, cond_true]
            gi_wp2
            refine ⟨tb, g2, c4, by simp [sIs_nil, sIs_cons, sI_lit, lset_zero, lset_succ, mark, hd], hk8, ?_, ?_, ?_, ?_, ?_, ?_, ?_⟩
            all_goals (simp only [mark, if_false, Nat.reduceEqDiff]; assumption)
          case o6 =>
            rintro b' a' w8 hb hd ⟨tb, g2, c4, rfl, hk8, hea8, htm8, hout8, hbx8, h141, h1413, h1614⟩
            simp [Region.binds] at hd
            simp only [sIs_nil, sIs_cons, sI_lit, lset_zero, lset_succ, hd, cond_true]
            gi_wp2
            refine ⟨tb, g2, c4, by simp [sIs_nil, sIs_cons, sI_lit, lset_zero, lset_succ, mark, hd], hk8, ?_, ?_, ?_, ?_, ?_, ?_, ?_⟩
            all_goals (simp only [mark, if_false, Nat.reduceEqDiff]; assumption)
          case o7 =>
            rintro b' a' w8 hb hd ⟨tb, g2, c4, rfl, hk8, hea8, htm8, hout8, hbx8, h141, h1413, h1614⟩
            simp [Region.binds] at hd
            have g0 : w8.cell? ⟨b, off + i * 2 + 1, none⟩ = some (.slice (some ⟨b2, off2, none⟩) xs.length xc) := hk8.cell (p := ⟨b, off + i * 2 + 1, none⟩) ⟨hlo b (by omega), hblt⟩ g1
            simp only [sIs_nil, sIs_cons, sI_lit, lset_zero, lset_succ, hd, cond_true]
            gi_wp2
            refine ⟨tb, g2, c4, by simp [sIs_nil, sIs_cons, sI_lit, lset_zero, lset_succ, mark, hd], hk8, ?_, ?_, ?_, ?_, ?_, ?_, ?_⟩
            all_goals (simp only [mark, if_false, Nat.reduceEqDiff]; assumption)
          case o8 =>
            rintro b' a' w8 hb hd ⟨tb, g2, c4, rfl, hk8, hea8, htm8, hout8, hbx8, h141, h1413, h1614⟩
            simp only [sIs_nil, sIs_cons, sI_lit, lset_zero, lset_succ]
            gi_wp2
            refine ⟨tb, g2, c4, by simp [sIs_nil, sIs_cons, sI_lit, lset_zero, lset_succ, mark], hk8, ?_, ?_, ?_, ?_, ?_, ?_, ?_⟩
            all_goals (simp only [mark, if_false, Nat.reduceEqDiff]; assumption)
          case o9 =>
            rintro b' a' w8 hb hd ⟨tb, g2, c4, rfl, hk8, hea8, htm8, hout8, hbx8, h141, h1413, h1614⟩
            simp [Region.binds] at hd
            simp only [sIs_nil, sIs_cons, sI_lit, lset_zero, lset_succ, hd, cond_true]
            gi_wp2
            refine ⟨tb, g2, c4, by simp [sIs_nil, sIs_cons, sI_lit, lset_zero, lset_succ, mark, hd], hk8, ?_, ?_, ?_, ?_, ?_, ?_, ?_⟩
            all_goals (simp only [mark, if_false, Nat.reduceEqDiff]; assumption)
          case o10 =>
            rintro b' a' w8 hb hd ⟨tb, g2, c4, rfl, hk8, hea8, htm8, hout8, hbx8, h141, h1413, h1614⟩
            simp [Region.binds] at hd
            have g0 : w8.cell? ⟨b2, off2 + k, none⟩ = some (.int .i64 (y : Int)) := hk8.cell (p := ⟨b2, off2 + k, none⟩) ⟨hlo b2 (by omega), hb2lt⟩ d3'
            simp only [sIs_nil, sIs_cons, sI_lit, lset_zero, lset_succ, hd, cond_true]
            gi_wp2
            refine ⟨tb, g2, c4, by simp [sIs_nil, sIs_cons, sI_lit, lset_zero, lset_succ, mark, hd], hk8, ?_, ?_, ?_, ?_, ?_, ?_, ?_⟩
            all_goals (simp only [mark, if_false, Nat.reduceEqDiff]; assumption)
          case o11 =>
            rintro b' a' w8 hb hd ⟨tb, g2, c4, rfl, hk8, hea8, htm8, hout8, hbx8, h141, h1413, h1614⟩
            simp [Region.binds] at hd
            simp only [sIs_nil, sIs_cons, sI_lit, lset_zero, lset_succ, hd, cond_true]
            gi_wp2
            refine ⟨tb, g2, c4, by simp [sIs_nil, sIs_cons, sI_lit, lset_zero, lset_succ, mark, hd], hk8, ?_, ?_, ?_, ?_, ?_, ?_, ?_⟩
            all_goals (simp only [mark, if_false, Nat.reduceEqDiff]; assumption)
          case o12 =>
            rintro b' a' w8 hb hd ⟨tb, g2, c4, rfl, hk8, hea8, htm8, hout8, hbx8, h141, h1413, h1614⟩
            simp [Region.binds] at hd
            have g0 : w8.cell? ⟨gn, y, none⟩ = some (.int .i64 (d : Int)) := hk8.cell (p := ⟨gn, y, none⟩) ⟨hlo gn (by omega), by show gn ≠ _; omega⟩ d4
            simp only [sIs_nil, sIs_cons, sI_lit, lset_zero, lset_succ, hd, cond_true]
            gi_wp2
            refine ⟨tb, g2, c4, by simp [sIs_nil, sIs_cons, sI_lit, lset_zero, lset_succ, mark, hd], hk8, ?_, ?_, ?_, ?_, ?_, ?_, ?_⟩
            all_goals (simp only [mark, if_false, Nat.reduceEqDiff]; assumption)
          case o13 =>
            rintro b' a' w8 hb hd ⟨tb, g2, c4, rfl, hk8, hea8, htm8, hout8, hbx8, h141, h1413, h1614⟩
            simp [Region.binds] at hd
            have n14 : b' 14 = false := by
              cases h : b' 14 with
              | false => rfl
              | true => rw [h1413 h] at hb; cases hb
            simp only [sIs_nil, sIs_cons, sI_lit, lset_zero, lset_succ, hd, cond_true]
            gi_wp2
            refine ⟨w8.heap.size, g2, c4, by simp [sIs_nil, sIs_cons, sI_lit, lset_zero, lset_succ, mark, hd, n14], hk8.alloc _, fun _ => (hea8 n14).alloc _, fun _ _ => IsRow.new _ _ _, ?_, ?_, ?_, fun _ => mark_self _ _, ?_⟩
            · simp [mark, n14]
            · simp only [mark, if_false, Nat.reduceEqDiff]; exact hbx8.alloc _
            · simp [mark, n14]
            · simp only [mark, if_false, Nat.reduceEqDiff]; assumption
          case o14 =>
            rintro b' a' w8 hb hd ⟨tb, g2, c4, rfl, hk8, hea8, htm8, hout8, hbx8, h141, h1413, h1614⟩
            have e13 : b' 13 = true := hd { on := 13, ground := Ground.data } (by simp) rfl
            have e1 : b' 1 = true := hd { on := 1, ground := Ground.data } (by simp) rfl
            simp [Region.binds] at hd
            have n16 : b' 16 = false := by
              cases h : b' 16 with
              | false => rfl
              | true => rw [h1614 h] at hb; cases hb
            have hka := hea8 hb
            have ht := htm8 e13 hb
            have ho8 := owns_keep Hown.out hka fun _ _ => trivial
            simp only [sIs_nil, sIs_cons, sI_lit, lset_zero, lset_succ, hd, cond_true]
            refine append_intk _ rfl (.tmp 34) (.tmp 46) rfl (wo.heap.size + 1) (.slice a2 k c2) asq k hlk.out (d : Int) rfl ho8 tb rfl ht (by omega) (by have := hka.size; have := Hs1.out; omega) ?_
            intro g2' c4' w9 ho' hk9 hw9
            refine ⟨tb, g2', c4', by simp [Act.put, sIs_nil, sIs_cons, sI_lit, lset_zero, lset_succ, mark, hd], hk8.trans (hk9.sub fun q _ h => h.1), ?_, ?_, fun _ => ho', ?_, fun _ => mark_mono _ e1, fun _ => mark_mono _ e13, ?_⟩
            · simp [mark]
            · simp [mark]
            · simp only [mark, if_false, Nat.reduceEqDiff, n16, cond_false] at hbx8 ⊢
              exact hbx8.keep hk9 (hlo _ (by omega))
            · simp [mark, n16]
          case o15 =>
            rintro b' a' w8 hb hd ⟨tb, g2, c4, rfl, hk8, hea8, htm8, hout8, hbx8, h141, h1413, h1614⟩
            simp only [sIs_nil, sIs_cons, sI_lit, lset_zero, lset_succ]
            gi_wp2
            refine ⟨tb, g2, c4, by simp [sIs_nil, sIs_cons, sI_lit, lset_zero, lset_succ, mark], hk8, ?_, ?_, ?_, ?_, ?_, ?_, ?_⟩
            all_goals (simp only [mark, if_false, Nat.reduceEqDiff]; assumption)
          case o16 =>
            rintro b' a' w8 hb hd ⟨tb, g2, c4, rfl, hk8, hea8, htm8, hout8, hbx8, h141, h1413, h1614⟩
            have e14 : b' 14 = true := hd { on := 14, ground := Ground.data } (by simp) rfl
            simp [Region.binds] at hd
            have hbx := hbx8
            rw [hb, cond_false] at hbx
            obtain ⟨f1, f2, f3, f4⟩ := hbx.two
            simp only [sIs_nil, sIs_cons, sI_lit, lset_zero, lset_succ, hd, cond_true]
            gi_wp2
            have hkB : ∀ S : Nat → Prop, (∀ q, S q → q ≠ wo.heap.size) → Keeps S w8 (w8.setCell ⟨wo.heap.size, 1, none⟩ (.slice (some ⟨g2, 0, none⟩) (k + 1) c4)) := fun S hS => (Keeps.refl S w8).setCell (p := ⟨wo.heap.size, 1, none⟩) (fun _ h => hS _ h rfl) _
            refine ⟨tb, g2, c4, by simp [sIs_nil, sIs_cons, sI_lit, lset_zero, lset_succ, mark, hd], hk8.trans (hkB _ fun q h => h.2), ?_, ?_, fun _ => owns_keep (hout8 e14) (hkB (fun q => q ≠ wo.heap.size) fun _ h => h) (fun q e => by have := ((hout8 e14).lt q e).1; omega), ?_, ?_, ?_, fun _ => mark_mono _ e14⟩
            · simp [mark, e14]
            · simp [mark, e14]
            · simp only [mark, if_true, cond_true]
              exact hbx.set 1 _
            · simp only [mark, if_false, Nat.reduceEqDiff]; assumption
            · simp only [mark, if_false, Nat.reduceEqDiff]; assumption
          case fin =>
            rintro b' a' w8 hb ⟨tb, g2, c4, rfl, hk8, -, -, hout8, hbx8, -, -, -⟩
            have e0 := hb 0 (by decide)
            have e1 := hb 1 (by decide)
            have e2 := hb 2 (by decide)
            have e3 := hb 3 (by decide)
            have e4 := hb 4 (by decide)
            have e5 := hb 5 (by decide)
            have e6 := hb 6 (by decide)
            have e7 := hb 7 (by decide)
            have e8 := hb 8 (by decide)
            have e9 := hb 9 (by decide)
            have e10 := hb 10 (by decide)
            have e11 := hb 11 (by decide)
            have e12 := hb 12 (by decide)
            have e13 := hb 13 (by decide)
            have e14 := hb 14 (by decide)
            have e15 := hb 15 (by decide)
            have e16 := hb 16 (by decide)
            clear hb
            simp only [sIs_nil, sIs_cons, sI_lit, lset_zero, lset_succ, e0, e1, e2, e3, e4, e5, e6, e7, e8, e9, e10, e11, e12, e13, e14, e15, cond_true]
            have hoa8 := hid (hout8 e14)
            rw [e16, cond_true] at hbx8
            clear hout8 e0 e1 e2 e3 e4 e5 e6 e7 e8 e9 e10 e11 e12 e13 e14 e15 e16
            gi_wp2
            go_roundw
            case rel =>
              refine ⟨k + 1, some ⟨g2, 0, none⟩, c4, by omega, by go_num, hkj.trans2 hk8 (fun q hq h => ⟨hlo q (by have := Hs1.out; omega), h⟩), hbx8, by rw [hnum.out]; exact hoa8.out⟩
            case measure => simp [intOf]; omega
        · obtain rfl : k = xs.length := by omega
          obtain ⟨s', hs'⟩ : ∃ s', renumM now ss[i] = s' := ⟨_, rfl⟩
          have hsd : s' = ⟨lab, xs.map (numAt now)⟩ := by rw [← hs', renumM, Hlab.out, Hxs.out]
          rw [List.take_length] at hown
          have hab : ∀ x ∈ xs.map (numAt now), 0 ≤ x ∧ x ≤ 2000 := by
            intro x hx
            obtain ⟨z, hz, rfl⟩ := List.mem_map.1 hx
            have hzr := hrange.out z hz
            obtain ⟨n, hn1, hn2, _⟩ := hat.out z.toNat (by omega)
            have := holen.out
            rw [numAt, List.getD_eq_getElem?_getD, hn1]
            simp; omega
          have hkA : Keeps All wo wr := hkwj.sub fun q hq _ => by omega
          have hsv : IsStep (fun q => wo.heap.size + 1 ≤ q) wr (.agg #[.string lab, .slice a2 xs.length c2]) s' := by
            rw [hsd]
            refine ⟨_, rfl, ?_⟩
            have h := own_ints (xs := xs.map (numAt now)) (by rw [List.length_map]; exact hown) (by rw [List.length_map]; omega) (fun x hx => by have := hab x hx; omega) (fun q => wo.heap.size + 1 ≤ q) fun q e => (hown.lt q e).1
            exact h
          have hint : IsInts (fun q => wo.heap.size + 1 ≤ q) wr (.slice a2 xs.length c2) (xs.map (numAt now)) := by
            have h := own_ints (xs := xs.map (numAt now)) (by rw [List.length_map]; exact hown) (by rw [List.length_map]; omega) (fun x hx => by have := hab x hx; omega) (fun q => wo.heap.size + 1 ≤ q) fun q e => (hown.lt q e).1
            exact h
          have holr := Hol.out.keep hkA (fun _ _ => trivial) fun _ _ _ _ => trivial
          have hst : IsSteps All wr (.slice (some ⟨go, 0, none⟩) m co) outs := holr.isSteps' (by rw [← hm.out]; omega) (fun _ _ => trivial) fun _ _ => trivial
          have hoar := owns_keep Hoa.out hkA fun _ _ => trivial
          have hrr2 := hrr.keep hkA trivial
          have hkw2 := hkw.trans hkA
          have hm1 : m = outs.length := hm.out
          have Hm1 := hid hm1
          have Hsd := hid hsd
          have Hs' := hid hs'
          have Holr := hid holr
          have Hoar := hid hoar
          have hown2 := hid hown
          clear hs' hsd hab holr hoar hm1 hown
          gi_wp2
          obtain ⟨w2, rfl⟩ : ∃ w2 : World, w2 = wr := ⟨_, rfl⟩
          gi_loopw [8] (fun tv wr => ∃ t : Nat, t ≤ m ∧ tv = .int .i64 t ∧ Keeps All w2 wr ∧ Hid (∀ j, j < t → outs[j]? ≠ some s')) (fun tv _ => m - (intOf tv).toNat)
          case atStart => exact ⟨0, Nat.zero_le _, rfl, Keeps.refl _ _, fun j h => by omega⟩
          case round =>
            obtain ⟨t, ht, rfl, hk3, hnone⟩ := hrel
            have hrb3 := hrb.keep hk3 trivial
            have hsv3 := hsv.keep hk3 fun _ _ _ => trivial
            obtain ⟨f1, f2, _, _⟩ := hrb3.two
            by_cases htm : t < m
            · have hto : t < outs.length := by rw [← Hm1.out]; exact htm
              obtain ⟨bo, oo, vo, hbo, e3, e4, hvo⟩ := (hst.keep hk3 fun _ _ h => h).at hto
              cases hbo
              rw [Nat.zero_add] at e3 e4
              obtain ⟨q1, q2, rfl⟩ := hvo.form
              have hstp : IsStep All wr (.agg #[.string outs[t].label, .slice q1 outs[t].args.length q2]) outs[t] := ⟨_, rfl, hvo⟩
              obtain ⟨dd, hdd⟩ : ∃ dd, dd = decide (outs[t] = s') := ⟨_, rfl⟩
              have Hdd := hid hdd
              have hgt : Hid (outs[t]? = some outs[t]) := List.getElem?_eq_getElem hto
              have Hstp := hid hstp
              clear hdd hstp hvo
              generalize outs[t] = ot at *
              gi_wp2
              refine wpIn_region_inv (MgB t m (.slice (some ⟨go, 0, none⟩) m co) ⟨go, t * 2, none⟩ (.agg #[.string ot.label, .slice q1 ot.args.length q2]) (.agg #[.string lab, .slice a2 xs.length c2]) dd) mixed (by kernel_rfl) ?start ⟨?o0, ?o1, ?o2, ?o3, ?o4, ?o5, ?o6, ?o7, ?o8, ?o9, ?o10, ?o11, ?o12, trivial⟩ ?fin
              case start =>
                exact ⟨by simp only [sIs_nil, sIs_cons, sI_false], (Keeps.refl _ _).drew⟩
              case o0 =>
                rintro b' a' w8 hb hd ⟨rfl, hk8⟩
                simp only [sIs_nil, sIs_cons, sI_lit, lset_zero, lset_succ]
                gi_wp2
                refine ⟨by simp [sIs_nil, sIs_cons, sI_lit, lset_zero, lset_succ, mark], hk8⟩
              case o1 =>
                rintro b' a' w8 hb hd ⟨rfl, hk8⟩
                simp only [sIs_nil, sIs_cons, sI_lit, lset_zero, lset_succ]
                gi_wp2
                refine ⟨by simp [sIs_nil, sIs_cons, sI_lit, lset_zero, lset_succ, mark], hk8⟩
              case o2 =>
                rintro b' a' w8 hb hd ⟨rfl, hk8⟩
                simp [Region.binds] at hd
                simp only [sIs_nil, sIs_cons, sI_lit, lset_zero, lset_succ, hd, cond_true]
                gi_wp2
                refine ⟨by simp [sIs_nil, sIs_cons, sI_lit, lset_zero, lset_succ, mark, hd], hk8⟩
              case o3 =>
                rintro b' a' w8 hb hd ⟨rfl, hk8⟩
                simp [Region.binds] at hd
                simp only [sIs_nil, sIs_cons, sI_lit, lset_zero, lset_succ, hd, cond_true]
                gi_wp2
                refine ⟨by simp [sIs_nil, sIs_cons, sI_lit, lset_zero, lset_succ, mark, hd], hk8⟩
              case o4 =>
                rintro b' a' w8 hb hd ⟨rfl, hk8⟩
                simp [Region.binds] at hd
                simp only [sIs_nil, sIs_cons, sI_lit, lset_zero, lset_succ, hd, cond_true]
                gi_wp2
                refine ⟨by simp [sIs_nil, sIs_cons, sI_lit, lset_zero, lset_succ, mark, hd], hk8⟩
              case o5 =>
                rintro b' a' w8 hb hd ⟨rfl, hk8⟩
                simp [Region.binds] at hd
                simp only [sIs_nil, sIs_cons, sI_lit, lset_zero, lset_succ, hd, cond_true]
                gi_wp2
                refine ⟨by simp [sIs_nil, sIs_cons, sI_lit, lset_zero, lset_succ, mark, hd], hk8⟩
              case o6 =>
                rintro b' a' w8 hb hd ⟨rfl, hk8⟩
                simp [Region.binds] at hd
                simp only [sIs_nil, sIs_cons, sI_lit, lset_zero, lset_succ, hd, cond_true]
                gi_wp2
                refine ⟨by simp [sIs_nil, sIs_cons, sI_lit, lset_zero, lset_succ, mark, hd], hk8⟩
              case o7 =>
                rintro b' a' w8 hb hd ⟨rfl, hk8⟩
                simp [Region.binds] at hd
                simp only [sIs_nil, sIs_cons, sI_lit, lset_zero, lset_succ, hd, cond_true]
                gi_wp2
                refine ⟨by simp [sIs_nil, sIs_cons, sI_lit, lset_zero, lset_succ, mark, hd], hk8⟩
              case o8 =>
                rintro b' a' w8 hb hd ⟨rfl, hk8⟩
                simp [Region.binds] at hd
                have g0 : w8.cell? ⟨go, t * 2, none⟩ = some (.string ot.label) := hk8.cell (p := ⟨go, t * 2, none⟩) trivial e3
                have g3 : w8.cell? ⟨go, t * 2 + 1, none⟩ = some (.slice q1 ot.args.length q2) := hk8.cell (p := ⟨go, t * 2 + 1, none⟩) trivial e4
                simp only [sIs_nil, sIs_cons, sI_lit, lset_zero, lset_succ, hd, cond_true]
                gi_wp2
                refine ⟨by simp [sIs_nil, sIs_cons, sI_lit, lset_zero, lset_succ, mark, hd], hk8⟩
              case o9 =>
                rintro b' a' w8 hb hd ⟨rfl, hk8⟩
                simp [Region.binds] at hd
                obtain ⟨g0, g3, _, _⟩ := (hrb3.keep hk8 trivial).two
                simp only [sIs_nil, sIs_cons, sI_lit, lset_zero, lset_succ, hd, cond_true]
                gi_wp2
                refine ⟨by simp [sIs_nil, sIs_cons, sI_lit, lset_zero, lset_succ, mark, hd], hk8⟩
              case o10 =>
                rintro b' a' w8 hb hd ⟨rfl, hk8⟩
                simp [Region.binds] at hd
                have hcall := rsame_c ot s' _ _ w8 (Hstp.out.keep hk8 fun _ _ h => h) ((hsv3.sub fun _ _ _ => trivial).keep hk8 fun _ _ h => h)
                rw [← Hdd.out] at hcall
                simp only [sIs_nil, sIs_cons, sI_lit, lset_zero, lset_succ, hd, cond_true]
                gi_wp2
                refine ⟨trivial, ?_⟩
                refine (callsIn_wide.2 hcall).mono ?_
                clear hcall
                rintro e w3 ⟨rfl, hk9⟩
                gi_wp2
                exact ⟨by simp [sIs_nil, sIs_cons, sI_lit, lset_zero, lset_succ, mark, hd], hk8.trans hk9⟩
              case o11 =>
                rintro b' a' w8 hb hd ⟨rfl, hk8⟩
                simp [Region.binds] at hd
                simp only [sIs_nil, sIs_cons, sI_lit, lset_zero, lset_succ, hd, cond_true]
                gi_wp2
                refine ⟨by simp [sIs_nil, sIs_cons, sI_lit, lset_zero, lset_succ, mark, hd], hk8⟩
              case o12 =>
                rintro b' a' w8 hb hd ⟨rfl, hk8⟩
                simp [Region.binds] at hd
                simp only [sIs_nil, sIs_cons, sI_lit, lset_zero, lset_succ, hd, cond_true]
                gi_wp2
                refine ⟨by simp [sIs_nil, sIs_cons, sI_lit, lset_zero, lset_succ, mark, hd], hk8⟩
              case fin =>
                rintro b' a' w8 hb ⟨rfl, hk8⟩
                have e0 := hb 0 (by decide)
                have e1 := hb 1 (by decide)
                have e2 := hb 2 (by decide)
                have e3 := hb 3 (by decide)
                have e4 := hb 4 (by decide)
                have e5 := hb 5 (by decide)
                have e6 := hb 6 (by decide)
                have e7 := hb 7 (by decide)
                have e8 := hb 8 (by decide)
                have e9 := hb 9 (by decide)
                have e10 := hb 10 (by decide)
                have e11 := hb 11 (by decide)
                have e12 := hb 12 (by decide)
                clear hb
                simp only [sIs_nil, sIs_cons, sI_lit, lset_zero, lset_succ, e0, e1, e2, e3, e4, e5, e6, e7, e8, e9, e10, e11, e12, cond_true]
                clear e0 e1 e2 e3 e4 e5 e6 e7 e8 e9 e10 e11 e12
                have hk38 := hk3.trans hk8
                have hdt : dd = true → Hid (ot = s') := fun h => (of_decide_eq_true (by rw [← Hdd.out]; exact h) : ot = s')
                have hdf : dd = false → Hid (ot ≠ s') := fun h => (of_decide_eq_false (by rw [← Hdd.out]; exact h) : ¬ ot = s')
                cases dd with
                | false =>
                  have hne2 := hdf rfl
                  clear hdt hdf
                  gi_wp2
                  go_roundw
                  case rel =>
                    refine ⟨t + 1, by omega, by go_num, hk38, fun j hj => ?_⟩
                    by_cases e : j = t
                    · subst e; rw [hgt.out]; exact fun h => hne2.out (Option.some.inj h)
                    · exact hnone.out j (by omega)
                  case measure => simp [intOf]; omega
                | true =>
                  have heq := hdt rfl
                  have hteq : ((t : Int) == (m : Int)) = false := by rw [beq_eq_false_iff_ne]; omega
                  clear hdt hdf
                  gi_wp2_with (gi_at_builtin; refine Hid.out ?_)
                  refine hid ?_
                  have hka : Keeps All w8 (w8.alloc (.cells #[.int .i64 (t : Int)] 3)) := (Keeps.refl _ _).alloc _
                  have hk39 := hk38.trans hka
                  have hsz9 := hk39.size
                  have hsz8 := hkA.size
                  refine append_intk _ rfl (.tmp 72) (.tmp 74) rfl (w.heap.size + 1) (.slice (some ⟨gn, 0, none⟩) i cn) now i hnl.out (t : Int) rfl (owns_keep Hoar.out hk39 fun _ _ => trivial) w8.heap.size rfl (IsRow.new _ _ _) (by omega) (by omega) ?_
                  intro gn' cn' w9 ho' hk9 hw9
                  have Ho' := hid ho'
                  have hgn2 : gn' = gn ∨ (w8.alloc (.cells #[.int .i64 (t : Int)] 3)).heap.size ≤ gn' := by
                    rcases hw9 with h | h
                    · exact Or.inl (Option.some.inj h)
                    · exact Or.inr (Nat.le_of_eq h.symm)
                  have hk9' : Keeps (fun q => q ≠ gn) (w8.alloc (.cells #[.int .i64 (t : Int)] 3)) w9 := hk9.sub fun q _ h e => h (Option.some.inj e).symm
                  have hol9 := (Holr.out.keep hk39 (fun _ _ => trivial) fun _ _ _ _ => trivial).swap hk9' (fun e => hne (Option.some.inj e)) hgn2
                  have hlt9 := (Holr.out.lt (k := go) rfl).2
                  have hgo2 : go ≠ gn' := by
                    rcases hgn2 with h | h
                    · rw [h]; exact hne
                    · omega
                  have hs9 := hk9'.size
                  have Hol9 := hid hol9
                  clear ho' hol9 hw9
                  simp only [Act.put, List.setIfInBounds_toArray, List.set_cons_succ, List.set_cons_zero]
                  gi_wp2
                  go_roundw
                  case rel =>
                    have hmem : s' ∈ outs := List.mem_of_getElem? (by rw [hgt.out, heq.out])
                    have hidx : outs.idxOf s' = t := idxOf_first hnone.out (by rw [hgt.out, heq.out])
                    have hstep : mgTo ss (i + 1) = (outs, now ++ [(t : Int)]) := by
                      rw [hsucc.out]
                      simp only [mgStep]
                      rw [Hou.out, Hno.out, Hs'.out, addM_eq, addAt_eq, if_pos hmem, hidx]
                    exact ⟨i + 1, go, m, co, gn', cn', by omega, by go_num, rfl, rfl, by rw [hstep]; exact Hm1, (hkw2.trans hk39).upto hk9' fun q hq => by omega, by omega, (hrr2.keep hk39 trivial).keep hk9' (by omega), by rw [hstep]; exact Hol9.out, by rw [hstep]; exact Ho'.out, hgo2⟩
                  case measure => simp [intOf]; omega
            · obtain rfl : t = m := by omega
              have hsn : s' ∉ outs := not_mem_first (by rw [← Hm1.out]; exact hnone.out)
              have Hsn := hid hsn
              clear hsn
              gi_wp2
              refine wpIn_region_inv (MgB' t t (.slice (some ⟨go, 0, none⟩) t co)) mixed (by kernel_rfl) ?start ⟨?o0, ?o1, ?o2, ?o3, ?o4, ?o5, ?o6, ?o7, ?o8, ?o9, ?o10, ?o11, ?o12, trivial⟩ ?fin
              case start =>
                exact ⟨by simp only [sIs_nil, sIs_cons, sI_false], (Keeps.refl _ _).drew⟩
              case o0 =>
                rintro b' a' w8 hb hd ⟨rfl, hk8⟩
                simp only [sIs_nil, sIs_cons, sI_lit, lset_zero, lset_succ]
                gi_wp2
                refine ⟨by simp [sIs_nil, sIs_cons, sI_lit, lset_zero, lset_succ, mark], hk8⟩
              case o1 =>
                rintro b' a' w8 hb hd ⟨rfl, hk8⟩
                simp only [sIs_nil, sIs_cons, sI_lit, lset_zero, lset_succ]
                gi_wp2
                refine ⟨by simp [sIs_nil, sIs_cons, sI_lit, lset_zero, lset_succ, mark], hk8⟩
              case o2 =>
                rintro b' a' w8 hb hd ⟨rfl, hk8⟩
                simp [Region.binds] at hd
                simp only [sIs_nil, sIs_cons, sI_lit, lset_zero, lset_succ, hd, cond_true]
                gi_wp2
                refine ⟨by simp [sIs_nil, sIs_cons, sI_lit, lset_zero, lset_succ, mark, hd], hk8⟩
              case o3 =>
                rintro b' a' w8 hb hd ⟨rfl, hk8⟩
                simp [Region.binds] at hd
                simp only [sIs_nil, sIs_cons, sI_lit, lset_zero, lset_succ, hd, cond_true]
                gi_wp2
                refine ⟨by simp [sIs_nil, sIs_cons, sI_lit, lset_zero, lset_succ, mark, hd], hk8⟩
              case o4 =>
                rintro b' a' w8 hb hd ⟨rfl, hk8⟩
                simp [Region.binds] at hd
                simp only [sIs_nil, sIs_cons, sI_lit, lset_zero, lset_succ, hd, cond_true]
                gi_wp2
                refine ⟨by simp [sIs_nil, sIs_cons, sI_lit, lset_zero, lset_succ, mark, hd], hk8⟩
              case o5 =>
                rintro b' a' w8 hb hd ⟨rfl, hk8⟩
                simp [Region.binds] at hd
                simp only [sIs_nil, sIs_cons, sI_lit, lset_zero, lset_succ, hd, cond_true]
                gi_wp2
                refine ⟨by simp [sIs_nil, sIs_cons, sI_lit, lset_zero, lset_succ, mark, hd], hk8⟩
              case o6 =>
                rintro b' a' w8 hb hd ⟨rfl, hk8⟩
                simp [Region.binds] at hd
                simp only [sIs_nil, sIs_cons, sI_lit, lset_zero, lset_succ, hd, cond_true]
                gi_wp2
                refine ⟨by simp [sIs_nil, sIs_cons, sI_lit, lset_zero, lset_succ, mark, hd], hk8⟩
              case o7 =>
                rintro b' a' w8 hb hd ⟨rfl, hk8⟩
                simp [Region.binds] at hd
                simp only [sIs_nil, sIs_cons, sI_lit, lset_zero, lset_succ, hd, cond_true]
                gi_wp2
                refine ⟨by simp [sIs_nil, sIs_cons, sI_lit, lset_zero, lset_succ, mark, hd], hk8⟩
              case o8 =>
                rintro b' a' w8 hb hd ⟨rfl, hk8⟩
                simp [Region.binds] at hd
                simp only [sIs_nil, sIs_cons, sI_lit, lset_zero, lset_succ, hd, cond_true]
                gi_wp2
                refine ⟨by simp [sIs_nil, sIs_cons, sI_lit, lset_zero, lset_succ, mark, hd], hk8⟩
              case o9 =>
                rintro b' a' w8 hb hd ⟨rfl, hk8⟩
                simp [Region.binds] at hd
                simp only [sIs_nil, sIs_cons, sI_lit, lset_zero, lset_succ, hd, cond_true]
                gi_wp2
                refine ⟨by simp [sIs_nil, sIs_cons, sI_lit, lset_zero, lset_succ, mark, hd], hk8⟩
              case o10 =>
                rintro b' a' w8 hb hd ⟨rfl, hk8⟩
                simp [Region.binds] at hd
                simp only [sIs_nil, sIs_cons, sI_lit, lset_zero, lset_succ, hd, cond_true]
                gi_wp2
                refine ⟨trivial, ?_⟩
                gi_wp2
                refine ⟨by simp [sIs_nil, sIs_cons, sI_lit, lset_zero, lset_succ, mark, hd], hk8⟩
              case o11 =>
                rintro b' a' w8 hb hd ⟨rfl, hk8⟩
                simp [Region.binds] at hd
                simp only [sIs_nil, sIs_cons, sI_lit, lset_zero, lset_succ, hd, cond_true]
                gi_wp2
                refine ⟨by simp [sIs_nil, sIs_cons, sI_lit, lset_zero, lset_succ, mark, hd], hk8⟩
              case o12 =>
                rintro b' a' w8 hb hd ⟨rfl, hk8⟩
                simp [Region.binds] at hd
                simp only [sIs_nil, sIs_cons, sI_lit, lset_zero, lset_succ, hd, cond_true]
                gi_wp2
                refine ⟨by simp [sIs_nil, sIs_cons, sI_lit, lset_zero, lset_succ, mark, hd], hk8⟩
              case fin =>
                rintro b' a' w8 hb ⟨rfl, hk8⟩
                have e0 := hb 0 (by decide)
                have e1 := hb 1 (by decide)
                have e2 := hb 2 (by decide)
                have e3 := hb 3 (by decide)
                have e4 := hb 4 (by decide)
                have e5 := hb 5 (by decide)
                have e6 := hb 6 (by decide)
                have e7 := hb 7 (by decide)
                have e8 := hb 8 (by decide)
                have e9 := hb 9 (by decide)
                have e10 := hb 10 (by decide)
                have e11 := hb 11 (by decide)
                have e12 := hb 12 (by decide)
                clear hb
                simp only [sIs_nil, sIs_cons, sI_lit, lset_zero, lset_succ, e0, e1, e2, e3, e4, e5, e6, e7, e8, e9, e10, e11, e12, cond_true]
                clear e0 e1 e2 e3 e4 e5 e6 e7 e8 e9 e10 e11 e12
                have hk38 := hk3.trans hk8
                obtain ⟨p1, p2, _, _⟩ := (hrb3.keep hk8 trivial).two
                have hteq : ((t : Int) == (t : Int)) = true := by simp
                gi_wp2_with (gi_at_builtin; refine Hid.out ?_)
                refine hid ?_
                have hka : Keeps All w8 (w8.alloc (.cells #[.string lab, .slice a2 xs.length c2] 45)) := (Keeps.refl _ _).alloc _
                have hk39 := hk38.trans hka
                have hsz9 := hk39.size
                have hsz8 := hkA.size
                obtain ⟨vs, hvl, hown3, hvi⟩ := Holr.out.keep hk39 (fun _ _ => trivial) fun _ _ _ _ => trivial
                rw [← Hm1.out] at hown3
                have Hvi := hid hvi
                clear hvi
                refine append_step _ rfl (.tmp 68) (.tmp 70) rfl (w.heap.size + 1) (.slice (some ⟨go, 0, none⟩) t co) _ t lab a2 xs.length c2 rfl hown3 w8.heap.size rfl (IsRow.new _ _ _) (by omega) (by omega) ?_
                intro go' co' w9 ho' hk9 hw9
                have hol9 : OwnIn (fun q => w.heap.size + 1 ≤ q ∧ q ≠ gn) (w.heap.size + 1) w9 (.slice (some ⟨go', 0, none⟩) (t + 1) co') (outs ++ [s']) := by
                  rw [Hsd.out]
                  refine OwnIn.snoc (S := fun q => w.heap.size + 1 ≤ q ∧ q ≠ gn) (va := .slice a2 xs.length c2) hvl Hvi.out ?_ (by rw [← Hm1.out]; exact ho') hk9.toGrown ?_
                  · refine (hint.sub fun q hq h => ?_).keep hk39 fun _ _ _ => trivial
                    exact ⟨⟨by omega, by omega⟩, fun e => by have := (Holr.out.lt e).2; have e2 : go = q := Option.some.inj e; have := Hol.out.lt (k := go) rfl; omega⟩
                  · rcases hw9 with h | h
                    · exact Or.inl h
                    · exact Or.inr fun q e => by have e2 : go' = q := Option.some.inj e; omega
                have hgo' : go' = go ∨ (w8.alloc (.cells #[.string lab, .slice a2 xs.length c2] 45)).heap.size ≤ go' := by
                  rcases hw9 with h | h
                  · exact Or.inl (Option.some.inj h)
                  · exact Or.inr (Nat.le_of_eq h.symm)
                have hk9' : Keeps (fun q => q ≠ go) (w8.alloc (.cells #[.string lab, .slice a2 xs.length c2] 45)) w9 := hk9.sub fun q _ h e => h (Option.some.inj e).symm
                have hoa9 := owns_keep (owns_keep Hoar.out hk39 fun _ _ => trivial) hk9' fun q e => by have e2 : gn = q := Option.some.inj e; omega
                have hs9 := hk9'.size
                have hgon : go' ≠ gn := by
                  rcases hgo' with h | h
                  · rw [h]; exact hne
                  · omega
                have Hol9 := hid hol9
                have Hoa9 := hid hoa9
                have hkw9 := (hkw2.trans hk39).upto hk9' fun q hq => by omega
                have hrr9 := (hrr2.keep hk39 trivial).keep hk9' (by omega)
                clear ho' hol9 hoa9 hw9 hown3
                simp only [Act.put, List.setIfInBounds_toArray, List.set_cons_succ, List.set_cons_zero]
                gi_wp2_with (gi_at_builtin; refine Hid.out ?_)
                refine hid ?_
                have hkb : Keeps All w9 (w9.alloc (.cells #[.int .i64 (t : Int)] 3)) := (Keeps.refl _ _).alloc _
                have hszb := hkb.size
                refine append_intk _ rfl (.tmp 72) (.tmp 74) rfl (w.heap.size + 1) (.slice (some ⟨gn, 0, none⟩) i cn) now i hnl.out (t : Int) rfl (owns_keep Hoa9.out hkb fun _ _ => trivial) w9.heap.size rfl (IsRow.new _ _ _) (by omega) (by omega) ?_
                intro gn' cn' w10 ho2 hk10 hw10
                have Ho2 := hid ho2
                have hgn2 : gn' = gn ∨ (w9.alloc (.cells #[.int .i64 (t : Int)] 3)).heap.size ≤ gn' := by
                  rcases hw10 with h | h
                  · exact Or.inl (Option.some.inj h)
                  · exact Or.inr (Nat.le_of_eq h.symm)
                have hk10' : Keeps (fun q => q ≠ gn) (w9.alloc (.cells #[.int .i64 (t : Int)] 3)) w10 := hk10.sub fun q _ h e => h (Option.some.inj e).symm
                have hol10 := (Hol9.out.keep hkb (fun _ _ => trivial) fun _ _ _ _ => trivial).swap hk10' (fun e => hgon (Option.some.inj e)) hgn2
                have hlt10 := (Hol9.out.lt (k := go') rfl).2
                have hgo2 : go' ≠ gn' := by
                  rcases hgn2 with h | h
                  · rw [h]; exact hgon
                  · omega
                have hs10 := hk10'.size
                have Hol10 := hid hol10
                clear ho2 hol10 hw10
                simp only [Act.put, List.setIfInBounds_toArray, List.set_cons_succ, List.set_cons_zero]
                gi_wp2
                go_roundw
                case rel =>
                  have hstep : mgTo ss (i + 1) = (outs ++ [s'], now ++ [(t : Int)]) := by
                    rw [hsucc.out]
                    simp only [mgStep]
                    rw [Hou.out, Hno.out, Hs'.out, addM_eq, addAt_eq, if_neg Hsn.out, List.idxOf_eq_length Hsn.out, ← Hm1.out]
                  exact ⟨i + 1, go', t + 1, co', gn', cn', by omega, by go_num, rfl, rfl, by rw [hstep, Hid, List.length_append, ← Hm1.out]; rfl, (hkw9.trans hkb).upto hk10' fun q hq => by omega, by omega, (hrr9.keep hkb trivial).keep hk10' (by omega), by rw [hstep]; exact Hol10.out, by rw [hstep]; exact Ho2.out, hgo2⟩
                case measure => simp [intOf]; omega
    · obtain rfl : i = ss.length := by omega
      obtain ⟨r1, r2, r3, r4⟩ := hrr.two
      have hl8 := hrr.lt
      have hrr9 := (hrr.set 0 (.slice (some ⟨go, 0, none⟩) m co)).set 1 (.slice (some ⟨gn, 0, none⟩) ss.length cn)
      obtain ⟨q1, q3, q2, q4⟩ := hrr9.two
      have hgn := hoa.lt gn rfl
      have hgo := hol.lt (k := go) rfl
      obtain ⟨g0, c0, hpl, hpc, hpm⟩ : ∃ g c, (Value.slice (some ⟨go, 0, none⟩) m co) = .slice (some ⟨g, 0, none⟩) m c ∧ m ≤ c ∧ c ≤ maxLen := by
        obtain ⟨vs, hvl, h, _⟩ := hol
        rcases h.2 with ⟨h', _⟩ | ⟨g, cap, cur, h', _, _, h1, h2, _⟩
        · cases h'
        · cases h'
          rw [← hm.out] at h1
          exact ⟨go, co, rfl, h1, h2⟩
      cases hpl
      have Hol := hid hol
      have Hoa := hid hoa
      clear hol hoa
      gi_wp2
      have hkB : Keeps (fun q => q ≠ w.heap.size) wr ((wr.setCell ⟨w.heap.size, 0, none⟩ (.slice (some ⟨go, 0, none⟩) m co)).setCell ⟨w.heap.size, 1, none⟩ (.slice (some ⟨gn, 0, none⟩) ss.length cn)) :=
        ((Keeps.refl _ wr).setCell (p := ⟨w.heap.size, 0, none⟩) (fun _ h => h rfl) _).setCell (p := ⟨w.heap.size, 1, none⟩) (fun _ h => h rfl) _
      refine bodyPost_ret (v := .agg #[.slice (some ⟨go, 0, none⟩) m co, .slice (some ⟨gn, 0, none⟩) ss.length cn]) (by simp [results, Tryd.results62, go_sem, q1, q3]) rfl ⟨go, co, gn, cn, by rw [hm.out], by rw [← hm.out]; exact hpc, hpm, ?_, ?_, ?_⟩
      · have h := (Hol.out.keep hkB (fun q e e2 => by have e3 : go = q := Option.some.inj e; omega) fun q _ h _ => by omega).isSteps' (T := All) (by have := hmst.olen; omega) (fun _ _ => trivial) fun _ _ => trivial
        rw [← hm.out]; exact h
      · exact owns_keep Hoa.out hkB fun q e => by have e3 : gn = q := Option.some.inj e; omega
      · exact hkw.upto hkB fun q hq => by omega

end Go.Proofs.YtcbmljfgmeeadaaDoor
