/-
  CONTRACTS: what compares: slices.Equal at integers, the steps' comparisons, slices.EqualFunc at steps, the reference's same and Equal.
-/
import Derived.Test.YtcbmljfgmeeadaaDoorG1
import Derived.Test.YtcbmljfgmeeadaaDoorKV
import Derived.Test.YtcbmljfgmeeadaaDoorSeq
import Derived.BigRegion
import Derived.BigGuard
namespace Go.Proofs.YtcbmljfgmeeadaaDoor
open Go.RowKit Go.Shelf

theorem IsInts.form {S : Nat → Prop} {w : World} {v : Value} {xs : List Int} (h : IsInts S w v xs) : ∃ a c, v = .slice a xs.length c := by
  obtain ⟨a, c, hv, _⟩ := h
  exact ⟨a, c, hv⟩
theorem IsInts.at {S : Nat → Prop} {w : World} {a : Option Addr} {n c : Nat} {xs : List Int} (h : IsInts S w (.slice a n c) xs) {k : Nat} (hk : k < xs.length) : ∃ b off, a = some ⟨b, off, none⟩ ∧ w.cell? ⟨b, off + k, none⟩ = some (.int .i64 xs[k]) := by
  obtain ⟨_, _, he, _, _, h⟩ := h
  cases he
  rcases h with ⟨h, _⟩ | ⟨b, off, rfl, _, _, hc⟩
  · rw [h] at hk; simp at hk
  · exact ⟨b, off, rfl, hc k hk⟩
theorem IsSteps.form {S : Nat → Prop} {w : World} {v : Value} {ss : List Stp} (h : IsSteps S w v ss) : ∃ a c, v = .slice a ss.length c := by
  obtain ⟨a, c, hv, _⟩ := h
  exact ⟨a, c, hv⟩
theorem IsSteps.at {S : Nat → Prop} {w : World} {a : Option Addr} {n c : Nat} {ss : List Stp} (h : IsSteps S w (.slice a n c) ss) {k : Nat} (hk : k < ss.length) :
    ∃ b off va, a = some ⟨b, off, none⟩ ∧ w.cell? ⟨b, off + k * 2, none⟩ = some (.string ss[k].label) ∧ w.cell? ⟨b, off + k * 2 + 1, none⟩ = some va ∧ IsInts S w va ss[k].args := by
  obtain ⟨_, _, he, _, h⟩ := h
  cases he
  rcases h with ⟨h, _⟩ | ⟨b, off, rfl, _, _, hc⟩
  · rw [h] at hk; simp at hk
  · obtain ⟨h1, va, h2, h3⟩ := hc k hk
    exact ⟨b, off, va, rfl, h1, h2, h3⟩

theorem take_eq_succ {α : Type} [DecidableEq α] {xs ys : List α} {k : Nat} (h1 : k < xs.length) (h2 : k < ys.length) (h : xs.take k = ys.take k) (he : xs[k] = ys[k]) : xs.take (k + 1) = ys.take (k + 1) := by
  rw [List.take_succ_eq_append_getElem h1, List.take_succ_eq_append_getElem h2, h, he]

set_option maxHeartbeats 400000 in
theorem EqualInts_c (xs ys : List Int) (v u : Value) (w : World) (hv : IsInts All w v xs) (hu : IsInts All w u ys) :
    Calls Tryd.prog 37 #[v, u] w fun e w' => e = .returned (.bool (decide (xs = ys))) ∧ Keeps All w w' := by
  have hv' := hv
  have hu' := hu
  obtain ⟨a, c, rfl, l1, _, h⟩ := hv
  clear h
  obtain ⟨a2, c2, rfl, l2, _, h⟩ := hu
  clear h
  by_cases hlen : xs.length = ys.length
  · have Hl := hid hlen
    rw [hlen]
    clear hlen
    go_enter Tryd.func37, Tryd.ntmps37
    go_wp2
    go_loopw [5, 13] (fun i5 i wr => ∃ k : Nat, k ≤ ys.length ∧ i = .int .i64 k ∧ Hid (xs.take k = ys.take k) ∧ Keeps All w wr) (fun _ i _ => ys.length - (intOf i).toNat)
    case atStart => exact ⟨0, Nat.zero_le _, rfl, by simp [Hid], Keeps.refl _ _⟩
    case round =>
      obtain ⟨k, hk, rfl, hn, hb⟩ := hrel
      by_cases hlt : k < ys.length
      · have hlt1 : k < xs.length := by rw [Hl.out]; exact hlt
        obtain ⟨b, off, rfl, d1⟩ := (hv'.keep hb fun _ _ h => h).at hlt1
        obtain ⟨b2, off2, rfl, d2⟩ := (hu'.keep hb fun _ _ h => h).at hlt
        by_cases he : xs[k] = ys[k]
        · have hnext := hid (take_eq_succ hlt1 hlt hn.out he)
          rw [he] at d1
          clear he
          go_wp2
          go_region
          go_wp2
          go_roundw
          case rel => exact ⟨k + 1, by omega, by go_num, hnext.out, hb.trans (Keeps.refl All _).drew⟩
          case measure => simp [intOf]; omega
        · have hne : xs ≠ ys := fun h => he (by simp only [h])
          have Hne := hid hne
          clear hne
          generalize xs[k] = x at d1 he
          generalize ys[k] = y at d2 he
          go_wp2
          go_region
          go_wp2
          go_ret
          exact ⟨ret_bool (decide_eq_false Hne.out).symm, hb.trans (Keeps.refl All _).drew⟩
      · obtain rfl : k = ys.length := by omega
        have heq : xs = ys := by have := hn.out; rwa [List.take_length, List.take_of_length_le (by rw [Hl.out]; exact Nat.le_refl _)] at this
        have Heq := hid heq
        clear heq
        go_wp2
        go_ret
        exact ⟨ret_bool (decide_eq_true Heq.out).symm, hb⟩
  · have hne : xs ≠ ys := fun h => hlen (by rw [h])
    have Hne := hid hne
    clear hne
    go_enter Tryd.func37, Tryd.ntmps37
    go_wp2
    go_ret
    exact ⟨ret_bool (decide_eq_false Hne.out).symm, Keeps.refl _ _⟩

theorem toList_inj {a b : ByteArray} : a.toList = b.toList ↔ a = b := by
  have h := bytes_beq a b
  constructor
  · intro e
    rw [e] at h
    simp at h
    exact h
  · intro e; rw [e]
theorem Stp.ext' {s t : Stp} (h1 : s.label = t.label) (h2 : s.args = t.args) : s = t := by
  cases s; cases t; simp_all
instance : DecidableEq Stp := fun s t => if h1 : s.label = t.label then (if h2 : s.args = t.args then .isTrue (Stp.ext' h1 h2) else .isFalse fun h => h2 (by rw [h])) else .isFalse fun h => h1 (by rw [h])

theorem Same1_c (s t : Stp) (v u : Value) (w : World) (hv : IsStep All w v s) (hu : IsStep All w u t) :
    Calls Tryd.prog 36 #[v, u] w fun e w' => e = .returned (.bool (decide (s = t))) ∧ Keeps All w w' := by
  obtain ⟨va, rfl, h1⟩ := hv
  obtain ⟨vb, rfl, h2⟩ := hu
  have hk0 : Keeps All w ((w.alloc (.cells #[.string s.label, va] 45)).alloc (.cells #[.string t.label, vb] 45)) := ((Keeps.refl _ _).alloc _).alloc _
  have hcall := EqualInts_c s.args t.args va vb _ (h1.keep hk0 fun _ _ h => h) (h2.keep hk0 fun _ _ h => h)
  obtain ⟨a, c, rfl⟩ := h1.form
  obtain ⟨a2, c2, rfl⟩ := h2.form
  have l1 : w.heap.size < w.heap.size + 1 := by omega
  go_enter Tryd.func36, Tryd.ntmps36
  go_wp2_with (go_at_call 37; refine Hid.out ?_)
  · have hl : s.label = t.label := toList_inj.1 (by assumption)
    have Hq := hid hl
    clear hl
    refine hid ?_
    refine hcall.mono ?_
    clear hcall
    rintro e w1 ⟨rfl, hk1⟩
    have hd : Hid (decide (s = t) = decide (s.args = t.args)) := decide_eq_decide.2 ⟨fun h => by rw [h], fun h => Stp.ext' Hq.out h⟩
    go_wp2
    go_ret
    exact ⟨ret_bool hd.out.symm, hk0.trans hk1⟩
  · rename_i hq
    have hne : s ≠ t := fun h => by
      exact hq (by rw [h])
    clear hq hcall
    go_ret
    exact ⟨ret_bool (decide_eq_false hne).symm, hk0⟩

theorem equal1_c (s t : Stp) (v u : Value) (w : World) (hv : IsStep All w v s) (hu : IsStep All w u t) :
    Calls Tryd.prog 38 #[v, u] w fun e w' => e = .returned (.bool (decide (s = t))) ∧ Keeps All w w' := by
  obtain ⟨va, rfl, h1⟩ := hv
  obtain ⟨vb, rfl, h2⟩ := hu
  have hk0 : Keeps All w ((w.alloc (.cells #[.string s.label, va] 45)).alloc (.cells #[.string t.label, vb] 45)) := ((Keeps.refl _ _).alloc _).alloc _
  have hcall := EqualInts_c s.args t.args va vb _ (h1.keep hk0 fun _ _ h => h) (h2.keep hk0 fun _ _ h => h)
  obtain ⟨a, c, rfl⟩ := h1.form
  obtain ⟨a2, c2, rfl⟩ := h2.form
  have l1 : w.heap.size < w.heap.size + 1 := by omega
  go_enter Tryd.func38, Tryd.ntmps38
  go_wp2_with (go_at_call 37; refine Hid.out ?_)
  · have hl : s.label = t.label := toList_inj.1 (by assumption)
    have Hq := hid hl
    clear hl
    refine hid ?_
    refine hcall.mono ?_
    clear hcall
    rintro e w1 ⟨rfl, hk1⟩
    have hd : Hid (decide (s = t) = decide (s.args = t.args)) := decide_eq_decide.2 ⟨fun h => by rw [h], fun h => Stp.ext' Hq.out h⟩
    go_wp2
    go_ret
    exact ⟨ret_bool hd.out.symm, hk0.trans hk1⟩
  · rename_i hq
    have hne : s ≠ t := fun h => by
      exact hq (by rw [h])
    clear hq hcall
    go_ret
    exact ⟨ret_bool (decide_eq_false hne).symm, hk0⟩

/-- What a function value does with two steps: it tells whether they are the same. -/
def SameStps (f : Nat) : Prop := ∀ (s t : Stp) (v u : Value) (w : World), IsStep All w v s → IsStep All w u t → Calls Tryd.prog f #[v, u] w fun e w' => e = .returned (.bool (decide (s = t))) ∧ Keeps All w w'

set_option maxHeartbeats 400000 in
theorem EqualSteps_c (f : Nat) (eg : ∀ args w, (callFunc f args).run Tryd.prog w = .ok (.enter f args) w) (hf : SameStps f) (ss ts : List Stp) (v u : Value) (w : World) (hv : IsSteps All w v ss) (hu : IsSteps All w u ts) :
    Calls Tryd.prog 35 #[v, u, .func (.func f) #[] #[]] w fun e w' => e = .returned (.bool (decide (ss = ts))) ∧ Keeps All w w' := by
  have hv' := hv
  have hu' := hu
  obtain ⟨a, c, rfl, l1, h⟩ := hv
  clear h
  obtain ⟨a2, c2, rfl, l2, h⟩ := hu
  clear h
  have H := hid hf
  clear hf
  by_cases hlen : ss.length = ts.length
  · have Hl := hid hlen
    rw [hlen]
    clear hlen
    go_enter Tryd.func35, Tryd.ntmps35
    go_wp2
    go_loopw [7, 8, 9, 17] (fun i7 i8 i9 i wr => ∃ k : Nat, k ≤ ts.length ∧ i = .int .i64 k ∧ Hid (ss.take k = ts.take k) ∧ Keeps All w wr) (fun _ _ _ i _ => ts.length - (intOf i).toNat)
    case atStart => exact ⟨0, Nat.zero_le _, rfl, by simp [Hid], Keeps.refl _ _⟩
    case round =>
      obtain ⟨k, hk, rfl, hn, hb⟩ := hrel
      by_cases hlt : k < ts.length
      · have hlt1 : k < ss.length := by rw [Hl.out]; exact hlt
        obtain ⟨b, off, va, rfl, d0, d1, h1⟩ := (hv'.keep hb fun _ _ h => h).at hlt1
        obtain ⟨b2, off2, vb, rfl, d2, d3, h2⟩ := (hu'.keep hb fun _ _ h => h).at hlt
        have hk0 : Keeps All wr ((wr.alloc (.cells #[.string ss[k].label, va] 45)).alloc (.cells #[.string ts[k].label, vb] 45)) := ((Keeps.refl _ _).alloc _).alloc _
        have hcall := H.out ss[k] ts[k] _ _ _ ⟨va, rfl, h1.keep hk0 fun _ _ h => h⟩ ⟨vb, rfl, h2.keep hk0 fun _ _ h => h⟩
        obtain ⟨q1, q2, rfl⟩ := h1.form
        obtain ⟨q3, q4, rfl⟩ := h2.form
        have l1 : wr.heap.size < wr.heap.size + 1 := by omega
        have m1 : b2 < wr.heap.size := by
          have := d2
          unfold World.cell? at this
          cases hg : wr.heap[b2]? with
          | none => simp [hg] at this
          | some o => exact (Array.getElem?_eq_some_iff.1 hg).1
        by_cases he : ss[k] = ts[k]
        · have hnext := hid (take_eq_succ hlt1 hlt hn.out he)
          rw [decide_eq_true he] at hcall
          clear he
          go_wp2_with ((with_reducible refine hcall.mono ?_); clear hcall; rintro e w1 ⟨rfl, hb1⟩)
          go_roundw
          case rel => exact ⟨k + 1, by omega, by go_num, hnext.out, (hb.trans hk0).trans hb1⟩
          case measure => simp [intOf]; omega
        · have hne : ss ≠ ts := fun h => he (by simp only [h])
          have Hne := hid hne
          rw [decide_eq_false he] at hcall
          clear hne he
          go_wp2_with ((with_reducible refine hcall.mono ?_); clear hcall; rintro e w1 ⟨rfl, hb1⟩)
          go_ret
          exact ⟨ret_bool (decide_eq_false Hne.out).symm, (hb.trans hk0).trans hb1⟩
      · obtain rfl : k = ts.length := by omega
        have heq : ss = ts := by have := hn.out; rwa [List.take_length, List.take_of_length_le (by rw [Hl.out]; exact Nat.le_refl _)] at this
        have Heq := hid heq
        clear heq
        go_wp2
        go_ret
        exact ⟨ret_bool (decide_eq_true Heq.out).symm, hb⟩
  · have hne : ss ≠ ts := fun h => hlen (by rw [h])
    have Hne := hid hne
    clear hne
    go_enter Tryd.func35, Tryd.ntmps35
    go_wp2
    go_ret
    exact ⟨ret_bool (decide_eq_false Hne.out).symm, Keeps.refl _ _⟩

theorem eg_Same1 : ∀ args w, (callFunc 36 args).run Tryd.prog w = .ok (.enter 36 args) w := enters_of Tryd.func36 (by kernel_rfl) rfl
theorem eg_equal1 : ∀ args w, (callFunc 38 args).run Tryd.prog w = .ok (.enter 38 args) w := enters_of Tryd.func38 (by kernel_rfl) rfl

theorem equal_c (ss ts : List Stp) (v u : Value) (w : World) (hv : IsProof All w v ss) (hu : IsProof All w u ts) :
    Calls Tryd.prog 12 #[v, u] w fun e w' => e = .returned (.bool (decide (ss = ts))) ∧ Keeps All w w' := by
  obtain ⟨va, rfl, h1⟩ := hv
  obtain ⟨vb, rfl, h2⟩ := hu
  have hk0 : Keeps All w ((w.alloc (.cells #[va] 24)).alloc (.cells #[vb] 24)) := ((Keeps.refl _ _).alloc _).alloc _
  have hcall := EqualSteps_c 38 eg_equal1 equal1_c ss ts va vb _ (h1.keep hk0 fun _ _ h => h) (h2.keep hk0 fun _ _ h => h)
  obtain ⟨a, c, rfl⟩ := h1.form
  obtain ⟨a2, c2, rfl⟩ := h2.form
  have l1 : w.heap.size < w.heap.size + 1 := by omega
  generalize decide (ss = ts) = q at hcall
  go_enter Tryd.func12, Tryd.ntmps12
  go_wp2_with (go_at_call 35; refine Hid.out ?_)
  refine hid ?_
  refine hcall.mono ?_
  clear hcall
  rintro e w1 ⟨rfl, hk1⟩
  go_wp2
  go_ret
  exact ⟨rfl, hk0.trans hk1⟩

end Go.Proofs.YtcbmljfgmeeadaaDoor
