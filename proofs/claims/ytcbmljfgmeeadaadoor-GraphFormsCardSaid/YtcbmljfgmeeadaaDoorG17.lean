/-
  CONTRACTS: slices.ContainsFunc at steps, Few, the reference's same and Equal.
-/
import Derived.Test.YtcbmljfgmeeadaaDoorG15
import Derived.Test.YtcbmljfgmeeadaaDoorReg
namespace Go.Proofs.YtcbmljfgmeeadaaDoor
open Go.RowKit Go.Shelf

theorem Few1_c (s : Stp) (v : Value) (w : World) (hv : IsStep All w v s) :
    Calls Tryd.prog 27 #[v] w fun e w' => e = .returned (.bool (decide (60 < s.args.length))) ∧ Keeps All w w' := by
  obtain ⟨va, rfl, h⟩ := hv
  obtain ⟨a, cap, rfl, hl, _, _⟩ := h
  by_cases h0 : 60 < s.args.length
  · go_enter Tryd.func27, Tryd.ntmps27
    go_wp2
    go_ret
    exact ⟨ret_bool (by simp; omega), (Keeps.refl _ _).alloc _⟩
  · go_enter Tryd.func27, Tryd.ntmps27
    go_wp2
    go_ret
    exact ⟨ret_bool (by simp; omega), (Keeps.refl _ _).alloc _⟩

set_option maxHeartbeats 400000 in
theorem IndexSteps_c (f : Nat) (caps : Array Value) (eg : ∀ args w, (callFunc f args).run Tryd.prog w = .ok (.enter f args) w) (p : Stp → Bool) (ss : List Stp) (v : Value) (w : World)
    (hv : IsSteps All w v ss) (hf : Asks Tryd.prog f caps (fun w' x v => IsStep All w' v x) p ss w) :
    Calls Tryd.prog 52 #[v, .func (.func f) #[] caps] w fun e w' => e = .returned (.int .i64 (firstAt p ss 0)) ∧ Keeps All w w' := by
  have hv' := hv
  obtain ⟨a, cap, rfl, hl, h⟩ := hv
  clear h
  have H := hid hf
  clear hf
  go_enter Tryd.func52, Tryd.ntmps52
  go_wp2
  go_loopw [5, 8] (fun i5 i wr => ∃ k : Nat, k ≤ ss.length ∧ i = .int .i64 k ∧ Hid (firstAt p ss 0 = firstAt p (ss.drop k) k) ∧ Keeps All w wr) (fun _ i _ => ss.length - (intOf i).toNat)
  case atStart => exact ⟨0, Nat.zero_le _, rfl, by simp [Hid], Keeps.refl _ _⟩
  case round =>
    obtain ⟨k, hk, rfl, hn, hb⟩ := hrel
    by_cases hlt : k < ss.length
    · obtain ⟨b, off, va, rfl, d0, d1, h1⟩ := (hv'.keep hb fun _ _ h => h).at hlt
      have hdrop : Hid (ss.drop k = ss[k] :: ss.drop (k + 1)) := List.drop_eq_getElem_cons hlt
      have hcall := H.out ss[k] (List.getElem_mem hlt) wr _ hb ⟨va, rfl, h1⟩
      obtain ⟨q1, q2, rfl⟩ := h1.form
      have Hq : ∀ q : Bool, p ss[k] = q → Hid (p ss[k] = q) := fun q h => h
      generalize hq : p ss[k] = q at hcall
      have hq' := Hq q hq
      clear Hq hq
      cases q
      · go_wp2_with ((with_reducible refine hcall.mono ?_); clear hcall; rintro e w1 ⟨rfl, hb1⟩)
        go_roundw
        case rel => exact ⟨k + 1, by omega, by go_num, by rw [hn.out, hdrop.out]; simp only [Hid, firstAt]; simp [hq'.out], hb.trans hb1⟩
        case measure => simp [intOf]; omega
      · go_wp2_with ((with_reducible refine hcall.mono ?_); clear hcall; rintro e w1 ⟨rfl, hb1⟩)
        go_ret
        exact ⟨by rw [hn.out, hdrop.out]; simp only [firstAt]; simp [hq'.out], hb.trans hb1⟩
    · go_wp2
      go_ret
      exact ⟨by rw [hn.out, List.drop_eq_nil_of_le (by omega)]; rfl, hb⟩

theorem ContainsSteps_c (f : Nat) (caps : Array Value) (eg : ∀ args w, (callFunc f args).run Tryd.prog w = .ok (.enter f args) w) (p : Stp → Bool) (ss : List Stp) (v : Value) (w : World)
    (hv : IsSteps All w v ss) (hf : Asks Tryd.prog f caps (fun w' x v => IsStep All w' v x) p ss w) :
    Calls Tryd.prog 26 #[v, .func (.func f) #[] caps] w fun e w' => e = .returned (.bool (ss.any p)) ∧ Keeps All w w' := by
  have hc := IndexSteps_c f caps eg p ss v w hv hf
  have hb := firstAt_lt p ss 0
  have hl : ss.length ≤ 140737488351232 := by obtain ⟨_, _, _, hl, _⟩ := hv; exact hl
  have ha := hid (firstAt_any p ss 0)
  generalize firstAt p ss 0 = q at hc hb ha
  obtain ⟨hb1, hb2⟩ := hb
  clear hf hv eg
  go_enter Tryd.func26, Tryd.ntmps26
  go_wp2_with (go_at_call 52; refine hc.mono ?_; clear hc; rintro e w1 ⟨rfl, hb1⟩)
  go_ret
  exact ⟨by rw [ha.out]; rfl, hb1⟩

theorem eg_Few1 : ∀ args w, (callFunc 27 args).run Tryd.prog w = .ok (.enter 27 args) w := enters_of Tryd.func27 (by kernel_rfl) rfl

theorem Few_c (ss : List Stp) (most : Int) (v : Value) (w : World) (hv : IsProof All w v ss) :
    Calls Tryd.prog 6 #[v, .int .i64 most] w fun e w' => e = .returned (.bool (fewM ss most)) ∧ Keeps All w w' := by
  obtain ⟨u, rfl, h⟩ := hv
  have hk0 : Keeps All w (w.alloc (.cells #[u] 24)) := (Keeps.refl _ _).alloc _
  have hc := ContainsSteps_c 27 #[] eg_Few1 (fun s => decide (60 < s.args.length)) ss u _ (h.keep hk0 fun _ _ h => h) (fun x _ w' v' _ hx => Few1_c x v' w' hx)
  obtain ⟨a, c, rfl⟩ := h.form
  have hl : ss.length ≤ 140737488351232 := by obtain ⟨_, _, _, hl, _⟩ := h; exact hl
  have hfew : ∀ q, (ss.any fun s => decide (60 < s.args.length)) = q → Hid ((ss.any fun s => decide (60 < s.args.length)) = q) := fun q h => h
  generalize hq : (ss.any fun s => decide (60 < s.args.length)) = q at hc
  have Hq := hfew q hq
  clear hfew hq
  by_cases hle : (ss.length : Int) ≤ most
  · have Hle := hid hle
    go_enter Tryd.func6, Tryd.ntmps6
    go_wp2_with (go_at_call 26; refine Hid.out ?_)
    refine hid ?_
    refine hc.mono ?_
    clear hc
    rintro e w1 ⟨rfl, hk1⟩
    go_wp2
    go_ret
    exact ⟨ret_bool (by unfold fewM; rw [Hq.out, decide_eq_true Hle.out]; rfl), hk0.trans hk1⟩
  · have Hle := hid hle
    clear hc
    go_enter Tryd.func6, Tryd.ntmps6
    go_wp2
    go_ret
    exact ⟨ret_bool (by unfold fewM; rw [decide_eq_false (by have := Hle.out; omega)]; rfl), hk0⟩

set_option maxHeartbeats 400000 in
theorem rsame_c (s t : Stp) (v u : Value) (w : World) (hv : IsStep All w v s) (hu : IsStep All w u t) :
    Calls Tryd.prog 46 #[v, u] w fun e w' => e = .returned (.bool (decide (s = t))) ∧ Keeps All w w' := by
  obtain ⟨va, rfl, h1⟩ := hv
  obtain ⟨vb, rfl, h2⟩ := hu
  obtain ⟨W0, hW0⟩ : ∃ W0, (w.alloc (.cells #[.string s.label, va] 45)).alloc (.cells #[.string t.label, vb] 45) = W0 := ⟨_, rfl⟩
  have hk0 : Keeps All w W0 := by rw [← hW0]; exact ((Keeps.refl _ _).alloc _).alloc _
  have r0 : IsRow W0 w.heap.size 45 [.string s.label, va] := by rw [← hW0]; exact (IsRow.new _ _ _).alloc _
  have r1 : IsRow W0 (w.heap.size + 1) 45 [.string t.label, vb] := by rw [← hW0]; exact IsRow.newAt (by simp)
  have h1' := h1.keep hk0 fun _ _ h => h
  have h2' := h2.keep hk0 fun _ _ h => h
  have hl1 : s.args.length ≤ 140737488351232 := by obtain ⟨_, _, _, hl, _⟩ := h1; exact hl
  have hl2 : t.args.length ≤ 140737488351232 := by obtain ⟨_, _, _, hl, _⟩ := h2; exact hl
  obtain ⟨a, c, rfl⟩ := h1.form
  obtain ⟨a2, c2, rfl⟩ := h2.form
  obtain ⟨c0, _, c1, _⟩ := r0.two
  obtain ⟨c3, _, c4, _⟩ := r1.two
  go_enter Tryd.func46, Tryd.ntmps46
  go_wp2
  · have hne : s ≠ t := fun h => by
      have hq : ((s.args.length : Int) != (t.args.length : Int)) = true := by assumption
      rw [h] at hq
      simp at hq
    go_ret
    exact ⟨ret_bool (decide_eq_false hne).symm, hk0⟩
  · have hlab : s.label = t.label := toList_inj.1 (by assumption)
    have hq : ((s.args.length : Int) != (t.args.length : Int)) = false := by assumption
    have hlen : s.args.length = t.args.length := by simp at hq; omega
    have Hlab := hid hlab
    have Hlen := hid hlen
    clear hlab hq hlen
    go_loopw [5] (fun i wr => ∃ k : Nat, k ≤ s.args.length ∧ i = .int .i64 k ∧ Hid (s.args.take k = t.args.take k) ∧ Keeps All W0 wr) (fun i _ => s.args.length - (intOf i).toNat)
    case atStart => exact ⟨0, Nat.zero_le _, rfl, by simp [Hid], Keeps.refl _ _⟩
    case round =>
      obtain ⟨k, hk, rfl, hn, hb⟩ := hrel
      obtain ⟨f0, _, f1, _⟩ := (r0.keep hb trivial).two
      obtain ⟨f3, _, f4, _⟩ := (r1.keep hb trivial).two
      by_cases hlt : k < s.args.length
      · have hlt1 : k < t.args.length := by rw [← Hlen.out]; exact hlt
        obtain ⟨b, off, rfl, d1⟩ := (h1'.keep hb fun _ _ h => h).at hlt
        obtain ⟨b2, off2, rfl, d2⟩ := (h2'.keep hb fun _ _ h => h).at hlt1
        by_cases he : s.args[k] = t.args[k]
        · have hnext := hid (take_eq_succ hlt hlt1 hn.out he)
          rw [he] at d1
          clear he
          go_wp2
          go_region
          go_wp2
          go_roundw
          case rel => exact ⟨k + 1, by omega, by go_num, hnext.out, hb.trans (Keeps.refl All _).drew⟩
          case measure => simp [intOf]; omega
        · have hne : s ≠ t := fun h => he (by simp only [h])
          have Hne := hid hne
          clear hne
          generalize s.args[k] = x at d1 he
          generalize t.args[k] = y at d2 he
          go_wp2
          go_region
          go_wp2
          go_ret
          exact ⟨ret_bool (decide_eq_false Hne.out).symm, (hk0.trans hb).trans (Keeps.refl All _).drew⟩
      · have heq : s = t := Stp.ext' Hlab.out (by have := hn.out; rwa [List.take_of_length_le (by omega), List.take_of_length_le (by rw [← Hlen.out]; omega)] at this)
        have Heq := hid heq
        clear heq
        go_wp2
        go_ret
        exact ⟨ret_bool (decide_eq_true Heq.out).symm, hk0.trans hb⟩
  · have hne : s ≠ t := fun h => by
      have hq : ¬ s.label.toList = t.label.toList := by assumption
      exact hq (by rw [h])
    go_ret
    exact ⟨ret_bool (decide_eq_false hne).symm, hk0⟩

/-- The region that compares two steps. -/
def EqReg (n0 k : Nat) (p q : Value) (pa qa : Addr) (s t : Value) (d : Bool) (T : Array Value) (W0 : World) (c : Nat → Bool) (a' : Act) (w' : World) : Prop :=
  a' = Act.mk (sIs T [(c 0, 20, .pointer (some ⟨n0, 0, none⟩)), (c 1, 21, p), (c 2, 22, .int .i64 k), (c 3, 23, .pointer (some pa)), (c 4, 24, s), (c 5, 25, .pointer (some ⟨n0 + 1, 0, none⟩)), (c 6, 26, q), (c 7, 27, .int .i64 k),
    (c 8, 28, .pointer (some qa)), (c 9, 29, t), (c 10, 30, .bool d), (c 11, 31, .bool !d)]) [] ∧ Keeps All W0 w'

set_option maxHeartbeats 1000000 in
theorem rEqual_c (ss ts : List Stp) (v u : Value) (w : World) (hv : IsProof All w v ss) (hu : IsProof All w u ts) :
    Calls Tryd.prog 18 #[v, u] w fun e w' => e = .returned (.bool (decide (ss = ts))) ∧ Keeps All w w' := by
  obtain ⟨va, rfl, h1⟩ := hv
  obtain ⟨vb, rfl, h2⟩ := hu
  obtain ⟨W0, hW0⟩ : ∃ W0, (w.alloc (.cells #[va] 24)).alloc (.cells #[vb] 24) = W0 := ⟨_, rfl⟩
  have hk0 : Keeps All w W0 := by rw [← hW0]; exact ((Keeps.refl _ _).alloc _).alloc _
  have r0 : IsRow W0 w.heap.size 24 [va] := by rw [← hW0]; exact (IsRow.new _ _ _).alloc _
  have r1 : IsRow W0 (w.heap.size + 1) 24 [vb] := by rw [← hW0]; exact IsRow.newAt (by simp)
  have h1' := h1.keep hk0 fun _ _ h => h
  have h2' := h2.keep hk0 fun _ _ h => h
  have hl1 : ss.length ≤ 140737488351232 := by obtain ⟨_, _, _, hl, _⟩ := h1; exact hl
  have hl2 : ts.length ≤ 140737488351232 := by obtain ⟨_, _, _, hl, _⟩ := h2; exact hl
  obtain ⟨a, c, rfl⟩ := h1.form
  obtain ⟨a2, c2, rfl⟩ := h2.form
  obtain ⟨c0, _⟩ := r0.one
  obtain ⟨c3, _⟩ := r1.one
  clear h1 h2
  refine (callsIn_wide (n := 5)).1 ?_
  refine callsIn_of_wp Tryd.func18 rfl trivial ?_ rfl
  simp only [Tryd.ntmps18, List.size_toArray, List.length_cons, List.length_nil, Nat.reduceAdd, Nat.reduceSub, Array.replicate_succ, Array.replicate_zero, List.push_toArray, List.append_toArray, List.nil_append, List.cons_append]
  gi_wp2
  · have hne : ss ≠ ts := fun h => by
      have hq : ((ss.length : Int) != (ts.length : Int)) = true := by assumption
      rw [h] at hq
      simp at hq
    go_ret
    exact ⟨ret_bool (decide_eq_false hne).symm, hk0⟩
  · have hq : ((ss.length : Int) != (ts.length : Int)) = false := by assumption
    have hlen : ss.length = ts.length := by simp at hq; omega
    have Hlen := hid hlen
    clear hlen hq
    gi_loopw [5] (fun i wr => ∃ k : Nat, k ≤ ss.length ∧ i = .int .i64 k ∧ Hid (ss.take k = ts.take k) ∧ Keeps All W0 wr) (fun i _ => ss.length - (intOf i).toNat)
    case atStart => exact ⟨0, Nat.zero_le _, rfl, by simp [Hid], Keeps.refl _ _⟩
    case round =>
      obtain ⟨k, hk, rfl, hn, hb⟩ := hrel
      obtain ⟨f0, _⟩ := (r0.keep hb trivial).one
      obtain ⟨f3, _⟩ := (r1.keep hb trivial).one
      by_cases hlt : k < ss.length
      · have hlt1 : k < ts.length := by rw [← Hlen.out]; exact hlt
        obtain ⟨b, off, va, rfl, d0, d1, h1⟩ := (h1'.keep hb fun _ _ h => h).at hlt
        obtain ⟨b2, off2, vb, rfl, d2, d3, h2⟩ := (h2'.keep hb fun _ _ h => h).at hlt1
        obtain ⟨q1, q2, rfl⟩ := h1.form
        obtain ⟨q3, q4, rfl⟩ := h2.form
        have hnext := hid (take_eq_succ hlt hlt1 hn.out)
        obtain ⟨d, hd⟩ : ∃ d, d = decide (ss[k] = ts[k]) := ⟨_, rfl⟩
        have Hd := hid hd
        clear hd
        gi_wp2
        refine wpIn_region_inv (EqReg w.heap.size k (.slice (some ⟨b, off, none⟩) ss.length c) (.slice (some ⟨b2, off2, none⟩) ts.length c2) ⟨b, off + k * 2, none⟩ ⟨b2, off2 + k * 2, none⟩ (.agg #[.string ss[k].label, .slice q1 ss[k].args.length q2]) (.agg #[.string ts[k].label, .slice q3 ts[k].args.length q4]) d) mixed (by kernel_rfl) ?start ⟨?o0, ?o1, ?o2, ?o3, ?o4, ?o5, ?o6, ?o7, ?o8, ?o9, ?o10, ?o11, trivial⟩ ?fin
        case start => exact ⟨by simp only [sIs_nil, sIs_cons, sI_false], (Keeps.refl _ _).drew⟩
        case o0 =>
          rintro b' a' w' hb hd ⟨rfl, hk⟩
          simp only [sIs_nil, sIs_cons, sI_lit, lset_zero, lset_succ]
          clear hd
          gi_wp2
          exact ⟨by simp [sIs_nil, sIs_cons, sI_lit, lset_zero, lset_succ, mark], hk⟩
        case o1 =>
          rintro b' a' w' hb hd ⟨rfl, hk⟩
          have e0 : b' 0 = true := hd { on := 0, ground := Ground.data } (by simp) rfl
          have f1 : w'.cell? ⟨w.heap.size, 0, none⟩ = some (.slice (some ⟨b, off, none⟩) ss.length c) := hk.cell (p := ⟨w.heap.size, 0, none⟩) trivial f0
          simp only [sIs_nil, sIs_cons, sI_lit, lset_zero, lset_succ, e0, cond_true]
          clear hd
          gi_wp2
          exact ⟨by simp [sIs_nil, sIs_cons, sI_lit, lset_zero, lset_succ, mark, e0], hk⟩
        case o2 =>
          rintro b' a' w' hb hd ⟨rfl, hk⟩
          simp only [sIs_nil, sIs_cons, sI_lit, lset_zero, lset_succ]
          clear hd
          gi_wp2
          exact ⟨by simp [sIs_nil, sIs_cons, sI_lit, lset_zero, lset_succ, mark], hk⟩
        case o3 =>
          rintro b' a' w' hb hd ⟨rfl, hk⟩
          have e1 : b' 1 = true := hd { on := 1, ground := Ground.data } (by simp) rfl
          have e2 : b' 2 = true := hd { on := 2, ground := Ground.data } (by simp) rfl
          simp only [sIs_nil, sIs_cons, sI_lit, lset_zero, lset_succ, e1, e2, cond_true]
          clear hd
          gi_wp2
          exact ⟨by simp [sIs_nil, sIs_cons, sI_lit, lset_zero, lset_succ, mark, e1, e2], hk⟩
        case o4 =>
          rintro b' a' w' hb hd ⟨rfl, hk⟩
          have e3 : b' 3 = true := hd { on := 3, ground := Ground.data } (by simp) rfl
          have g0 : w'.cell? ⟨b, off + k * 2, none⟩ = some (.string ss[k].label) := hk.cell (p := ⟨b, off + k * 2, none⟩) trivial d0
          have g1 : w'.cell? ⟨b, off + k * 2 + 1, none⟩ = some (.slice q1 ss[k].args.length q2) := hk.cell (p := ⟨b, off + k * 2 + 1, none⟩) trivial d1
          simp only [sIs_nil, sIs_cons, sI_lit, lset_zero, lset_succ, e3, cond_true]
          clear hd
          gi_wp2
          exact ⟨by simp [sIs_nil, sIs_cons, sI_lit, lset_zero, lset_succ, mark, e3], hk⟩
        case o5 =>
          rintro b' a' w' hb hd ⟨rfl, hk⟩
          simp only [sIs_nil, sIs_cons, sI_lit, lset_zero, lset_succ]
          clear hd
          gi_wp2
          exact ⟨by simp [sIs_nil, sIs_cons, sI_lit, lset_zero, lset_succ, mark], hk⟩
        case o6 =>
          rintro b' a' w' hb hd ⟨rfl, hk⟩
          have e5 : b' 5 = true := hd { on := 5, ground := Ground.data } (by simp) rfl
          have f1 : w'.cell? ⟨w.heap.size + 1, 0, none⟩ = some (.slice (some ⟨b2, off2, none⟩) ts.length c2) := hk.cell (p := ⟨w.heap.size + 1, 0, none⟩) trivial f3
          simp only [sIs_nil, sIs_cons, sI_lit, lset_zero, lset_succ, e5, cond_true]
          clear hd
          gi_wp2
          exact ⟨by simp [sIs_nil, sIs_cons, sI_lit, lset_zero, lset_succ, mark, e5], hk⟩
        case o7 =>
          rintro b' a' w' hb hd ⟨rfl, hk⟩
          simp only [sIs_nil, sIs_cons, sI_lit, lset_zero, lset_succ]
          clear hd
          gi_wp2
          exact ⟨by simp [sIs_nil, sIs_cons, sI_lit, lset_zero, lset_succ, mark], hk⟩
        case o8 =>
          rintro b' a' w' hb hd ⟨rfl, hk⟩
          have e6 : b' 6 = true := hd { on := 6, ground := Ground.data } (by simp) rfl
          have e7 : b' 7 = true := hd { on := 7, ground := Ground.data } (by simp) rfl
          simp only [sIs_nil, sIs_cons, sI_lit, lset_zero, lset_succ, e6, e7, cond_true]
          clear hd
          gi_wp2
          exact ⟨by simp [sIs_nil, sIs_cons, sI_lit, lset_zero, lset_succ, mark, e6, e7], hk⟩
        case o9 =>
          rintro b' a' w' hb hd ⟨rfl, hk⟩
          have e8 : b' 8 = true := hd { on := 8, ground := Ground.data } (by simp) rfl
          have g0 : w'.cell? ⟨b2, off2 + k * 2, none⟩ = some (.string ts[k].label) := hk.cell (p := ⟨b2, off2 + k * 2, none⟩) trivial d2
          have g1 : w'.cell? ⟨b2, off2 + k * 2 + 1, none⟩ = some (.slice q3 ts[k].args.length q4) := hk.cell (p := ⟨b2, off2 + k * 2 + 1, none⟩) trivial d3
          simp only [sIs_nil, sIs_cons, sI_lit, lset_zero, lset_succ, e8, cond_true]
          clear hd
          gi_wp2
          exact ⟨by simp [sIs_nil, sIs_cons, sI_lit, lset_zero, lset_succ, mark, e8], hk⟩
        case o10 =>
          rintro b' a' w' hb hd ⟨rfl, hk⟩
          have e4 : b' 4 = true := hd { on := 4, ground := Ground.data } (by simp) rfl
          have e9 : b' 9 = true := hd { on := 9, ground := Ground.data } (by simp) rfl
          have hcall := rsame_c ss[k] ts[k] _ _ w' ⟨_, rfl, h1.keep hk fun _ _ h => h⟩ ⟨_, rfl, h2.keep hk fun _ _ h => h⟩
          rw [← Hd.out] at hcall
          simp only [sIs_nil, sIs_cons, sI_lit, lset_zero, lset_succ, e4, e9, cond_true]
          clear hd
          gi_wp2
          refine ⟨trivial, ?_⟩
          refine (callsIn_wide.2 hcall).mono ?_
          clear hcall
          rintro e w3 ⟨rfl, hk3⟩
          gi_wp2
          exact ⟨by simp [sIs_nil, sIs_cons, sI_lit, lset_zero, lset_succ, mark, e4, e9, Hlen.out], hk.trans hk3⟩
        case o11 =>
          rintro b' a' w' hb hd ⟨rfl, hk⟩
          have e10 : b' 10 = true := hd { on := 10, ground := Ground.data } (by simp) rfl
          simp only [sIs_nil, sIs_cons, sI_lit, lset_zero, lset_succ, e10, cond_true]
          clear hd
          gi_wp2
          exact ⟨by simp [sIs_nil, sIs_cons, sI_lit, lset_zero, lset_succ, mark, e10], hk⟩
        case fin =>
          rintro b' a' w' hb ⟨rfl, hk⟩
          have e0 := hb 0 (by decide)
          have e1 := hb 1 (by decide)
          have e2 := hb 2 (by decide)
          have e3 := hb 3 (by decide)
          have e4 := hb 4 (by decide)
          have e5 := hb 5 (by decide)
          have e6 := hb 6 (by decide)
          have e7 := hb 7 (by decide)
          have e8 := hb 8 (by decide)
          have e9 := hb 9 (by decide)
          have e10 := hb 10 (by decide)
          have e11 := hb 11 (by decide)
          clear hb
          simp only [sIs_nil, sIs_cons, sI_lit, lset_zero, lset_succ, e0, e1, e2, e3, e4, e5, e6, e7, e8, e9, e10, e11, cond_true]
          have hb2 := hb.trans hk
          have hne : d = false → Hid (ss ≠ ts) := fun h1 h => by
            rw [h1] at Hd
            have := Hd.out
            have h2 : ss[k] = ts[k] := by simp only [h]
            rw [decide_eq_true h2] at this
            cases this
          have hnx : d = true → Hid (ss.take (k + 1) = ts.take (k + 1)) := fun h1 => hnext.out (by
            rw [h1] at Hd
            exact of_decide_eq_true Hd.out.symm)
          clear e0 e1 e2 e3 e4 e5 e6 e7 e8 e9 e10 e11
          cases d
          · have Hne := hne rfl
            clear hne hnx
            gi_wp2
            go_ret
            exact ⟨ret_bool (decide_eq_false Hne.out).symm, hk0.trans hb2⟩
          · have Hnx := hnx rfl
            clear hne hnx
            gi_wp2
            go_roundw
            case rel => exact ⟨k + 1, by omega, by go_num, Hnx, hb2⟩
            case measure => simp [intOf]; omega
      · have heq : ss = ts := by have := hn.out; rwa [List.take_of_length_le (by omega), List.take_of_length_le (by rw [← Hlen.out]; omega)] at this
        have Heq := hid heq
        clear heq
        gi_wp2
        go_ret
        exact ⟨ret_bool (decide_eq_true Heq.out).symm, hk0.trans hb⟩

end Go.Proofs.YtcbmljfgmeeadaaDoor
