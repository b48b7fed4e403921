/-
  TEXTS APPENDED TO A ROW OF THE CALL'S OWN.
  CONTRACT: the reference's Names.
-/
import Derived.Test.YtcbmljfgmeeadaaDoorApp
import Derived.Laws.EntriesVeiled
import Derived.Test.YtcbmljfgmeeadaaDoorJG
import Derived.Test.YtcbmljfgmeeadaaDoorJH
import Derived.Test.YtcbmljfgmeeadaaDoorR4
namespace Go.Proofs.YtcbmljfgmeeadaaDoor
open Go.RowKit

/-- Texts are appended. -/
theorem append_strs {F : Fence} {n : Nat} (w : World) {ops : Array Oper} {rest : List Oper} {o : Oper} {a : Act} {Q : Exit → Act → World → Prop}
    (hg : o.guard = none) (s x : Operand) (hop : o.op = Op.call { callee := Callee.builtin Builtin.append, args := #[s, x], argTypes := #[36, 36] })
    (base : Nat) (v : Value) (xs : List ByteArray) (k : Nat) (hs : a.eval s = v) (hown : w.ownsRow base 9 1 v k (xs.map Value.string)) (ys : List ByteArray) (m gb off c : Nat) (hm : ys.length = m) (hx : a.eval x = .slice (some ⟨gb, off, none⟩) m c)
    (hc : ∀ i (h : i < ys.length), w.cell? ⟨gb, off + i, none⟩ = some (.string ys[i])) (b1 : k + m ≤ 1000000000) (b3 : base ≤ w.heap.size)
    (hK : ∀ v' w', w'.ownsRow base 9 1 v' (k + m) ((xs ++ ys).map Value.string) → Keeps (fun q => v.ownBlock ≠ some q) w w' → (v'.ownBlock = v.ownBlock ∨ v'.ownBlock = some w.heap.size) → wpListIn F n Tryd.prog ops Q rest (a.put o.dst v') w') :
    wpListIn F n Tryd.prog ops Q (o :: rest) a w := by
  obtain ⟨i, hi, h0, h1, h2⟩ := info_parts info_str'
  refine wpListIn_append_where w hg s x 36 hop base 9 i _ 1 16 Tryd.underlying36 hi h0 h1 h2 rfl (by decide) v k (xs.map Value.string) hs hown ⟨gb, off, none⟩ m c (ys.map Value.string) hx (by rw [List.length_map, hm, Nat.mul_one]) ?_ (by intro u hu; obtain ⟨y, _, rfl⟩ := List.mem_map.1 hu; rfl) (by unfold maxLen; omega) (by omega) b3 ?_
  · intro j u hu
    have hadd : (⟨gb, off, none⟩ : Addr).add j = ⟨gb, off + j, none⟩ := Go.WideShapes.add_plain gb off j
    rw [hadd]
    rw [List.getElem?_map] at hu
    cases hy : ys[j]? with
    | none => rw [hy] at hu; simp at hu
    | some y =>
      rw [hy] at hu
      obtain ⟨hj, rfl⟩ := List.getElem?_eq_some_iff.1 hy
      simp at hu; subst hu
      exact hc j hj
  · intro v' w' ho hgr hw
    refine hK v' w' (by rw [List.map_append]; exact ho) ⟨hgr.os, hgr.tape, hgr.output, hgr.size, fun q hlt hs => hgr.block q hlt (fun e => hs e.symm)⟩ hw

end Go.Proofs.YtcbmljfgmeeadaaDoor

namespace Go.Proofs.YtcbmljfgmeeadaaDoor
open Go.RowKit

attribute [local go_sem] Oper.semAt_some

def NmA (bx i t m : Nat) (ov : Value) (oa sa : Addr) (ua : Value) (x lab : ByteArray) (d : Bool) (T : Array Value) (W0 : World) (c : Nat → Bool) (a' : Act) (w' : World) : Prop :=
  a' = Act.mk (sIs T [(c 0, 25, .int .i64 (t : Int)), (c 1, 26, ov), (c 2, 27, .int .i64 (m : Int)), (c 3, 28, .bool true), (c 4, 29, .bool true), (c 5, 30, ov), (c 6, 31, .int .i64 (t : Int)), (c 7, 32, .pointer (some oa)), (c 8, 33, .string x), (c 9, 34, .pointer (some ⟨bx, 0, none⟩)), (c 10, 35, ua),
    (c 11, 36, .int .i64 (i : Int)), (c 12, 37, .pointer (some sa)), (c 13, 38, .pointer (some sa)), (c 14, 39, .string lab), (c 15, 40, .bool d), (c 16, 41, .bool d)]) [] ∧ Keeps All W0 w'
def NmA' (t m : Nat) (ov : Value) (T : Array Value) (W0 : World) (c : Nat → Bool) (a' : Act) (w' : World) : Prop :=
  a' = Act.mk (sIs T [(c 0, 25, .int .i64 (t : Int)), (c 1, 26, ov), (c 2, 27, .int .i64 (m : Int)), (c 3, 28, .bool false), (c 4, 29, .bool false), (c 5, 30, undef), (c 6, 31, undef), (c 7, 32, undef), (c 8, 33, undef), (c 9, 34, undef), (c 10, 35, undef),
    (c 11, 36, undef), (c 12, 37, undef), (c 13, 38, undef), (c 14, 39, undef), (c 15, 40, undef), (c 16, 41, .bool false)]) [] ∧ Keeps All W0 w'
def NmB (bx i t m : Nat) (ov : Value) (oa sa : Addr) (ua : Value) (x lab : ByteArray) (d : Bool) (T : Array Value) (W0 : World) (c : Nat → Bool) (a' : Act) (w' : World) : Prop :=
  a' = Act.mk (sIs T [(c 0, 44, .int .i64 (t : Int)), (c 1, 45, ov), (c 2, 46, .int .i64 (m : Int)), (c 3, 47, .bool false), (c 4, 48, .bool false), (c 5, 49, ov), (c 6, 50, .int .i64 (t : Int)), (c 7, 51, .pointer (some oa)), (c 8, 52, .string x), (c 9, 53, .pointer (some ⟨bx, 0, none⟩)), (c 10, 54, ua),
    (c 11, 55, .int .i64 (i : Int)), (c 12, 56, .pointer (some sa)), (c 13, 57, .pointer (some sa)), (c 14, 58, .string lab), (c 15, 59, .bool d), (c 16, 60, .bool d)]) [] ∧ Keeps All W0 w'
def NmB' (t m : Nat) (ov : Value) (T : Array Value) (W0 : World) (c : Nat → Bool) (a' : Act) (w' : World) : Prop :=
  a' = Act.mk (sIs T [(c 0, 44, .int .i64 (t : Int)), (c 1, 45, ov), (c 2, 46, .int .i64 (m : Int)), (c 3, 47, .bool true), (c 4, 48, .bool true), (c 5, 49, undef), (c 6, 50, undef), (c 7, 51, undef), (c 8, 52, undef), (c 9, 53, undef), (c 10, 54, undef),
    (c 11, 55, undef), (c 12, 56, undef), (c 13, 57, undef), (c 14, 58, undef), (c 15, 59, undef), (c 16, 60, .bool true)]) [] ∧ Keeps All W0 w'

theorem rNames_bad (ss : List Stp) (v : Value) (w : World) (hv : IsProof All w v ss) (hf : formM ss ≠ 0) :
    Calls Tryd.prog 25 #[v] w fun e w' => e = .returned (.slice none 0 0) ∧ Keeps All w w' := by
  obtain ⟨u, rfl, hs⟩ := hv
  have hk0 : Keeps All w (w.alloc (.cells #[u] 24)) := (Keeps.refl _ _).alloc _
  have hform := rForm_c ss (.agg #[u]) _ ⟨u, rfl, hs.keep hk0 fun _ _ h => h⟩
  obtain ⟨a, cap, rfl, hl, h⟩ := hs
  clear h
  generalize formM ss = e0 at hform hf
  have h0 : (e0 == 0) = false := by simpa using hf
  go_enter Tryd.func25, Tryd.ntmps25
  go_wp2_with (go_at_call 43; refine Hid.out ?_)
  refine hid ?_
  refine hform.mono ?_
  clear hform
  rintro e w1 ⟨rfl, hk1⟩
  go_wp2
  go_ret
  exact ⟨rfl, hk0.trans hk1⟩

theorem own_strs2 {W : World} {lo n : Nat} {v : Value} {xs : List ByteArray} (h : W.ownsRow lo 9 1 v n (xs.map Value.string)) : ∃ a c, v = .slice a xs.length c ∧ xs.length = n ∧ (n ≠ 0 → ∃ g, a = some ⟨g, 0, none⟩ ∧ lo ≤ g ∧ g < W.heap.size ∧ n ≤ c ∧ c ≤ maxLen ∧ ∀ i (h : i < xs.length), W.cell? ⟨g, 0 + i, none⟩ = some (.string xs[i])) := by
  have hl : xs.length = n := by have := h.1; simpa using this
  subst hl
  rcases h.2 with ⟨rfl, h0⟩ | ⟨g, cap, cur, rfl, hb, hg, h1, h2, _⟩
  · exact ⟨none, 0, by rw [h0], rfl, fun hn => absurd h0 hn⟩
  · refine ⟨_, cap, rfl, rfl, fun _ => ⟨g, rfl, hb, (Array.getElem?_eq_some_iff.1 hg).1, h1, h2, fun i hi => ?_⟩⟩
    have hc := h.cells (g := g) rfl i (.string xs[i]) (by simp [List.getElem?_eq_getElem hi])
    rw [show (⟨g, 0, none⟩ : Addr).add i = ⟨g, 0 + i, none⟩ from Go.WideShapes.add_plain g 0 i] at hc
    exact hc

/-- The list of names as it lies. -/
def NmList (w : World) (g m c : Nat) (xs : List ByteArray) : Prop := g < w.heap.size ∧ xs.length = m ∧ m ≤ c ∧ c ≤ maxLen ∧ ∀ i (h : i < xs.length), w.cell? ⟨g, i, none⟩ = some (.string xs[i])
theorem NmList.keep {w w' : World} {g m c : Nat} {xs : List ByteArray} (h : NmList w g m c xs) (hk : Keeps All w w') : NmList w' g m c xs :=
  ⟨by have := hk.size; have := h.1; omega, h.2.1, h.2.2.1, h.2.2.2.1, fun i hi => hk.cell (p := ⟨g, i, none⟩) trivial (h.2.2.2.2 i hi)⟩

set_option maxHeartbeats 8000000 in
theorem rNames_good (ss : List Stp) (v : Value) (w : World) (hv : IsProof All w v ss) (hok : Okay ss) :
    Calls Tryd.prog 25 #[v] w fun e w' => ∃ g c, e = .returned (.slice (some ⟨g, 0, none⟩) (namesTo ss ss.length).length c) ∧ IsStrs All w' (.slice (some ⟨g, 0, none⟩) (namesTo ss ss.length).length c) (namesTo ss ss.length) ∧ Keeps All w w' := by
  obtain ⟨u, rfl, hs⟩ := hv
  have hk0 : Keeps All w (w.alloc (.cells #[u] 24)) := (Keeps.refl _ _).alloc _
  have hform := rForm_c ss (.agg #[u]) _ ⟨u, rfl, hs.keep hk0 fun _ _ h => h⟩
  rw [(formM_zero ss).2 hok] at hform
  obtain ⟨a, cap, rfl⟩ := hs.form
  have hlen : ss.length ≤ 2000 := hok.2.1
  have hlen1 : 1 ≤ ss.length := hok.1
  have Hs := hid hs
  have Hok := hid hok
  clear hs hok
  refine (callsIn_wide (n := 5)).1 ?_
  refine callsIn_of_wp Tryd.func25 rfl trivial ?_ rfl
  simp only [Tryd.ntmps25, List.size_toArray, List.length_cons, List.length_nil, Nat.reduceAdd, Nat.reduceSub, Array.replicate_succ, Array.replicate_zero, List.push_toArray, List.append_toArray, List.nil_append, List.cons_append]
  gi_wp2
  refine ⟨trivial, ?_⟩
  refine (callsIn_wide.2 hform).mono ?_
  clear hform
  rintro e w1 ⟨rfl, hk1⟩
  have rp0 : IsRow w1 w.heap.size 24 [.slice a ss.length cap] := IsRow.keep (S := All) (IsRow.new _ _ _) hk1 trivial
  have hka : Keeps All w1 (w1.alloc (.cells #[] 9)) := (Keeps.refl _ _).alloc _
  have hk02 := (hk0.trans hk1).trans hka
  have rp1 := rp0.keep hka trivial
  have hnm1 : NmList (w1.alloc (.cells #[] 9)) w1.heap.size 0 0 [] := ⟨by simp, rfl, Nat.le_refl _, by simp [maxLen], fun i h => by simp at h⟩
  obtain ⟨c0, _⟩ := rp1.one
  have hnd := rneeded_c ss (.agg #[.slice a ss.length cap]) (w1.alloc (.cells #[] 9)) ⟨_, rfl, Hs.out.keep hk02 fun _ _ h => h⟩ Hok.out
  clear hk1 rp0
  gi_wp2
  refine ⟨trivial, ?_⟩
  refine (callsIn_wide.2 hnd).mono ?_
  clear hnd c0
  rintro e w2 ⟨nb, rfl, hnb, hrn, hk2⟩
  have rp2 := rp1.keep hk2 trivial
  have hk03 := hk02.trans hk2
  have hnm2 := hnm1.keep hk2
  have hnl : (neededM ss).length = ss.length := by simp [neededM]
  have hng : Hid (∀ k, k < ss.length → (neededM ss)[k]? = some (decide (k ∈ post ss))) := by
    intro k hk
    simp [neededM, hk]
  generalize neededM ss = Ln at *
  have Hnl := hid hnl
  have Hnm2 := hid hnm2
  clear hnl hnm1 hnm2 rp1 hk02 hka
  gi_wp2
  gi_loopw [3, 5] (fun ov iv wr => ∃ (k g m c : Nat), k ≤ ss.length ∧ iv = .int .i64 k ∧ ov = .slice (some ⟨g, 0, none⟩) m c ∧ Keeps All w2 wr ∧ Hid (NmList wr g m c (namesTo ss k))) (fun _ iv _ => ss.length - (intOf iv).toNat)
  case atStart => exact ⟨0, w1.heap.size, 0, 0, Nat.zero_le _, rfl, rfl, Keeps.refl _ _, by simpa [namesTo, Hid] using Hnm2.out⟩
  case round =>
    obtain ⟨k, g, m, c, hk, rfl, rfl, hkw, hnm⟩ := hrel
    by_cases hlt : k < ss.length
    · have hrnk := hrn.keep hkw trivial
      have d0 : wr.cell? ⟨nb, k, none⟩ = some (.bool (decide (k ∈ post ss))) := by rw [hrnk.cell, bools_get, hng.out k hlt]; rfl
      have hsucc := hid (namesTo_succ ss k)
      have hml : m ≤ 2000 := by have h1 := (namesTo_asc ss k).2.2; have h2 := hnm.out.2.1; omega
      have hmc := hnm.out.2.2.1
      have hcm : c ≤ 9223372036854775807 := by have := hnm.out.2.2.2.1; unfold maxLen at this; omega
      by_cases hin : k ∈ post ss
      · have hsx : Hid (namesTo ss (k + 1) = insU (labOf ss k) (namesTo ss k)) := by rw [Hid, hsucc.out, if_pos hin]
        simp only [hin, decide_true] at d0
        obtain ⟨b, off, va, rfl, e3, _, _⟩ := (Hs.out.keep (hk03.trans hkw) fun _ _ h => h).at hlt
        have hlabE : Hid (labOf ss k = ss[k].label) := by simp [Hid, labOf, hlt]
        rw [hlabE.out] at hsx
        generalize ss[k].label = lab at *
        generalize namesTo ss k = xs at *
        have hxl := hid hnm.out.2.1
        obtain ⟨wo, rfl⟩ : ∃ wo : World, wo = wr := ⟨_, rfl⟩
        clear hin hsucc
        gi_wp2
        gi_loopw [6] (fun tv wr => ∃ t : Nat, t ≤ m ∧ tv = .int .i64 t ∧ Keeps All wo wr ∧ Hid (∀ j (h : j < xs.length), j < t → sLt xs[j] lab = true)) (fun tv _ => m - (intOf tv).toNat)
        case atStart => exact ⟨0, Nat.zero_le _, rfl, Keeps.refl _ _, fun j h h' => by omega⟩
        case round =>
          obtain ⟨t, ht, rfl, hk3, hall⟩ := hrel
          have e3' : wr.cell? ⟨b, off + k * 2, none⟩ = some (.string lab) := hk3.cell (p := ⟨b, off + k * 2, none⟩) trivial e3
          have rp3 := rp2.keep (hkw.trans hk3) trivial
          by_cases htm : t < m
          · have htx : t < xs.length := by rw [hxl.out]; exact htm
            have d4 := (hnm.out.keep hk3).2.2.2.2 t htx
            have hnx : Hid (sLt xs[t] lab = true → ∀ j (h : j < xs.length), j < t + 1 → sLt xs[j] lab = true) := by
              intro h j hj hjt
              by_cases e : j = t
              · subst e; exact h
              · exact hall.out j hj (by omega)
            have hat0 : Hid (sLt xs[t] lab = false → insAt lab xs = t) := fun h => insAt_unique (by omega) hall.out fun _ => h
            have hgt : Hid (xs[t]? = some xs[t]) := List.getElem?_eq_getElem htx
            generalize xs[t] = y at *
            obtain ⟨dd, hdd⟩ : ∃ dd, Op.bytesLess y.toList lab.toList = dd := ⟨_, rfl⟩
            have hdE : Hid (sLt y lab = dd) := hdd
            rw [hdE.out] at hnx hat0
            gi_wp2
            refine wpIn_region_inv (NmA w.heap.size k t m (.slice (some ⟨g, 0, none⟩) m c) ⟨g, t, none⟩ ⟨b, off + k * 2, none⟩ (.slice (some ⟨b, off, none⟩) ss.length cap) y lab dd) mixed (by kernel_rfl) ?start ⟨?o0, ?o1, ?o2, ?o3, ?o4, ?o5, ?o6, ?o7, ?o8, ?o9, ?o10, ?o11, ?o12, ?o13, ?o14, ?o15, ?o16, trivial⟩ ?fin
            case start =>
              exact ⟨by simp only [sIs_nil, sIs_cons, sI_false], (Keeps.refl _ _).drew⟩
            case o0 =>
              rintro b' a' w8 hb hd ⟨rfl, hk8⟩
              simp only [sIs_nil, sIs_cons, sI_lit, lset_zero, lset_succ]
              gi_wp2
              refine ⟨by simp [sIs_nil, sIs_cons, sI_lit, lset_zero, lset_succ, mark], hk8⟩
            case o1 =>
              rintro b' a' w8 hb hd ⟨rfl, hk8⟩
              simp only [sIs_nil, sIs_cons, sI_lit, lset_zero, lset_succ]
              gi_wp2
              refine ⟨by simp [sIs_nil, sIs_cons, sI_lit, lset_zero, lset_succ, mark], hk8⟩
            case o2 =>
              rintro b' a' w8 hb hd ⟨rfl, hk8⟩
              simp [Region.binds] at hd
              simp only [sIs_nil, sIs_cons, sI_lit, lset_zero, lset_succ, hd, cond_true]
              gi_wp2
              refine ⟨by simp [sIs_nil, sIs_cons, sI_lit, lset_zero, lset_succ, mark, hd], hk8⟩
            case o3 =>
              rintro b' a' w8 hb hd ⟨rfl, hk8⟩
              simp [Region.binds] at hd
              simp only [sIs_nil, sIs_cons, sI_lit, lset_zero, lset_succ, hd, cond_true]
              gi_wp2
              refine ⟨by simp [sIs_nil, sIs_cons, sI_lit, lset_zero, lset_succ, mark, hd], hk8⟩
            case o4 =>
              rintro b' a' w8 hb hd ⟨rfl, hk8⟩
              simp [Region.binds] at hd
              simp only [sIs_nil, sIs_cons, sI_lit, lset_zero, lset_succ, hd, cond_true]
              gi_wp2
              refine ⟨by simp [sIs_nil, sIs_cons, sI_lit, lset_zero, lset_succ, mark, hd], hk8⟩
            case o5 =>
              rintro b' a' w8 hb hd ⟨rfl, hk8⟩
              simp [Region.binds] at hd
              simp only [sIs_nil, sIs_cons, sI_lit, lset_zero, lset_succ, hd, cond_true]
              gi_wp2
              refine ⟨by simp [sIs_nil, sIs_cons, sI_lit, lset_zero, lset_succ, mark, hd], hk8⟩
            case o6 =>
              rintro b' a' w8 hb hd ⟨rfl, hk8⟩
              simp [Region.binds] at hd
              simp only [sIs_nil, sIs_cons, sI_lit, lset_zero, lset_succ, hd, cond_true]
              gi_wp2
              refine ⟨by simp [sIs_nil, sIs_cons, sI_lit, lset_zero, lset_succ, mark, hd], hk8⟩
            case o7 =>
              rintro b' a' w8 hb hd ⟨rfl, hk8⟩
              simp [Region.binds] at hd
              simp only [sIs_nil, sIs_cons, sI_lit, lset_zero, lset_succ, hd, cond_true]
              gi_wp2
              refine ⟨by simp [sIs_nil, sIs_cons, sI_lit, lset_zero, lset_succ, mark, hd], hk8⟩
            case o8 =>
              rintro b' a' w8 hb hd ⟨rfl, hk8⟩
              simp [Region.binds] at hd
              have g0 : w8.cell? ⟨g, t, none⟩ = some (.string y) := (hk8).cell (p := ⟨g, t, none⟩) trivial d4
              simp only [sIs_nil, sIs_cons, sI_lit, lset_zero, lset_succ, hd, cond_true]
              gi_wp2
              refine ⟨by simp [sIs_nil, sIs_cons, sI_lit, lset_zero, lset_succ, mark, hd], hk8⟩
            case o9 =>
              rintro b' a' w8 hb hd ⟨rfl, hk8⟩
              simp [Region.binds] at hd
              simp only [sIs_nil, sIs_cons, sI_lit, lset_zero, lset_succ, hd, cond_true]
              gi_wp2
              refine ⟨by simp [sIs_nil, sIs_cons, sI_lit, lset_zero, lset_succ, mark, hd], hk8⟩
            case o10 =>
              rintro b' a' w8 hb hd ⟨rfl, hk8⟩
              simp [Region.binds] at hd
              have g0 : w8.cell? ⟨w.heap.size, 0, none⟩ = some (.slice (some ⟨b, off, none⟩) ss.length cap) := (rp3.keep (hk8) trivial).cell 0
              simp only [sIs_nil, sIs_cons, sI_lit, lset_zero, lset_succ, hd, cond_true]
              gi_wp2
              refine ⟨by simp [sIs_nil, sIs_cons, sI_lit, lset_zero, lset_succ, mark, hd], hk8⟩
            case o11 =>
              rintro b' a' w8 hb hd ⟨rfl, hk8⟩
              simp [Region.binds] at hd
              simp only [sIs_nil, sIs_cons, sI_lit, lset_zero, lset_succ, hd, cond_true]
              gi_wp2
              refine ⟨by simp [sIs_nil, sIs_cons, sI_lit, lset_zero, lset_succ, mark, hd], hk8⟩
            case o12 =>
              rintro b' a' w8 hb hd ⟨rfl, hk8⟩
              simp [Region.binds] at hd
              simp only [sIs_nil, sIs_cons, sI_lit, lset_zero, lset_succ, hd, cond_true]
              gi_wp2
              refine ⟨by simp [sIs_nil, sIs_cons, sI_lit, lset_zero, lset_succ, mark, hd], hk8⟩
            case o13 =>
              rintro b' a' w8 hb hd ⟨rfl, hk8⟩
              simp [Region.binds] at hd
              simp only [sIs_nil, sIs_cons, sI_lit, lset_zero, lset_succ, hd, cond_true]
              gi_wp2
              refine ⟨by simp [sIs_nil, sIs_cons, sI_lit, lset_zero, lset_succ, mark, hd], hk8⟩
            case o14 =>
              rintro b' a' w8 hb hd ⟨rfl, hk8⟩
              simp [Region.binds] at hd
              have g0 : w8.cell? ⟨b, off + k * 2, none⟩ = some (.string lab) := (hk8).cell (p := ⟨b, off + k * 2, none⟩) trivial e3'
              simp only [sIs_nil, sIs_cons, sI_lit, lset_zero, lset_succ, hd, cond_true]
              gi_wp2
              refine ⟨by simp [sIs_nil, sIs_cons, sI_lit, lset_zero, lset_succ, mark, hd], hk8⟩
            case o15 =>
              rintro b' a' w8 hb hd ⟨rfl, hk8⟩
              simp [Region.binds] at hd
              simp only [sIs_nil, sIs_cons, sI_lit, lset_zero, lset_succ, hd, cond_true]
              gi_wp2
              refine ⟨by simp [sIs_nil, sIs_cons, sI_lit, lset_zero, lset_succ, mark, hd], hk8⟩
            case o16 =>
              rintro b' a' w8 hb hd ⟨rfl, hk8⟩
              simp [Region.binds] at hd
              simp only [sIs_nil, sIs_cons, sI_lit, lset_zero, lset_succ, hd, cond_true]
              gi_wp2
              refine ⟨by simp [sIs_nil, sIs_cons, sI_lit, lset_zero, lset_succ, mark, hd], hk8⟩
            case fin =>
              rintro b' a' w8 hb ⟨rfl, hk8⟩
              have e0 := hb 0 (by decide)
              have e1 := hb 1 (by decide)
              have e2 := hb 2 (by decide)
              have e3 := hb 3 (by decide)
              have e4 := hb 4 (by decide)
              have e5 := hb 5 (by decide)
              have e6 := hb 6 (by decide)
              have e7 := hb 7 (by decide)
              have e8 := hb 8 (by decide)
              have e9 := hb 9 (by decide)
              have e10 := hb 10 (by decide)
              have e11 := hb 11 (by decide)
              have e12 := hb 12 (by decide)
              have e13 := hb 13 (by decide)
              have e14 := hb 14 (by decide)
              have e15 := hb 15 (by decide)
              have e16 := hb 16 (by decide)
              clear hb
              simp only [sIs_nil, sIs_cons, sI_lit, lset_zero, lset_succ, e0, e1, e2, e3, e4, e5, e6, e7, e8, e9, e10, e11, e12, e13, e14, e15, e16, cond_true]
              clear e0 e1 e2 e3 e4 e5 e6 e7 e8 e9 e10 e11 e12 e13 e14 e15 e16
              have hk38 := hk3.trans hk8
              cases dd with
              | true =>
                gi_wp2
                go_roundw
                case rel => exact ⟨t + 1, by omega, by go_num, hk38, hnx.out rfl⟩
                case measure => simp [intOf]; omega
              | false =>
                have hat := hid (hat0.out rfl)
                have hteq : ((t : Int) == (m : Int)) = false := by rw [beq_eq_false_iff_ne]; omega
                obtain ⟨dd, hdd⟩ : ∃ dd, (!(y.toList == lab.toList)) = dd := ⟨_, rfl⟩
                have Hdd := hid hdd
                clear hnx hat0
                gi_wp2
                refine wpIn_region_inv (NmB w.heap.size k t m (.slice (some ⟨g, 0, none⟩) m c) ⟨g, t, none⟩ ⟨b, off + k * 2, none⟩ (.slice (some ⟨b, off, none⟩) ss.length cap) y lab dd) mixed (by kernel_rfl) ?start ⟨?o0, ?o1, ?o2, ?o3, ?o4, ?o5, ?o6, ?o7, ?o8, ?o9, ?o10, ?o11, ?o12, ?o13, ?o14, ?o15, ?o16, trivial⟩ ?fin
                case start =>
                  exact ⟨by simp only [sIs_nil, sIs_cons, sI_false], (Keeps.refl _ _).drew⟩
                case o0 =>
                  rintro b' a' wB hb hd ⟨rfl, hkB⟩
                  simp only [sIs_nil, sIs_cons, sI_lit, lset_zero, lset_succ]
                  gi_wp2
                  refine ⟨by simp [sIs_nil, sIs_cons, sI_lit, lset_zero, lset_succ, mark], hkB⟩
                case o1 =>
                  rintro b' a' wB hb hd ⟨rfl, hkB⟩
                  simp only [sIs_nil, sIs_cons, sI_lit, lset_zero, lset_succ]
                  gi_wp2
                  refine ⟨by simp [sIs_nil, sIs_cons, sI_lit, lset_zero, lset_succ, mark], hkB⟩
                case o2 =>
                  rintro b' a' wB hb hd ⟨rfl, hkB⟩
                  simp [Region.binds] at hd
                  simp only [sIs_nil, sIs_cons, sI_lit, lset_zero, lset_succ, hd, cond_true]
                  gi_wp2
                  refine ⟨by simp [sIs_nil, sIs_cons, sI_lit, lset_zero, lset_succ, mark, hd], hkB⟩
                case o3 =>
                  rintro b' a' wB hb hd ⟨rfl, hkB⟩
                  simp [Region.binds] at hd
                  simp only [sIs_nil, sIs_cons, sI_lit, lset_zero, lset_succ, hd, cond_true]
                  gi_wp2
                  refine ⟨by simp [sIs_nil, sIs_cons, sI_lit, lset_zero, lset_succ, mark, hd], hkB⟩
                case o4 =>
                  rintro b' a' wB hb hd ⟨rfl, hkB⟩
                  simp [Region.binds] at hd
                  simp only [sIs_nil, sIs_cons, sI_lit, lset_zero, lset_succ, hd, cond_true]
                  gi_wp2
                  refine ⟨by simp [sIs_nil, sIs_cons, sI_lit, lset_zero, lset_succ, mark, hd], hkB⟩
                case o5 =>
                  rintro b' a' wB hb hd ⟨rfl, hkB⟩
                  simp [Region.binds] at hd
                  simp only [sIs_nil, sIs_cons, sI_lit, lset_zero, lset_succ, hd, cond_true]
                  gi_wp2
                  refine ⟨by simp [sIs_nil, sIs_cons, sI_lit, lset_zero, lset_succ, mark, hd], hkB⟩
                case o6 =>
                  rintro b' a' wB hb hd ⟨rfl, hkB⟩
                  simp [Region.binds] at hd
                  simp only [sIs_nil, sIs_cons, sI_lit, lset_zero, lset_succ, hd, cond_true]
                  gi_wp2
                  refine ⟨by simp [sIs_nil, sIs_cons, sI_lit, lset_zero, lset_succ, mark, hd], hkB⟩
                case o7 =>
                  rintro b' a' wB hb hd ⟨rfl, hkB⟩
                  simp [Region.binds] at hd
                  simp only [sIs_nil, sIs_cons, sI_lit, lset_zero, lset_succ, hd, cond_true]
                  gi_wp2
                  refine ⟨by simp [sIs_nil, sIs_cons, sI_lit, lset_zero, lset_succ, mark, hd], hkB⟩
                case o8 =>
                  rintro b' a' wB hb hd ⟨rfl, hkB⟩
                  simp [Region.binds] at hd
                  have g0 : wB.cell? ⟨g, t, none⟩ = some (.string y) := (hk8.trans hkB).cell (p := ⟨g, t, none⟩) trivial d4
                  simp only [sIs_nil, sIs_cons, sI_lit, lset_zero, lset_succ, hd, cond_true]
                  gi_wp2
                  refine ⟨by simp [sIs_nil, sIs_cons, sI_lit, lset_zero, lset_succ, mark, hd], hkB⟩
                case o9 =>
                  rintro b' a' wB hb hd ⟨rfl, hkB⟩
                  simp [Region.binds] at hd
                  simp only [sIs_nil, sIs_cons, sI_lit, lset_zero, lset_succ, hd, cond_true]
                  gi_wp2
                  refine ⟨by simp [sIs_nil, sIs_cons, sI_lit, lset_zero, lset_succ, mark, hd], hkB⟩
                case o10 =>
                  rintro b' a' wB hb hd ⟨rfl, hkB⟩
                  simp [Region.binds] at hd
                  have g0 : wB.cell? ⟨w.heap.size, 0, none⟩ = some (.slice (some ⟨b, off, none⟩) ss.length cap) := (rp3.keep (hk8.trans hkB) trivial).cell 0
                  simp only [sIs_nil, sIs_cons, sI_lit, lset_zero, lset_succ, hd, cond_true]
                  gi_wp2
                  refine ⟨by simp [sIs_nil, sIs_cons, sI_lit, lset_zero, lset_succ, mark, hd], hkB⟩
                case o11 =>
                  rintro b' a' wB hb hd ⟨rfl, hkB⟩
                  simp [Region.binds] at hd
                  simp only [sIs_nil, sIs_cons, sI_lit, lset_zero, lset_succ, hd, cond_true]
                  gi_wp2
                  refine ⟨by simp [sIs_nil, sIs_cons, sI_lit, lset_zero, lset_succ, mark, hd], hkB⟩
                case o12 =>
                  rintro b' a' wB hb hd ⟨rfl, hkB⟩
                  simp [Region.binds] at hd
                  simp only [sIs_nil, sIs_cons, sI_lit, lset_zero, lset_succ, hd, cond_true]
                  gi_wp2
                  refine ⟨by simp [sIs_nil, sIs_cons, sI_lit, lset_zero, lset_succ, mark, hd], hkB⟩
                case o13 =>
                  rintro b' a' wB hb hd ⟨rfl, hkB⟩
                  simp [Region.binds] at hd
                  simp only [sIs_nil, sIs_cons, sI_lit, lset_zero, lset_succ, hd, cond_true]
                  gi_wp2
                  refine ⟨by simp [sIs_nil, sIs_cons, sI_lit, lset_zero, lset_succ, mark, hd], hkB⟩
                case o14 =>
                  rintro b' a' wB hb hd ⟨rfl, hkB⟩
                  simp [Region.binds] at hd
                  have g0 : wB.cell? ⟨b, off + k * 2, none⟩ = some (.string lab) := (hk8.trans hkB).cell (p := ⟨b, off + k * 2, none⟩) trivial e3'
                  simp only [sIs_nil, sIs_cons, sI_lit, lset_zero, lset_succ, hd, cond_true]
                  gi_wp2
                  refine ⟨by simp [sIs_nil, sIs_cons, sI_lit, lset_zero, lset_succ, mark, hd], hkB⟩
                case o15 =>
                  rintro b' a' wB hb hd ⟨rfl, hkB⟩
                  simp [Region.binds] at hd
                  simp only [sIs_nil, sIs_cons, sI_lit, lset_zero, lset_succ, hd, cond_true]
                  gi_wp2
                  refine ⟨by simp [sIs_nil, sIs_cons, sI_lit, lset_zero, lset_succ, mark, hd], hkB⟩
                case o16 =>
                  rintro b' a' wB hb hd ⟨rfl, hkB⟩
                  simp [Region.binds] at hd
                  simp only [sIs_nil, sIs_cons, sI_lit, lset_zero, lset_succ, hd, cond_true]
                  gi_wp2
                  refine ⟨by simp [sIs_nil, sIs_cons, sI_lit, lset_zero, lset_succ, mark, hd], hkB⟩
                case fin =>
                  rintro b' a' wB hb ⟨rfl, hkB⟩
                  have e0 := hb 0 (by decide)
                  have e1 := hb 1 (by decide)
                  have e2 := hb 2 (by decide)
                  have e3 := hb 3 (by decide)
                  have e4 := hb 4 (by decide)
                  have e5 := hb 5 (by decide)
                  have e6 := hb 6 (by decide)
                  have e7 := hb 7 (by decide)
                  have e8 := hb 8 (by decide)
                  have e9 := hb 9 (by decide)
                  have e10 := hb 10 (by decide)
                  have e11 := hb 11 (by decide)
                  have e12 := hb 12 (by decide)
                  have e13 := hb 13 (by decide)
                  have e14 := hb 14 (by decide)
                  have e15 := hb 15 (by decide)
                  have e16 := hb 16 (by decide)
                  clear hb
                  simp only [sIs_nil, sIs_cons, sI_lit, lset_zero, lset_succ, e0, e1, e2, e3, e4, e5, e6, e7, e8, e9, e10, e11, e12, e13, e14, e15, e16, cond_true]
                  clear e0 e1 e2 e3 e4 e5 e6 e7 e8 e9 e10 e11 e12 e13 e14 e15 e16
                  replace hk38 := hk38.trans hkB
                  cases dd with
                  | false =>
                    have hyl : y = lab := toList_inj.1 (by have := Hdd.out; simpa using this)
                    have hsame : Hid (insU lab xs = xs) := by
                      rw [Hid, insU, hat.out, if_pos (by rw [hgt.out, hyl])]
                    have hnmF := hid (hnm.out.keep hk38)
                    clear hyl
                    gi_wp2
                    go_roundw
                    case rel => exact ⟨k + 1, g, m, c, by omega, by go_num, rfl, hkw.trans hk38, by rw [hsx.out, hsame.out]; exact hnmF.out⟩
                    case measure => simp [intOf]; omega
                  | true =>
                    have hins : Hid (insU lab xs = xs.take t ++ lab :: xs.drop t) := by
                      rw [Hid, insU, hat.out, if_neg]
                      rw [hgt.out]
                      intro h
                      have h2 := Hdd.out
                      rw [Option.some.inj h] at h2
                      simp at h2
                    gi_wp2_with (gi_at_builtin; refine Hid.out ?_)
                    refine hid ?_
                    have hka : Keeps All wB (wB.alloc (.cells #[] 9)) := (Keeps.refl _ _).alloc _
                    have hnmA := hnm.out.keep (hk38.trans hka)
                    have hb0 : w.heap.size + 1 ≤ wB.heap.size := by have := (rp2.keep (hkw.trans hk38) trivial).lt; omega
                    have hwo : wo.heap.size ≤ wB.heap.size := hk38.size
                    refine append_strs _ rfl (.tmp 61) (.tmp 64) rfl (w.heap.size + 1) (.slice (some ⟨wB.heap.size, 0, none⟩) 0 0) [] 0 rfl (owns_none_str _ _ hb0) (xs.take t) t g 0 c (by rw [List.length_take, hxl.out]; omega) rfl (fun i hi => by
                      have hi2 : i < t := by rw [List.length_take] at hi; omega
                      rw [Nat.zero_add, hnmA.2.2.2.2 i (by rw [hxl.out]; omega)]
                      simp only [List.getElem_take]) (by omega) (by simp; omega) ?_
                    intro v1 w9 ho1 hk9 hw9
                    rw [Nat.zero_add, List.nil_append] at ho1
                    have hk9' : Keeps All wB w9 := hka.trans2 hk9 fun q hq _ e => by have e2 : wB.heap.size = q := Option.some.inj e; omega
                    obtain ⟨a1, c1, rfl⟩ := owns_form ho1
                    have hlo1 : Hid (∀ q, (Value.slice a1 t c1).ownBlock = some q → wB.heap.size ≤ q) := by
                      intro q e
                      rcases hw9 with h | h
                      · rw [h] at e; have e2 : wB.heap.size = q := Option.some.inj e; omega
                      · rw [h] at e; have e2 := Option.some.inj e; simp at e2; omega
                    have Ho1 := hid ho1
                    clear ho1 hnmA
                    simp only [Act.put, List.setIfInBounds_toArray, List.set_cons_succ, List.set_cons_zero]
                    have d5 : w9.cell? ⟨w.heap.size, 0, none⟩ = some (.slice (some ⟨b, off, none⟩) ss.length cap) := (rp2.keep ((hkw.trans hk38).trans hk9') trivial).cell 0
                    have d6 : w9.cell? ⟨b, off + k * 2, none⟩ = some (.string lab) := (hk38.trans hk9').cell (p := ⟨b, off + k * 2, none⟩) trivial e3
                    gi_wp2_with (gi_at_builtin; refine Hid.out ?_)
                    refine hid ?_
                    have hkb : Keeps All w9 (w9.alloc (.cells #[.string lab] 9)) := (Keeps.refl _ _).alloc _
                    have hs9 := hk9'.size
                    refine append_str _ rfl (.tmp 66) (.tmp 73) rfl (w.heap.size + 1) (.slice a1 t c1) ((xs.take t).map Value.string) t lab rfl (owns_keep Ho1.out hkb fun _ _ => trivial) w9.heap.size rfl (IsRow.new _ _ _) (by omega) (by simp; omega) ?_
                    intro g2 c2 w10 ho2 hk10 hw10
                    have hk10' : Keeps All wo w10 := ((hk38.trans hk9').trans hkb).trans2 hk10 fun q hq _ e => by have := hlo1.out q e; omega
                    have hg2 : wB.heap.size ≤ g2 := by
                      rcases hw10 with h | h
                      · exact hlo1.out g2 h.symm
                      · rw [h]; simp; omega
                    have Ho2 := hid ho2
                    clear d5 d6 ho2 hw10
                    simp only [Act.put, List.setIfInBounds_toArray, List.set_cons_succ, List.set_cons_zero]
                    have htc : t < c := by omega
                    gi_wp2_with (gi_at_builtin; refine Hid.out ?_)
                    refine hid ?_
                    have hnmB := hnm.out.keep hk10'
                    have hs10 := hk10'.size
                    refine append_strs _ rfl (.tmp 75) (.tmp 78) rfl (w.heap.size + 1) (.slice (some ⟨g2, 0, none⟩) (t + 1) c2) (xs.take t ++ [lab]) (t + 1) rfl (by rw [List.map_append]; exact Ho2.out) (xs.drop t) _ g t _ (by rw [List.length_drop, hxl.out]) rfl (fun i hi => by
                      rw [hnmB.2.2.2.2 (t + i) (by rw [hxl.out]; rw [List.length_drop, hxl.out] at hi; omega)]
                      simp only [List.getElem_drop]) (by omega) (by have := (rp2.keep (hkw.trans hk10') trivial).lt; omega) ?_
                    intro v3 w11 ho3 hk11 _
                    have hk11' : Keeps All wo w11 := hk10'.trans2 hk11 fun q hq _ e => by have e2 : g2 = q := Option.some.inj e; omega
                    obtain ⟨a3, c3, rfl, hl3, hg3⟩ := own_strs2 ho3
                    obtain ⟨g3, rfl, hb3, hb3', hc3, hm3, hcell3⟩ := hg3 (by omega)
                    have hnm3 : NmList w11 g3 (xs.take t ++ [lab] ++ xs.drop t).length c3 (xs.take t ++ [lab] ++ xs.drop t) := ⟨hb3', rfl, by omega, hm3, fun i hi => by have h := hcell3 i hi; rwa [Nat.zero_add] at h⟩
                    have Hnm3 := hid hnm3
                    clear ho3 hnm3 hcell3 hnmB hl3
                    simp only [Act.put, List.setIfInBounds_toArray, List.set_cons_succ, List.set_cons_zero]
                    gi_wp2
                    go_roundw
                    case rel => exact ⟨k + 1, g3, _, c3, by omega, by go_num, rfl, hkw.trans hk11', by rw [hsx.out, hins.out, show xs.take t ++ lab :: xs.drop t = xs.take t ++ [lab] ++ xs.drop t by simp]; exact Hnm3.out⟩
                    case measure => simp [intOf]; omega
          · have hteq : ((t : Int) == (m : Int)) = true := by rw [beq_iff_eq]; omega
            have hat : insAt lab xs = t := insAt_unique (by rw [hxl.out]; omega) hall.out fun h => absurd h (by rw [hxl.out]; omega)
            have hins : Hid (insU lab xs = xs.take t ++ lab :: xs.drop t) := by
              rw [Hid, insU, hat, if_neg]
              rw [List.getElem?_eq_none (by rw [hxl.out]; omega)]
              intro h; cases h
            have htm2 : m ≤ t := by omega
            clear hat htm
            gi_wp2
            refine wpIn_region_inv (NmA' t m (.slice (some ⟨g, 0, none⟩) m c)) mixed (by kernel_rfl) ?start ⟨?o0, ?o1, ?o2, ?o3, ?o4, ?o5, ?o6, ?o7, ?o8, ?o9, ?o10, ?o11, ?o12, ?o13, ?o14, ?o15, ?o16, trivial⟩ ?fin
            case start =>
              exact ⟨by simp only [sIs_nil, sIs_cons, sI_false], (Keeps.refl _ _).drew⟩
            case o0 =>
              rintro b' a' w8 hb hd ⟨rfl, hk8⟩
              simp only [sIs_nil, sIs_cons, sI_lit, lset_zero, lset_succ]
              gi_wp2
              refine ⟨by simp [sIs_nil, sIs_cons, sI_lit, lset_zero, lset_succ, mark], hk8⟩
            case o1 =>
              rintro b' a' w8 hb hd ⟨rfl, hk8⟩
              simp only [sIs_nil, sIs_cons, sI_lit, lset_zero, lset_succ]
              gi_wp2
              refine ⟨by simp [sIs_nil, sIs_cons, sI_lit, lset_zero, lset_succ, mark], hk8⟩
            case o2 =>
              rintro b' a' w8 hb hd ⟨rfl, hk8⟩
              simp [Region.binds] at hd
              simp only [sIs_nil, sIs_cons, sI_lit, lset_zero, lset_succ, hd, cond_true]
              gi_wp2
              refine ⟨by simp [sIs_nil, sIs_cons, sI_lit, lset_zero, lset_succ, mark, hd], hk8⟩
            case o3 =>
              rintro b' a' w8 hb hd ⟨rfl, hk8⟩
              simp [Region.binds] at hd
              simp only [sIs_nil, sIs_cons, sI_lit, lset_zero, lset_succ, hd, cond_true]
              gi_wp2
              exact ⟨by simp [sIs_nil, sIs_cons, sI_lit, lset_zero, lset_succ, mark, hd, htm2], hk8⟩
            case o4 =>
              rintro b' a' w8 hb hd ⟨rfl, hk8⟩
              simp [Region.binds] at hd
              simp only [sIs_nil, sIs_cons, sI_lit, lset_zero, lset_succ, hd, cond_true]
              gi_wp2
              refine ⟨by simp [sIs_nil, sIs_cons, sI_lit, lset_zero, lset_succ, mark, hd], hk8⟩
            case o5 =>
              rintro b' a' w8 hb hd ⟨rfl, hk8⟩
              simp [Region.binds] at hd
              simp only [sIs_nil, sIs_cons, sI_lit, lset_zero, lset_succ, hd, cond_true]
              gi_wp2
              refine ⟨by simp [sIs_nil, sIs_cons, sI_lit, lset_zero, lset_succ, mark, hd], hk8⟩
            case o6 =>
              rintro b' a' w8 hb hd ⟨rfl, hk8⟩
              simp [Region.binds] at hd
              simp only [sIs_nil, sIs_cons, sI_lit, lset_zero, lset_succ, hd, cond_true]
              gi_wp2
              refine ⟨by simp [sIs_nil, sIs_cons, sI_lit, lset_zero, lset_succ, mark, hd], hk8⟩
            case o7 =>
              rintro b' a' w8 hb hd ⟨rfl, hk8⟩
              simp [Region.binds] at hd
              simp only [sIs_nil, sIs_cons, sI_lit, lset_zero, lset_succ, hd, cond_true]
              gi_wp2
              refine ⟨by simp [sIs_nil, sIs_cons, sI_lit, lset_zero, lset_succ, mark, hd], hk8⟩
            case o8 =>
              rintro b' a' w8 hb hd ⟨rfl, hk8⟩
              simp [Region.binds] at hd
              simp only [sIs_nil, sIs_cons, sI_lit, lset_zero, lset_succ, hd, cond_true]
              gi_wp2
              refine ⟨by simp [sIs_nil, sIs_cons, sI_lit, lset_zero, lset_succ, mark, hd], hk8⟩
            case o9 =>
              rintro b' a' w8 hb hd ⟨rfl, hk8⟩
              simp [Region.binds] at hd
              simp only [sIs_nil, sIs_cons, sI_lit, lset_zero, lset_succ, hd, cond_true]
              gi_wp2
              refine ⟨by simp [sIs_nil, sIs_cons, sI_lit, lset_zero, lset_succ, mark, hd], hk8⟩
            case o10 =>
              rintro b' a' w8 hb hd ⟨rfl, hk8⟩
              simp [Region.binds] at hd
              simp only [sIs_nil, sIs_cons, sI_lit, lset_zero, lset_succ, hd, cond_true]
              gi_wp2
              refine ⟨by simp [sIs_nil, sIs_cons, sI_lit, lset_zero, lset_succ, mark, hd], hk8⟩
            case o11 =>
              rintro b' a' w8 hb hd ⟨rfl, hk8⟩
              simp [Region.binds] at hd
              simp only [sIs_nil, sIs_cons, sI_lit, lset_zero, lset_succ, hd, cond_true]
              gi_wp2
              refine ⟨by simp [sIs_nil, sIs_cons, sI_lit, lset_zero, lset_succ, mark, hd], hk8⟩
            case o12 =>
              rintro b' a' w8 hb hd ⟨rfl, hk8⟩
              simp [Region.binds] at hd
              simp only [sIs_nil, sIs_cons, sI_lit, lset_zero, lset_succ, hd, cond_true]
              gi_wp2
              refine ⟨by simp [sIs_nil, sIs_cons, sI_lit, lset_zero, lset_succ, mark, hd], hk8⟩
            case o13 =>
              rintro b' a' w8 hb hd ⟨rfl, hk8⟩
              simp [Region.binds] at hd
              simp only [sIs_nil, sIs_cons, sI_lit, lset_zero, lset_succ, hd, cond_true]
              gi_wp2
              refine ⟨by simp [sIs_nil, sIs_cons, sI_lit, lset_zero, lset_succ, mark, hd], hk8⟩
            case o14 =>
              rintro b' a' w8 hb hd ⟨rfl, hk8⟩
              simp [Region.binds] at hd
              simp only [sIs_nil, sIs_cons, sI_lit, lset_zero, lset_succ, hd, cond_true]
              gi_wp2
              refine ⟨by simp [sIs_nil, sIs_cons, sI_lit, lset_zero, lset_succ, mark, hd], hk8⟩
            case o15 =>
              rintro b' a' w8 hb hd ⟨rfl, hk8⟩
              simp [Region.binds] at hd
              simp only [sIs_nil, sIs_cons, sI_lit, lset_zero, lset_succ, hd, cond_true]
              gi_wp2
              refine ⟨by simp [sIs_nil, sIs_cons, sI_lit, lset_zero, lset_succ, mark, hd], hk8⟩
            case o16 =>
              rintro b' a' w8 hb hd ⟨rfl, hk8⟩
              simp [Region.binds] at hd
              simp only [sIs_nil, sIs_cons, sI_lit, lset_zero, lset_succ, hd, cond_true]
              gi_wp2
              refine ⟨by simp [sIs_nil, sIs_cons, sI_lit, lset_zero, lset_succ, mark, hd], hk8⟩
            case fin =>
              rintro b' a' w8 hb ⟨rfl, hk8⟩
              have e0 := hb 0 (by decide)
              have e1 := hb 1 (by decide)
              have e2 := hb 2 (by decide)
              have e3 := hb 3 (by decide)
              have e4 := hb 4 (by decide)
              have e5 := hb 5 (by decide)
              have e6 := hb 6 (by decide)
              have e7 := hb 7 (by decide)
              have e8 := hb 8 (by decide)
              have e9 := hb 9 (by decide)
              have e10 := hb 10 (by decide)
              have e11 := hb 11 (by decide)
              have e12 := hb 12 (by decide)
              have e13 := hb 13 (by decide)
              have e14 := hb 14 (by decide)
              have e15 := hb 15 (by decide)
              have e16 := hb 16 (by decide)
              clear hb
              simp only [sIs_nil, sIs_cons, sI_lit, lset_zero, lset_succ, e0, e1, e2, e3, e4, e5, e6, e7, e8, e9, e10, e11, e12, e13, e14, e15, e16, cond_true]
              clear e0 e1 e2 e3 e4 e5 e6 e7 e8 e9 e10 e11 e12 e13 e14 e15 e16
              gi_wp2
              refine wpIn_region_inv (NmB' t m (.slice (some ⟨g, 0, none⟩) m c)) mixed (by kernel_rfl) ?start ⟨?o0, ?o1, ?o2, ?o3, ?o4, ?o5, ?o6, ?o7, ?o8, ?o9, ?o10, ?o11, ?o12, ?o13, ?o14, ?o15, ?o16, trivial⟩ ?fin
              case start =>
                exact ⟨by simp only [sIs_nil, sIs_cons, sI_false], (Keeps.refl _ _).drew⟩
              case o0 =>
                rintro b' a' wB hb hd ⟨rfl, hkB⟩
                simp only [sIs_nil, sIs_cons, sI_lit, lset_zero, lset_succ]
                gi_wp2
                refine ⟨by simp [sIs_nil, sIs_cons, sI_lit, lset_zero, lset_succ, mark], hkB⟩
              case o1 =>
                rintro b' a' wB hb hd ⟨rfl, hkB⟩
                simp only [sIs_nil, sIs_cons, sI_lit, lset_zero, lset_succ]
                gi_wp2
                refine ⟨by simp [sIs_nil, sIs_cons, sI_lit, lset_zero, lset_succ, mark], hkB⟩
              case o2 =>
                rintro b' a' wB hb hd ⟨rfl, hkB⟩
                simp [Region.binds] at hd
                simp only [sIs_nil, sIs_cons, sI_lit, lset_zero, lset_succ, hd, cond_true]
                gi_wp2
                refine ⟨by simp [sIs_nil, sIs_cons, sI_lit, lset_zero, lset_succ, mark, hd], hkB⟩
              case o3 =>
                rintro b' a' wB hb hd ⟨rfl, hkB⟩
                simp [Region.binds] at hd
                simp only [sIs_nil, sIs_cons, sI_lit, lset_zero, lset_succ, hd, cond_true]
                gi_wp2
                refine ⟨by simp [sIs_nil, sIs_cons, sI_lit, lset_zero, lset_succ, mark, hd], hkB⟩
              case o4 =>
                rintro b' a' wB hb hd ⟨rfl, hkB⟩
                simp [Region.binds] at hd
                simp only [sIs_nil, sIs_cons, sI_lit, lset_zero, lset_succ, hd, cond_true]
                gi_wp2
                refine ⟨by simp [sIs_nil, sIs_cons, sI_lit, lset_zero, lset_succ, mark, hd], hkB⟩
              case o5 =>
                rintro b' a' wB hb hd ⟨rfl, hkB⟩
                simp [Region.binds] at hd
                simp only [sIs_nil, sIs_cons, sI_lit, lset_zero, lset_succ, hd, cond_true]
                gi_wp2
                refine ⟨by simp [sIs_nil, sIs_cons, sI_lit, lset_zero, lset_succ, mark, hd], hkB⟩
              case o6 =>
                rintro b' a' wB hb hd ⟨rfl, hkB⟩
                simp [Region.binds] at hd
                simp only [sIs_nil, sIs_cons, sI_lit, lset_zero, lset_succ, hd, cond_true]
                gi_wp2
                refine ⟨by simp [sIs_nil, sIs_cons, sI_lit, lset_zero, lset_succ, mark, hd], hkB⟩
              case o7 =>
                rintro b' a' wB hb hd ⟨rfl, hkB⟩
                simp [Region.binds] at hd
                simp only [sIs_nil, sIs_cons, sI_lit, lset_zero, lset_succ, hd, cond_true]
                gi_wp2
                refine ⟨by simp [sIs_nil, sIs_cons, sI_lit, lset_zero, lset_succ, mark, hd], hkB⟩
              case o8 =>
                rintro b' a' wB hb hd ⟨rfl, hkB⟩
                simp [Region.binds] at hd
                simp only [sIs_nil, sIs_cons, sI_lit, lset_zero, lset_succ, hd, cond_true]
                gi_wp2
                refine ⟨by simp [sIs_nil, sIs_cons, sI_lit, lset_zero, lset_succ, mark, hd], hkB⟩
              case o9 =>
                rintro b' a' wB hb hd ⟨rfl, hkB⟩
                simp [Region.binds] at hd
                simp only [sIs_nil, sIs_cons, sI_lit, lset_zero, lset_succ, hd, cond_true]
                gi_wp2
                refine ⟨by simp [sIs_nil, sIs_cons, sI_lit, lset_zero, lset_succ, mark, hd], hkB⟩
              case o10 =>
                rintro b' a' wB hb hd ⟨rfl, hkB⟩
                simp [Region.binds] at hd
                simp only [sIs_nil, sIs_cons, sI_lit, lset_zero, lset_succ, hd, cond_true]
                gi_wp2
                refine ⟨by simp [sIs_nil, sIs_cons, sI_lit, lset_zero, lset_succ, mark, hd], hkB⟩
              case o11 =>
                rintro b' a' wB hb hd ⟨rfl, hkB⟩
                simp [Region.binds] at hd
                simp only [sIs_nil, sIs_cons, sI_lit, lset_zero, lset_succ, hd, cond_true]
                gi_wp2
                refine ⟨by simp [sIs_nil, sIs_cons, sI_lit, lset_zero, lset_succ, mark, hd], hkB⟩
              case o12 =>
                rintro b' a' wB hb hd ⟨rfl, hkB⟩
                simp [Region.binds] at hd
                simp only [sIs_nil, sIs_cons, sI_lit, lset_zero, lset_succ, hd, cond_true]
                gi_wp2
                refine ⟨by simp [sIs_nil, sIs_cons, sI_lit, lset_zero, lset_succ, mark, hd], hkB⟩
              case o13 =>
                rintro b' a' wB hb hd ⟨rfl, hkB⟩
                simp [Region.binds] at hd
                simp only [sIs_nil, sIs_cons, sI_lit, lset_zero, lset_succ, hd, cond_true]
                gi_wp2
                refine ⟨by simp [sIs_nil, sIs_cons, sI_lit, lset_zero, lset_succ, mark, hd], hkB⟩
              case o14 =>
                rintro b' a' wB hb hd ⟨rfl, hkB⟩
                simp [Region.binds] at hd
                simp only [sIs_nil, sIs_cons, sI_lit, lset_zero, lset_succ, hd, cond_true]
                gi_wp2
                refine ⟨by simp [sIs_nil, sIs_cons, sI_lit, lset_zero, lset_succ, mark, hd], hkB⟩
              case o15 =>
                rintro b' a' wB hb hd ⟨rfl, hkB⟩
                simp [Region.binds] at hd
                simp only [sIs_nil, sIs_cons, sI_lit, lset_zero, lset_succ, hd, cond_true]
                gi_wp2
                refine ⟨by simp [sIs_nil, sIs_cons, sI_lit, lset_zero, lset_succ, mark, hd], hkB⟩
              case o16 =>
                rintro b' a' wB hb hd ⟨rfl, hkB⟩
                simp [Region.binds] at hd
                simp only [sIs_nil, sIs_cons, sI_lit, lset_zero, lset_succ, hd, cond_true]
                gi_wp2
                refine ⟨by simp [sIs_nil, sIs_cons, sI_lit, lset_zero, lset_succ, mark, hd], hkB⟩
              case fin =>
                rintro b' a' wB hb ⟨rfl, hkB⟩
                have e0 := hb 0 (by decide)
                have e1 := hb 1 (by decide)
                have e2 := hb 2 (by decide)
                have e3 := hb 3 (by decide)
                have e4 := hb 4 (by decide)
                have e5 := hb 5 (by decide)
                have e6 := hb 6 (by decide)
                have e7 := hb 7 (by decide)
                have e8 := hb 8 (by decide)
                have e9 := hb 9 (by decide)
                have e10 := hb 10 (by decide)
                have e11 := hb 11 (by decide)
                have e12 := hb 12 (by decide)
                have e13 := hb 13 (by decide)
                have e14 := hb 14 (by decide)
                have e15 := hb 15 (by decide)
                have e16 := hb 16 (by decide)
                clear hb
                simp only [sIs_nil, sIs_cons, sI_lit, lset_zero, lset_succ, e0, e1, e2, e3, e4, e5, e6, e7, e8, e9, e10, e11, e12, e13, e14, e15, e16, cond_true]
                clear e0 e1 e2 e3 e4 e5 e6 e7 e8 e9 e10 e11 e12 e13 e14 e15 e16
                have hk38 := (hk3.trans hk8).trans hkB
                gi_wp2_with (gi_at_builtin; refine Hid.out ?_)
                refine hid ?_
                have hka : Keeps All wB (wB.alloc (.cells #[] 9)) := (Keeps.refl _ _).alloc _
                have hnmA := hnm.out.keep (hk38.trans hka)
                have hb0 : w.heap.size + 1 ≤ wB.heap.size := by have := (rp2.keep (hkw.trans hk38) trivial).lt; omega
                have hwo : wo.heap.size ≤ wB.heap.size := hk38.size
                refine append_strs _ rfl (.tmp 61) (.tmp 64) rfl (w.heap.size + 1) (.slice (some ⟨wB.heap.size, 0, none⟩) 0 0) [] 0 rfl (owns_none_str _ _ hb0) (xs.take t) t g 0 c (by rw [List.length_take, hxl.out]; omega) rfl (fun i hi => by
                  have hi2 : i < t := by rw [List.length_take] at hi; omega
                  rw [Nat.zero_add, hnmA.2.2.2.2 i (by rw [hxl.out]; omega)]
                  simp only [List.getElem_take]) (by omega) (by simp; omega) ?_
                intro v1 w9 ho1 hk9 hw9
                rw [Nat.zero_add, List.nil_append] at ho1
                have hk9' : Keeps All wB w9 := hka.trans2 hk9 fun q hq _ e => by have e2 : wB.heap.size = q := Option.some.inj e; omega
                obtain ⟨a1, c1, rfl⟩ := owns_form ho1
                have hlo1 : Hid (∀ q, (Value.slice a1 t c1).ownBlock = some q → wB.heap.size ≤ q) := by
                  intro q e
                  rcases hw9 with h | h
                  · rw [h] at e; have e2 : wB.heap.size = q := Option.some.inj e; omega
                  · rw [h] at e; have e2 := Option.some.inj e; simp at e2; omega
                have Ho1 := hid ho1
                clear ho1 hnmA
                simp only [Act.put, List.setIfInBounds_toArray, List.set_cons_succ, List.set_cons_zero]
                have d5 : w9.cell? ⟨w.heap.size, 0, none⟩ = some (.slice (some ⟨b, off, none⟩) ss.length cap) := (rp2.keep ((hkw.trans hk38).trans hk9') trivial).cell 0
                have d6 : w9.cell? ⟨b, off + k * 2, none⟩ = some (.string lab) := (hk38.trans hk9').cell (p := ⟨b, off + k * 2, none⟩) trivial e3
                gi_wp2_with (gi_at_builtin; refine Hid.out ?_)
                refine hid ?_
                have hkb : Keeps All w9 (w9.alloc (.cells #[.string lab] 9)) := (Keeps.refl _ _).alloc _
                have hs9 := hk9'.size
                refine append_str _ rfl (.tmp 66) (.tmp 73) rfl (w.heap.size + 1) (.slice a1 t c1) ((xs.take t).map Value.string) t lab rfl (owns_keep Ho1.out hkb fun _ _ => trivial) w9.heap.size rfl (IsRow.new _ _ _) (by omega) (by simp; omega) ?_
                intro g2 c2 w10 ho2 hk10 hw10
                have hk10' : Keeps All wo w10 := ((hk38.trans hk9').trans hkb).trans2 hk10 fun q hq _ e => by have := hlo1.out q e; omega
                have hg2 : wB.heap.size ≤ g2 := by
                  rcases hw10 with h | h
                  · exact hlo1.out g2 h.symm
                  · rw [h]; simp; omega
                have Ho2 := hid ho2
                clear d5 d6 ho2 hw10
                simp only [Act.put, List.setIfInBounds_toArray, List.set_cons_succ, List.set_cons_zero]
                by_cases htc : t < c
                · gi_wp2_with (gi_at_builtin; refine Hid.out ?_)
                  refine hid ?_
                  have hnmB := hnm.out.keep hk10'
                  have hs10 := hk10'.size
                  refine append_strs _ rfl (.tmp 75) (.tmp 78) rfl (w.heap.size + 1) (.slice (some ⟨g2, 0, none⟩) (t + 1) c2) (xs.take t ++ [lab]) (t + 1) rfl (by rw [List.map_append]; exact Ho2.out) (xs.drop t) _ g t _ (by rw [List.length_drop, hxl.out]; omega) rfl (fun i hi => by
                    rw [hnmB.2.2.2.2 (t + i) (by rw [hxl.out]; rw [List.length_drop, hxl.out] at hi; omega)]
                    simp only [List.getElem_drop]) (by omega) (by have := (rp2.keep (hkw.trans hk10') trivial).lt; omega) ?_
                  intro v3 w11 ho3 hk11 _
                  have hk11' : Keeps All wo w11 := hk10'.trans2 hk11 fun q hq _ e => by have e2 : g2 = q := Option.some.inj e; omega
                  obtain ⟨a3, c3, rfl, hl3, hg3⟩ := own_strs2 ho3
                  obtain ⟨g3, rfl, hb3, hb3', hc3, hm3, hcell3⟩ := hg3 (by omega)
                  have hnm3 : NmList w11 g3 (xs.take t ++ [lab] ++ xs.drop t).length c3 (xs.take t ++ [lab] ++ xs.drop t) := ⟨hb3', rfl, by omega, hm3, fun i hi => by have h := hcell3 i hi; rwa [Nat.zero_add] at h⟩
                  have Hnm3 := hid hnm3
                  clear ho3 hnm3 hcell3 hnmB hl3
                  simp only [Act.put, List.setIfInBounds_toArray, List.set_cons_succ, List.set_cons_zero]
                  gi_wp2
                  go_roundw
                  case rel => exact ⟨k + 1, g3, _, c3, by omega, by go_num, rfl, hkw.trans hk11', by rw [hsx.out, hins.out, show xs.take t ++ lab :: xs.drop t = xs.take t ++ [lab] ++ xs.drop t by simp]; exact Hnm3.out⟩
                  case measure => simp [intOf]; omega
                · have htc2 : t = c := by omega
                  subst htc2
                  gi_wp2_with (gi_at_builtin; refine Hid.out ?_)
                  refine hid ?_
                  have hnmB := hnm.out.keep hk10'
                  have hs10 := hk10'.size
                  refine append_strs _ rfl (.tmp 75) (.tmp 78) rfl (w.heap.size + 1) (.slice (some ⟨g2, 0, none⟩) (t + 1) c2) (xs.take t ++ [lab]) (t + 1) rfl (by rw [List.map_append]; exact Ho2.out) (xs.drop t) _ g 0 _ (by rw [List.length_drop, hxl.out]; omega) rfl (fun i hi => by
                    rw [List.length_drop, hxl.out] at hi; omega) (by omega) (by have := (rp2.keep (hkw.trans hk10') trivial).lt; omega) ?_
                  intro v3 w11 ho3 hk11 _
                  have hk11' : Keeps All wo w11 := hk10'.trans2 hk11 fun q hq _ e => by have e2 : g2 = q := Option.some.inj e; omega
                  obtain ⟨a3, c3, rfl, hl3, hg3⟩ := own_strs2 ho3
                  obtain ⟨g3, rfl, hb3, hb3', hc3, hm3, hcell3⟩ := hg3 (by omega)
                  have hnm3 : NmList w11 g3 (xs.take t ++ [lab] ++ xs.drop t).length c3 (xs.take t ++ [lab] ++ xs.drop t) := ⟨hb3', rfl, by omega, hm3, fun i hi => by have h := hcell3 i hi; rwa [Nat.zero_add] at h⟩
                  have Hnm3 := hid hnm3
                  clear ho3 hnm3 hcell3 hnmB hl3
                  simp only [Act.put, List.setIfInBounds_toArray, List.set_cons_succ, List.set_cons_zero]
                  gi_wp2
                  go_roundw
                  case rel => exact ⟨k + 1, g3, _, c3, by omega, by go_num, rfl, hkw.trans hk11', by rw [hsx.out, hins.out, show xs.take t ++ lab :: xs.drop t = xs.take t ++ [lab] ++ xs.drop t by simp]; exact Hnm3.out⟩
                  case measure => simp [intOf]; omega
      · have hsx : Hid (namesTo ss (k + 1) = namesTo ss k) := by rw [Hid, hsucc.out, if_neg hin]
        simp only [hin, decide_false] at d0
        clear hsucc
        gi_wp2
        go_roundw
        case rel => exact ⟨k + 1, g, m, c, by omega, by go_num, rfl, hkw, by rw [hsx.out]; exact hnm⟩
        case measure => simp [intOf]; omega
    · obtain rfl : k = ss.length := by omega
      gi_wp2
      go_ret
      obtain ⟨q1, q2, q3, q4, q5⟩ := hnm.out
      rw [q2]
      refine ⟨g, c, rfl, ⟨_, _, by rw [q2], by rw [q2]; unfold maxLen at q4; have := (namesTo_asc ss ss.length).2.2; omega, Or.inr ⟨g, 0, rfl, q1, trivial, fun i hi => ?_⟩⟩, hk03.trans hkw⟩
      rw [Nat.zero_add]; exact q5 i hi

end Go.Proofs.YtcbmljfgmeeadaaDoor
