/-
  CONTRACTS: the reference's Form.
  CONTRACT: the reference's needed.
-/
import Derived.Test.YtcbmljfgmeeadaaDoorG15
import Derived.Test.YtcbmljfgmeeadaaDoorJB
import Derived.Test.YtcbmljfgmeeadaaDoorJC
namespace Go.Proofs.YtcbmljfgmeeadaaDoor
open Go.RowKit

theorem formGo_drop {ss : List Stp} {i : Nat} (h : i < ss.length) : formGo i (ss.drop i) = if 40 < ss[i].args.length then 4 else if ss[i].args.any (badArg i) then 3 else formGo (i + 1) (ss.drop (i + 1)) := by
  rw [List.drop_eq_getElem_cons h, formGo]

theorem any_take_succ {p : Int → Bool} {l : List Int} {k : Nat} (h : k < l.length) (h0 : (l.take k).any p = false) (hp : p l[k] = false) : (l.take (k + 1)).any p = false := by
  rw [List.take_succ_eq_append_getElem h, List.any_append, h0]
  simp [hp]

theorem any_of_get {p : Int → Bool} {l : List Int} {k : Nat} (h : k < l.length) (hp : p l[k] = true) : l.any p = true :=
  List.any_eq_true.2 ⟨l[k], List.getElem_mem h, hp⟩

set_option maxHeartbeats 1000000 in
theorem rForm_c (ss : List Stp) (v : Value) (w : World) (hv : IsProof All w v ss) :
    Calls Tryd.prog 43 #[v] w fun e w' => e = .returned (.int .i64 (formM ss)) ∧ Keeps All w w' := by
  obtain ⟨u, rfl, hs⟩ := hv
  have hs' := hs
  obtain ⟨a, cap, rfl, hl, h⟩ := hs
  have hk0 : Keeps All w (w.alloc (.cells #[.slice a ss.length cap] 24)) := (Keeps.refl _ _).alloc _
  by_cases hsz : ss.length < 1 ∨ 2000 < ss.length
  · have hf : Hid (formM ss = 4) := by simp only [Hid, formM, if_pos hsz]
    clear h hs'
    rcases hsz with hsz | hsz
    · go_enter Tryd.func43, Tryd.ntmps43
      go_wp2
      go_ret
      exact ⟨ret_int hf.out.symm, hk0⟩
    · go_enter Tryd.func43, Tryd.ntmps43
      go_wp2
      go_ret
      exact ⟨ret_int hf.out.symm, hk0⟩
  · have hlen1 : 1 ≤ ss.length := by omega
    have hlen2 : ss.length ≤ 2000 := by omega
    have hf : Hid (formM ss = formGo 0 ss) := by simp only [Hid, formM, if_neg hsz]
    rcases h with ⟨rfl, _⟩ | ⟨b, off, rfl, hB, _, hc⟩
    · simp at hlen1
    have Hc := hid hc
    clear hc hsz
    go_enter Tryd.func43, Tryd.ntmps43
    go_wp2
    go_loop [3] (fun iv => ∃ i : Nat, i ≤ ss.length ∧ iv = .int .i64 i ∧ Hid (formGo 0 ss = formGo i (ss.drop i))) (fun iv => ss.length - (intOf iv).toNat)
    case atStart => exact ⟨0, Nat.zero_le _, rfl, by simp [Hid]⟩
    case round =>
      obtain ⟨i, hi, rfl, hg⟩ := hrel
      by_cases hlt : i < ss.length
      · obtain ⟨c1, va, c2, hva⟩ := Hc.out i hlt
        have e2 : (w.alloc (.cells #[.slice (some ⟨b, off, none⟩) ss.length cap] 24)).cell? ⟨b, off + i * 2 + 1, none⟩ = some va := hk0.cell (p := ⟨b, off + i * 2 + 1, none⟩) trivial c2
        have hva2 := hva.keep hk0 fun _ _ h => h
        obtain ⟨a2, cap2, rfl, hl2, _, h2⟩ := hva
        have hstep := hid (formGo_drop hlt)
        clear h2 c1 c2
        generalize hxs : ss[i].args = xs at *
        have Hxs := hid hxs
        clear hxs
        by_cases hbig : 40 < xs.length
        · go_wp2
          go_ret
          exact ⟨ret_int (by rw [hf.out, hg.out, hstep.out, if_pos hbig]), hk0⟩
        · go_wp2
          go_loop [4] (fun kv => ∃ k : Nat, k ≤ xs.length ∧ kv = .int .i64 k ∧ Hid ((xs.take k).any (badArg i) = false)) (fun kv => xs.length - (intOf kv).toNat)
          case atStart => exact ⟨0, Nat.zero_le _, rfl, by simp [Hid]⟩
          case round =>
            obtain ⟨k, hk, rfl, hany⟩ := hrel
            by_cases hkl : k < xs.length
            · obtain ⟨b2, off2, rfl, d1⟩ := hva2.at hkl
              by_cases hbad : badArg i xs[k] = true
              · have hres : Hid (formM ss = 3) := by rw [Hid, hf.out, hg.out, hstep.out, if_neg hbig, if_pos (any_of_get hkl hbad)]
                have hb2 : xs[k] < 0 ∨ (i : Int) ≤ xs[k] := by simpa [badArg] using hbad
                clear hbad
                generalize xs[k] = x at d1 hb2
                by_cases hneg : x < 0
                · go_wp2
                  go_ret
                  exact ⟨ret_int hres.out.symm, hk0⟩
                · have hge : (i : Int) ≤ x := by omega
                  clear hb2
                  go_wp2
                  go_ret
                  exact ⟨ret_int hres.out.symm, hk0⟩
              · have hnext := hid (any_take_succ hkl hany.out (by simpa using hbad))
                have hb2 : 0 ≤ xs[k] ∧ xs[k] < (i : Int) := by simp [badArg] at hbad; omega
                clear hbad
                generalize xs[k] = x at d1 hb2
                obtain ⟨hb3, hb4⟩ := hb2
                go_wp2
                go_round
                case rel => exact ⟨k + 1, by omega, by go_num, hnext.out⟩
                case measure => simp [intOf]; omega
            · have hall : Hid (xs.any (badArg i) = false) := by
                have := hany.out
                rwa [List.take_of_length_le (by omega)] at this
              go_wp2
              go_round
              case rel => exact ⟨i + 1, by omega, by go_num, by rw [hg.out, hstep.out, if_neg hbig, hall.out]; rfl⟩
              case measure => simp [intOf]; omega
      · go_wp2
        go_ret
        exact ⟨ret_int (by rw [hf.out, hg.out, List.drop_eq_nil_of_le (by omega)]; rfl), hk0⟩

end Go.Proofs.YtcbmljfgmeeadaaDoor

namespace Go.Proofs.YtcbmljfgmeeadaaDoor
open Go.RowKit

/-- What is marked when all steps from m on have been looked at. -/
structure Nd (ss : List Stp) (m : Nat) (L : List Bool) : Prop where
  len : L.length = ss.length
  sub : ∀ j : Nat, L[j]? = some true → j ∈ post ss
  last : L[ss.length - 1]? = some true
  clo : ∀ p : Nat, m ≤ p → L[p]? = some true → ∀ a ∈ kidsOf ss p, L[a]? = some true

theorem trav_in {ss : List Stp} (C : Nat → Prop) (hC : ∀ x, C x → ∀ a ∈ kidsOf ss x, C a) : ∀ (f i : Nat) (o : List Nat), C i → ∀ y ∈ trav (kidsOf ss) f i o, y ∈ o ∨ C y
  | 0, _, _, _, _, h => Or.inl h
  | f + 1, i, o, hi, y, h => by
    simp only [trav] at h
    split at h
    · exact Or.inl h
    · rcases List.mem_append.1 h with h | h
      · have key : ∀ (l : List Nat) (o : List Nat), (∀ a ∈ l, C a) → y ∈ l.foldl (fun o a => trav (kidsOf ss) f a o) o → y ∈ o ∨ C y := by
          intro l
          induction l with
          | nil => intro o _ h; exact Or.inl h
          | cons a l ih =>
            intro o hl h
            rcases ih _ (fun b hb => hl b (by simp [hb])) h with h | h
            · exact trav_in C hC f a o (hl a (by simp)) y h
            · exact Or.inr h
        exact key _ o (hC i hi) h
      · obtain rfl : y = i := by simpa using h
        exact Or.inr hi

theorem Nd.done {ss : List Stp} {L : List Bool} (h : Nd ss 0 L) : L = (List.range ss.length).map fun j => decide (j ∈ post ss) := by
  refine List.ext_getElem (by simp [h.len]) fun i h1 h2 => ?_
  simp only [List.getElem_map, List.getElem_range]
  rw [Bool.eq_iff_iff, decide_eq_true_eq]
  constructor
  · intro hi
    exact h.sub i (by rw [List.getElem?_eq_getElem h1, hi])
  · intro hi
    rcases trav_in (ss := ss) (fun j => L[j]? = some true) (fun x hx => h.clo x (by omega) hx) _ _ _ h.last i hi with h' | h'
    · cases h'
    · rw [List.getElem?_eq_getElem h1] at h'
      exact Option.some.inj h'

theorem Nd.start {ss : List Stp} (hok : Okay ss) : Nd ss ss.length ((List.replicate ss.length false).set (ss.length - 1) true) := by
  have h1 := hok.1
  refine ⟨by simp, fun j hj => ?_, by rw [List.getElem?_set_self (by simp; omega)], fun p hp hL => ?_⟩
  · by_cases e : j = ss.length - 1
    · obtain ⟨p, hp⟩ := post_last hok
      rw [hp, e]; simp
    · rw [List.getElem?_set_ne (fun h => e h.symm), List.getElem?_replicate] at hj
      split at hj <;> simp at hj
  · rw [List.getElem?_eq_none (by simp; omega)] at hL
    cases hL

theorem Nd.mark {ss : List Stp} (hok : Okay ss) {m q a : Nat} {L : List Bool} (h : Nd ss m L) (hq : q < m) (hL : L[q]? = some true) (ha : a ∈ kidsOf ss q) : Nd ss m (L.set a true) := by
  have haq := hok.kids q a ha
  have hql : q < L.length := by
    rcases Nat.lt_or_ge q L.length with h' | h'
    · exact h'
    · rw [List.getElem?_eq_none h'] at hL; cases hL
  have keep : ∀ j : Nat, L[j]? = some true → (L.set a true)[j]? = some true := fun j hj => by
    by_cases e : j = a
    · subst e; rw [List.getElem?_set_self (by omega)]
    · rw [List.getElem?_set_ne (fun h => e h.symm)]; exact hj
  refine ⟨by simp [h.len], fun j hj => ?_, keep _ h.last, fun p hp hLp b hb => ?_⟩
  · by_cases e : j = a
    · subst e; exact post_closed hok (h.sub q hL) j ha
    · rw [List.getElem?_set_ne (fun h => e h.symm)] at hj
      exact h.sub j hj
  · rw [List.getElem?_set_ne (by omega)] at hLp
    exact keep b (h.clo p hp hLp b hb)

theorem Nd.next {ss : List Stp} {q : Nat} {L : List Bool} (h : Nd ss (q + 1) L) (hq : L[q]? = some true → ∀ a ∈ kidsOf ss q, L[a]? = some true) : Nd ss q L :=
  ⟨h.len, h.sub, h.last, fun p hp hL => by
    by_cases e : p = q
    · subst e; exact hq hL
    · exact h.clo p (by omega) hL⟩

/-- Which steps are needed. -/
def neededM (ss : List Stp) : List Bool := (List.range ss.length).map fun j => decide (j ∈ post ss)

set_option maxHeartbeats 1000000 in
theorem rneeded_c (ss : List Stp) (v : Value) (w : World) (hv : IsProof All w v ss) (hok : Okay ss) :
    Calls Tryd.prog 51 #[v] w fun e w' => ∃ nb, e = .returned (.slice (some ⟨nb, 0, none⟩) ss.length ss.length) ∧ w.heap.size ≤ nb ∧ IsRow w' nb 4 (bools (neededM ss)) ∧ Keeps All w w' := by
  obtain ⟨u, rfl, hs⟩ := hv
  have hs' := hs
  obtain ⟨a, cap, rfl, hl, h⟩ := hs
  rcases h with ⟨rfl, _⟩ | ⟨b, off, rfl, hB, _, hc⟩
  · exact absurd hok.1 (by simp)
  have hlen : ss.length ≤ 2000 := hok.2.1
  have hlen1 : 1 ≤ ss.length := hok.1
  have hmk := make_bools ss.length hlen
  have Hc := hid hc
  have Hok := hid hok
  have hst := hid (Nd.start hok)
  clear hc hok
  have l1 : w.heap.size < w.heap.size + 1 := by omega
  have rp : IsRow (w.alloc (.cells #[.slice (some ⟨b, off, none⟩) ss.length cap] 24)) w.heap.size 24 [.slice (some ⟨b, off, none⟩) ss.length cap] := IsRow.new _ _ _
  obtain ⟨W1, hW1⟩ : ∃ W1, (w.alloc (.cells #[.slice (some ⟨b, off, none⟩) ss.length cap] 24)).alloc (.cells (bools (List.replicate ss.length false)).toArray 4) = W1 := ⟨_, rfl⟩
  have hk1 : Keeps All w W1 := by rw [← hW1]; exact ((Keeps.refl _ _).alloc _).alloc _
  have rp1 : IsRow W1 w.heap.size 24 [.slice (some ⟨b, off, none⟩) ss.length cap] := by rw [← hW1]; exact rp.alloc _
  have rb1 : IsRow W1 (w.heap.size + 1) 4 (bools (List.replicate ss.length false)) := by rw [← hW1]; exact IsRow.newAt (by simp)
  have f1 : W1.cell? ⟨w.heap.size + 1, ss.length - 1, none⟩ = some (.bool false) := by
    rw [rb1.cell, bools_get, List.getElem?_replicate, if_pos (by omega)]; rfl
  have f2 := rb1.frozen (ss.length - 1)
  obtain ⟨f3, _⟩ := rp1.one
  have hk2 : Keeps All w (W1.setCell ⟨w.heap.size + 1, ss.length - 1, none⟩ (.bool true)) := hk1.setCell (fun (h : w.heap.size + 1 < _) => absurd h (by omega)) _
  have rp2 := rp1.keep ((Keeps.refl (fun q => q ≠ w.heap.size + 1) W1).setCell (p := ⟨w.heap.size + 1, ss.length - 1, none⟩) (fun _ hn => hn rfl) (.bool true)) (by omega)
  have rb2 : IsRow (W1.setCell ⟨w.heap.size + 1, ss.length - 1, none⟩ (.bool true)) (w.heap.size + 1) 4 (bools ((List.replicate ss.length false).set (ss.length - 1) true)) := by
    rw [← bools_set]; exact rb1.set _ _
  have lb1 := rb1.lt
  obtain ⟨f4, _⟩ := rp2.one
  go_enter Tryd.func51, Tryd.ntmps51
  go_wp2
  go_loopw [4] (fun iv wr => ∃ (m : Nat) (L : List Bool), m ≤ ss.length ∧ iv = .int .i64 ((m : Int) - 1) ∧ Keeps All w wr ∧ IsRow wr w.heap.size 24 [.slice (some ⟨b, off, none⟩) ss.length cap] ∧ IsRow wr (w.heap.size + 1) 4 (bools L) ∧ Hid (Nd ss m L)) (fun iv _ => (intOf iv + 1).toNat)
  case atStart => exact ⟨ss.length, _, Nat.le_refl _, rfl, hk2, rp2, rb2, hst⟩
  case round =>
    obtain ⟨m, L, hm, rfl, hkw, hrp, hrb, hnd⟩ := hrel
    clear f1 f2 f3 f4 rp1 rb1 rp2 rb2 lb1
    obtain ⟨d1, _⟩ := hrp.one
    by_cases h0 : 0 < m
    · obtain ⟨q, hq⟩ : ∃ q : Nat, m = q + 1 := ⟨m - 1, by omega⟩
      have hqi : (m : Int) - 1 = (q : Int) := by omega
      rw [hqi]
      have hql : q < ss.length := by omega
      have hqL : q < L.length := by rw [hnd.out.len]; exact hql
      obtain ⟨c1, va, c2, hva⟩ := Hc.out q hql
      have hva2 := hva
      have hkids := hid (kidsOf_lt hql)
      have hrange := hid ((Hok.out.2.2 q hql).2)
      obtain ⟨a2, cap2, rfl, hl2, _, h2⟩ := hva
      obtain ⟨bq, hbq⟩ : ∃ bq, L[q] = bq := ⟨_, rfl⟩
      have hLq : Hid (L[q]? = some bq) := by rw [Hid, List.getElem?_eq_getElem hqL, hbq]
      rw [hq] at hnd
      have Hq := hid hq
      clear h2 c1 hq hbq hqi hqL
      generalize hxs : ss[q].args = xs at *
      clear hxs
      obtain ⟨wo, rfl⟩ : ∃ wo : World, wo = wr := ⟨_, rfl⟩
      go_wp2
      go_loopw [5] (fun jv wr => ∃ (k : Nat) (L : List Bool), k ≤ xs.length ∧ jv = .int .i64 k ∧ Keeps All w wr ∧ IsRow wr w.heap.size 24 [.slice (some ⟨b, off, none⟩) ss.length cap] ∧ IsRow wr (w.heap.size + 1) 4 (bools L) ∧
        Hid (Nd ss (q + 1) L ∧ L[q]? = some bq ∧ ∀ a ∈ xs.take k, L[a.toNat]? = some true)) (fun jv _ => xs.length - (intOf jv).toNat)
      case atStart => exact ⟨0, L, Nat.zero_le _, rfl, hkw, hrp, hrb, hnd.out, hLq.out, by simp⟩
      case round =>
        clear d1 hrp hrb
        obtain ⟨k, L, hk, rfl, hkj, hrp, hrb, hin⟩ := hrel
        obtain ⟨d1, _⟩ := hrp.one
        have d2 : wr.cell? ⟨w.heap.size + 1, q, none⟩ = some (.bool bq) := by
          rw [hrb.cell, bools_get, hin.out.2.1]; rfl
        have e2 : wr.cell? ⟨b, off + q * 2 + 1, none⟩ = some (.slice a2 xs.length cap2) := hkj.cell (p := ⟨b, off + q * 2 + 1, none⟩) trivial c2
        cases bq with
        | false =>
          go_wp2
          go_roundw
          case rel => exact ⟨q, L, by omega, rfl, hkj, hrp, hrb, hin.out.1.next fun h => by rw [hin.out.2.1] at h; cases h⟩
          case measure => (try (have := Hq.out; simp [intOf])); (try omega)
        | true =>
          by_cases hkl : k < xs.length
          · obtain ⟨b2, off2, rfl, d3⟩ := (hva2.keep hkj fun _ _ h => h).at hkl
            have hr := hrange.out xs[k] (List.getElem_mem hkl)
            have hkid : xs[k].toNat ∈ kidsOf ss q := by rw [hkids.out]; exact List.mem_map.2 ⟨xs[k], List.getElem_mem hkl, rfl⟩
            have hnm := hid (hin.out.1.mark Hok.out (by omega) hin.out.2.1 hkid)
            have hnext : Hid (∀ a ∈ xs.take (k + 1), (L.set xs[k].toNat true)[a.toNat]? = some true) := by
              intro a ha
              rw [List.take_succ_eq_append_getElem hkl] at ha
              have hLl := hin.out.1.len
              by_cases e : a.toNat = xs[k].toNat
              · rw [e, List.getElem?_set_self (by omega)]
              · rw [List.getElem?_set_ne (fun h => e h.symm)]
                rcases List.mem_append.1 ha with h | h
                · exact hin.out.2.2 a h
                · simp at h; exact absurd (by rw [h]) e
            have hqs : Hid ((L.set xs[k].toNat true)[q]? = some true) := by
              rw [Hid, List.getElem?_set_ne (by omega)]; exact hin.out.2.1
            have hLx : ∃ bx, L[xs[k].toNat]? = some bx := ⟨L[xs[k].toNat]'(by have := hin.out.1.len; omega), List.getElem?_eq_getElem _⟩
            obtain ⟨bx, hbx⟩ := hLx
            have g1 : wr.cell? ⟨w.heap.size + 1, xs[k].toNat, none⟩ = some (.bool bx) := by
              rw [hrb.cell, bools_get, hbx]; rfl
            have g2 := hrb.frozen xs[k].toNat
            obtain ⟨q1, q2⟩ := hr
            have q3 : xs[k].toNat < ss.length := by omega
            clear hbx hkid
            generalize xs[k] = x at *
            go_wp2
            go_roundw
            case rel =>
              refine ⟨k + 1, L.set x.toNat true, by omega, by go_num, hkj.setCell (fun (h : w.heap.size + 1 < _) => absurd h (by omega)) _, ?_, by rw [← bools_set]; exact hrb.set _ _, hnm.out, hqs.out, hnext.out⟩
              exact hrp.keep ((Keeps.refl (fun z => z ≠ w.heap.size + 1) _).setCell (fun _ hn => hn rfl) _) (by omega)
            case measure => simp [intOf]; omega
          · go_wp2
            go_roundw
            case rel =>
              refine ⟨q, L, by omega, rfl, hkj, hrp, hrb, hin.out.1.next fun _ a ha => ?_⟩
              rw [hkids.out] at ha
              obtain ⟨y, hy, rfl⟩ := List.mem_map.1 ha
              exact hin.out.2.2 y (by rwa [List.take_of_length_le (by omega)])
            case measure => (try (have := Hq.out; simp [intOf])); (try omega)
    · obtain rfl : m = 0 := by omega
      have hdone := hid hnd.out.done
      go_wp2
      go_ret
      refine ⟨w.heap.size + 1, rfl, by omega, ?_, hkw⟩
      have h := hrb
      rw [hdone.out] at h
      exact h

end Go.Proofs.YtcbmljfgmeeadaaDoor
