/-
  CONTRACTS: the reference's none, sizes.
-/
import Derived.Test.YtcbmljfgmeeadaaDoorApp
import Derived.Test.YtcbmljfgmeeadaaDoorJB
import Derived.Test.YtcbmljfgmeeadaaDoorG15
import Derived.Test.YtcbmljfgmeeadaaDoorSeq
namespace Go.Proofs.YtcbmljfgmeeadaaDoor
open Go.RowKit

attribute [local go_sem] Oper.semAt_some

set_option maxHeartbeats 400000 in
theorem rnone_c (n : Nat) (w : World) (hn : n ≤ 2000) :
    Calls Tryd.prog 45 #[.int .i64 (n : Int)] w fun e w' => ∃ nb, e = .returned (.slice (some ⟨nb, 0, none⟩) n n) ∧ w.heap.size ≤ nb ∧ IsRow w' nb 3 (ints (List.replicate n (-1))) ∧ Keeps All w w' := by
  have hmk := make_ints n hn
  go_enter Tryd.func45, Tryd.ntmps45
  go_wp2
  go_loopw [4] (fun iv wr => ∃ k : Nat, k ≤ n ∧ iv = .int .i64 k ∧ Keeps All w wr ∧ IsRow wr w.heap.size 3 (ints (List.replicate k (-1) ++ List.replicate (n - k) 0))) (fun iv _ => n - (intOf iv).toNat)
  case atStart => exact ⟨0, Nat.zero_le _, rfl, (Keeps.refl _ _).alloc _, by simpa using IsRow.new w 3 (ints (List.replicate n 0))⟩
  case round =>
    obtain ⟨k, hk, rfl, hkw, hrow⟩ := hrel
    by_cases hlt : k < n
    · obtain ⟨q, hq⟩ : ∃ q, n - k = q + 1 := ⟨n - k - 1, by omega⟩
      rw [hq, List.replicate_succ] at hrow
      have f1 : wr.cell? ⟨w.heap.size, k, none⟩ = some (.int .i64 0) := by
        rw [hrow.cell, ints_get, List.getElem?_append_right (by simp)]; simp
      have f2 := hrow.frozen k
      have Hq := hid hq
      clear hq
      go_wp2
      go_roundw
      case rel =>
        refine ⟨k + 1, by omega, by go_num, hkw.setCell (fun (h : w.heap.size < _) => absurd h (by omega)) _, ?_⟩
        have h := hrow.set k (.int .i64 (-1))
        rw [ints_set, List.set_append_right _ _ (by simp), List.length_replicate, Nat.sub_self, List.set_cons_zero] at h
        have hq := Hq.out
        rw [show n - (k + 1) = q by omega, List.replicate_succ', List.append_assoc]
        exact h
      case measure => simp [intOf]; omega
    · obtain rfl : k = n := by omega
      simp only [Nat.sub_self, List.replicate_zero, List.append_nil] at hrow
      go_wp2
      go_ret
      exact ⟨_, rfl, by omega, hrow, hkw⟩

set_option maxHeartbeats 1000000 in
theorem rsizes_c (ss : List Stp) (v : Value) (w : World) (hv : IsProof All w v ss) (hok : Okay ss) :
    Calls Tryd.prog 48 #[v] w fun e w' => ∃ g c, e = .returned (.slice (some ⟨g, 0, none⟩) ss.length c) ∧ w'.ownsRow w.heap.size 3 1 (.slice (some ⟨g, 0, none⟩) ss.length c) ss.length (ints (sizesM ss)) ∧ Keeps All w w' := by
  obtain ⟨u, rfl, hs⟩ := hv
  have hs' := hs
  obtain ⟨a, cap, rfl, hl, h⟩ := hs
  rcases h with ⟨rfl, _⟩ | ⟨b, off, rfl, hB, _, hc⟩
  · exact absurd hok.1 (by simp)
  have hlen : ss.length ≤ 2000 := hok.2.1
  have Hc := hid hc
  have l1 : w.heap.size < w.heap.size + 1 := by omega
  have rp : IsRow (w.alloc (.cells #[.slice (some ⟨b, off, none⟩) ss.length cap] 24)) w.heap.size 24 [.slice (some ⟨b, off, none⟩) ss.length cap] := IsRow.new _ _ _
  clear hc
  refine (callsIn_wide (n := 5)).1 ?_
  refine callsIn_of_wp Tryd.func48 rfl trivial ?_ rfl
  simp only [Tryd.ntmps48, List.size_toArray, List.length_cons, List.length_nil, Nat.reduceAdd, Nat.reduceSub, Array.replicate_succ, Array.replicate_zero, List.push_toArray, List.append_toArray, List.nil_append, List.cons_append]
  gi_wp2
  gi_loopw [3, 4] (fun ov iv wr => ∃ (k g c : Nat), k ≤ ss.length ∧ iv = .int .i64 k ∧ ov = .slice (some ⟨g, 0, none⟩) k c ∧ Keeps All w wr ∧ IsRow wr w.heap.size 24 [.slice (some ⟨b, off, none⟩) ss.length cap] ∧
    wr.ownsRow (w.heap.size + 1) 3 1 (.slice (some ⟨g, 0, none⟩) k c) k (ints (sizesTo ss k))) (fun _ iv _ => ss.length - (intOf iv).toNat)
  case atStart => exact ⟨0, _, 0, Nat.zero_le _, rfl, rfl, ((Keeps.refl _ _).alloc _).alloc _, rp.alloc _, by have h := owns_none_int (w.alloc (.cells #[.slice (some ⟨b, off, none⟩) ss.length cap] 24)) (w.heap.size + 1) (by simp); rw [World.size_alloc] at h; exact h⟩
  case round =>
    obtain ⟨k, g, c, hk, rfl, rfl, hkw, hrp, hown⟩ := hrel
    obtain ⟨d1, _⟩ := hrp.one
    by_cases hlt : k < ss.length
    · obtain ⟨c1, va, c2, hva⟩ := Hc.out k hlt
      have e2 : wr.cell? ⟨b, off + k * 2 + 1, none⟩ = some va := hkw.cell (p := ⟨b, off + k * 2 + 1, none⟩) trivial c2
      have hva2 := hva.keep hkw fun _ _ h => h
      obtain ⟨a2, cap2, rfl, hl2, _, h2⟩ := hva
      have hrange := (hok.2.2 k hlt).2
      have hnextM : Hid (sizesTo ss (k + 1) = sizesTo ss k ++ [ss[k].args.foldl (addSize (sizesTo ss k)) 1]) := by simp [Hid, sizesTo, hlt]
      have hsb := sizesTo_bound ss k
      have hsl := hid (sizesTo_length ss k)
      have Hsb := hid hsb
      have Hrange := hid hrange
      have Hown := hid hown
      clear c1 c2 h2 hrange hsb hown
      generalize hxs : ss[k].args = xs at *
      generalize hS : sizesTo ss k = S at *
      have Hxs := hid hxs
      clear hxs hS
      gi_wp2
      gi_loop [5, 6] (fun nv jv => ∃ (j : Nat) (acc : Int), j ≤ xs.length ∧ jv = .int .i64 j ∧ nv = .int .i64 acc ∧ Hid (acc = (xs.take j).foldl (addSize S) 1) ∧ 0 ≤ acc ∧ acc ≤ 1000000000) (fun _ jv => xs.length - (intOf jv).toNat)
      case atStart => exact ⟨0, 1, Nat.zero_le _, rfl, rfl, rfl, by omega, by omega⟩
      case round =>
        obtain ⟨j, acc, hj, rfl, rfl, hacc, ha0, ha1⟩ := hrel
        by_cases hjl : j < xs.length
        · obtain ⟨b2, off2, rfl, d2⟩ := hva2.at hjl
          have hr := Hrange.out xs[j] (List.getElem_mem hjl)
          have hx1 : xs[j].toNat < S.length := by rw [hsl.out]; omega
          have d3 : wr.cell? ⟨g, xs[j].toNat, none⟩ = some (.int .i64 S[xs[j].toNat]) := owns_int_at Hown.out hx1
          have hyb := Hsb.out _ (List.getElem_mem hx1)
          have hnx : Hid (addSize S acc xs[j] = (xs.take (j + 1)).foldl (addSize S) 1) := by
            rw [Hid, List.take_succ_eq_append_getElem hjl, List.foldl_append, ← hacc.out]; rfl
          have hadd : Hid (addSize S acc xs[j] = if acc + S[xs[j].toNat] < 1000000000 then acc + S[xs[j].toNat] else 1000000000) := by
            rw [Hid, addSize, List.getD_eq_getElem?_getD, List.getElem?_eq_getElem hx1]; rfl
          have hx2 : xs[j].toNat < k := by omega
          obtain ⟨q1, q2⟩ := hr
          obtain ⟨q3, q4⟩ := hyb
          generalize S[xs[j].toNat] = y at *
          clear hx1
          generalize xs[j] = x at *
          gi_wp2
          go_round
          case rel =>
            refine ⟨j + 1, addSize S acc x, by omega, by go_num, ?_, hnx.out, ?_, ?_⟩
            · rw [hadd.out]
            · rw [hadd.out]; split <;> omega
            · rw [hadd.out]; split <;> omega
          case measure => simp [intOf]; omega
        · have hfin : Hid (acc = xs.foldl (addSize S) 1) := by
            have := hacc.out
            rwa [List.take_of_length_le (by omega)] at this
          gi_wp2_with (gi_at_builtin; refine Hid.out ?_)
          refine hid ?_
          have hka : Keeps All wr (wr.alloc (.cells #[.int .i64 acc] 3)) := (Keeps.refl _ _).alloc _
          have hsz : w.heap.size + 1 ≤ wr.heap.size := by have := hrp.lt; omega
          have ho2 := owns_keep Hown.out hka fun _ _ => trivial
          have ho3 : (wr.alloc (.cells #[.int .i64 acc] 3)).ownsRow (w.heap.size + 1) 3 1 (.slice (some ⟨g, 0, none⟩) k c) S.length (ints S) := by rw [hsl.out]; exact ho2
          refine append_int _ rfl (.tmp 41) (.tmp 43) rfl (w.heap.size + 1) _ S acc rfl ho3 wr.heap.size rfl (IsRow.new _ _ _) (by rw [hsl.out]; omega) (by simp; omega) ?_
          intro g' c' w3 ho' hk3 _
          have hlow : ∀ q, q < w.heap.size + 1 → (Value.slice (some ⟨g, 0, none⟩) k c).ownBlock ≠ some q := fun q hq e => by have := (Hown.out.lt q e).1; omega
          have hrp3 := (hrp.keep hka trivial).keep hk3 (hlow _ (by omega))
          have Ho' := hid ho'
          have hkw3 := (hkw.trans hka).upto hk3 fun q hq => hlow q (by omega)
          rw [hsl.out]
          clear ho' ho2 ho3
          simp only [Act.put, List.setIfInBounds_toArray, List.set_cons_succ, List.set_cons_zero]
          gi_wp2
          go_roundw
          case rel =>
            refine ⟨k + 1, g', c', by omega, by go_num, rfl, hkw3, hrp3, ?_⟩
            rw [hnextM.out, ← hfin.out]
            have h := Ho'.out
            rw [List.length_append, hsl.out] at h
            exact h
          case measure => simp [intOf]; omega
    · obtain rfl : k = ss.length := by omega
      gi_wp2
      go_ret
      refine ⟨g, c, rfl, ?_, hkw⟩
      refine ⟨hown.1, ?_⟩
      rcases hown.2 with h | ⟨g1, c1, cur, h1, h2, h3⟩
      · exact Or.inl h
      · exact Or.inr ⟨g1, c1, cur, h1, by omega, h3⟩

end Go.Proofs.YtcbmljfgmeeadaaDoor
