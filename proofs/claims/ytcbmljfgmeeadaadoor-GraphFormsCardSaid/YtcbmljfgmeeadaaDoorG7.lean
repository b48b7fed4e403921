/-
  CONTRACT: sizes.
-/
import Derived.Test.YtcbmljfgmeeadaaDoorJP
import Derived.Test.YtcbmljfgmeeadaaDoorJB
import Derived.BigRegion
namespace Go.Proofs.YtcbmljfgmeeadaaDoor
open Go.RowKit

set_option maxHeartbeats 1000000 in
theorem sizes_c (ss : List Stp) (v : Value) (w : World) (hv : IsProof All w v ss) (hok : Okay ss) :
    Calls Tryd.prog 33 #[v] w fun e w' => ∃ nb, e = .returned (.slice (some ⟨nb, 0, none⟩) ss.length ss.length) ∧ w.heap.size ≤ nb ∧ IsRow w' nb 3 (ints (sizesM ss)) ∧ Keeps All w w' := by
  obtain ⟨u, rfl, hs⟩ := hv
  have hs' := hs
  obtain ⟨a, cap, rfl, hl, h⟩ := hs
  rcases h with ⟨rfl, _⟩ | ⟨b, off, rfl, hB, _, hc⟩
  · exact absurd hok.1 (by simp)
  have hlen : ss.length ≤ 2000 := hok.2.1
  have hmk := make_ints ss.length hlen
  have Hc := hid hc
  clear hc
  have l1 : w.heap.size < w.heap.size + 1 := by omega
  go_enter Tryd.func33, Tryd.ntmps33
  go_wp2
  go_loopw [4, 5, 7, 15] (fun _ _ _ iv wr => ∃ k : Nat, k ≤ ss.length ∧ iv = .int .i64 k ∧ Keeps All w wr ∧ IsRow wr (w.heap.size + 1) 3 (ints (sizesTo ss k ++ List.replicate (ss.length - k) 0))) (fun _ _ _ iv _ => ss.length - (intOf iv).toNat)
  case atStart => exact ⟨0, Nat.zero_le _, rfl, ((Keeps.refl _ _).alloc _).alloc _, IsRow.newAt (by simp)⟩
  case round =>
    obtain ⟨k, hk, rfl, hkw, hrow⟩ := hrel
    by_cases hlt : k < ss.length
    · obtain ⟨c1, va, c2, hva⟩ := Hc.out k hlt
      have e1 : wr.cell? ⟨b, off + k * 2, none⟩ = some (.string ss[k].label) := hkw.cell (p := ⟨b, off + k * 2, none⟩) trivial c1
      have e2 : wr.cell? ⟨b, off + k * 2 + 1, none⟩ = some va := hkw.cell (p := ⟨b, off + k * 2 + 1, none⟩) trivial c2
      clear c1 c2
      have hva2 := hva
      obtain ⟨a2, cap2, rfl, hl2, _, h2⟩ := hva
      clear h2
      obtain ⟨q, hq⟩ : ∃ q, ss.length - k = q + 1 := ⟨ss.length - k - 1, by omega⟩
      rw [hq, List.replicate_succ] at hrow
      have hst := sizesTo_length ss k
      have f1 : wr.cell? ⟨w.heap.size + 1, k, none⟩ = some (.int .i64 0) := by
        rw [hrow.cell, ints_get, List.getElem?_append_right (by omega), hst, Nat.sub_self]; rfl
      have f2 := hrow.frozen k
      have hlt2 := hrow.lt
      have Hq := hid hq
      have Hst := hid hst
      clear hq hst
      have hrow1 : IsRow ((wr.setCell ⟨w.heap.size + 1, k, none⟩ (.int .i64 1)).alloc (.cells #[.string ss[k].label, .slice a2 ss[k].args.length cap2] 45)) (w.heap.size + 1) 3 (ints (sizesTo ss k ++ 1 :: List.replicate q 0)) := by
        have h := hrow.set k (.int .i64 1)
        rw [ints_set, List.set_append_right _ _ (by rw [Hst.out]; omega), Hst.out, Nat.sub_self, List.set_cons_zero] at h
        exact h.alloc _
      have hkw1 : Keeps All w ((wr.setCell ⟨w.heap.size + 1, k, none⟩ (.int .i64 1)).alloc (.cells #[.string ss[k].label, .slice a2 ss[k].args.length cap2] 45)) := (hkw.setCell (fun (h : w.heap.size + 1 < _) => absurd h (by omega)) _).alloc _
      go_wp2
      obtain ⟨wo, rfl⟩ : ∃ wo : World, wo = wr := ⟨_, rfl⟩
      go_loopw [7, 26] (fun _ iv wr => ∃ (j : Nat) (acc : Int), j ≤ ss[k].args.length ∧ iv = .int .i64 j ∧ Keeps All w wr ∧ Hid (acc = (ss[k].args.take j).foldl (addSize (sizesTo ss k)) 1) ∧ IsRow wr (w.heap.size + 1) 3 (ints (sizesTo ss k ++ acc :: List.replicate q 0))) (fun _ iv _ => ss[k].args.length - (intOf iv).toNat)
      case atStart => exact ⟨0, 1, Nat.zero_le _, rfl, hkw1, rfl, hrow1⟩
      case round =>
        obtain ⟨j, acc, hj, rfl, hkj, hacc, hrj⟩ := hrel
        by_cases hjl : j < ss[k].args.length
        · have hrange := (hok.2.2 k hlt).2 _ (List.getElem_mem hjl)
          have hcell : ∃ b off, a2 = some ⟨b, off, none⟩ ∧ wr.cell? ⟨b, off + j, none⟩ = some (.int .i64 ss[k].args[j]) := by
            obtain ⟨_, _, he, _, _, h⟩ := hva2
            cases he
            rcases h with ⟨h, _⟩ | ⟨b, off, rfl, _, _, hcc⟩
            · rw [h] at hjl; simp at hjl
            · exact ⟨b, off, rfl, hkj.cell (p := ⟨b, off + j, none⟩) trivial (hcc j hjl)⟩
          have hfold : Hid ((ss[k].args.take (j + 1)).foldl (addSize (sizesTo ss k)) 1 = addSize (sizesTo ss k) acc ss[k].args[j]) := by
            rw [hacc.out, List.take_succ_eq_append_getElem hjl, List.foldl_append]; rfl
          have hab : 0 ≤ acc ∧ acc ≤ 1000000000 := by rw [hacc.out]; exact fold_bound _ (sizesTo_bound ss k) _ _ (by omega)
          have g1 : wr.cell? ⟨w.heap.size + 1, k, none⟩ = some (.int .i64 acc) := by
            rw [hrj.cell, ints_get, List.getElem?_append_right (by rw [Hst.out]; omega), Hst.out, Nat.sub_self]; rfl
          obtain ⟨y, hy, g2⟩ : ∃ y, (sizesTo ss k).getD ss[k].args[j].toNat 0 = y ∧ wr.cell? ⟨w.heap.size + 1, ss[k].args[j].toNat, none⟩ = some (.int .i64 y) := by
            refine ⟨_, rfl, ?_⟩
            have h1 : ss[k].args[j].toNat < (sizesTo ss k).length := by rw [Hst.out]; omega
            rw [hrj.cell, ints_get, List.getElem?_append_left h1, List.getElem?_eq_getElem h1, List.getD_eq_getElem?_getD, List.getElem?_eq_getElem h1]; rfl
          have hyb : 0 ≤ y ∧ y ≤ 1000000000 := by
            rw [← hy, List.getD_eq_getElem?_getD]
            cases hg : (sizesTo ss k)[ss[k].args[j].toNat]? with
            | none => simp
            | some z => exact sizesTo_bound ss k z (List.mem_of_getElem? hg)
          have hadd : Hid (addSize (sizesTo ss k) acc ss[k].args[j] = if acc + y < 1000000000 then acc + y else 1000000000) := by rw [Hid, addSize, hy]
          obtain ⟨b2, off2, rfl, g3⟩ := hcell
          have g4 := hrj.frozen k
          have Hacc := hid hacc
          obtain ⟨q1, q2⟩ := hrange
          obtain ⟨q3, q4⟩ := hab
          obtain ⟨q5, q6⟩ := hyb
          clear hy hacc
          generalize ss[k].args[j] = z at *
          go_wp2
          go_region
          go_wp2
          go_roundw
          case rel =>
            refine ⟨j + 1, _, by omega, by go_num, (hkj.setCell (fun (h : w.heap.size + 1 < _) => absurd h (by omega)) _).drew, hfold.out.symm, ?_⟩
            have h := hrj.set k (.int .i64 (addSize (sizesTo ss k) acc z))
            rw [ints_set, List.set_append_right _ _ (by rw [Hst.out]; omega), Hst.out, Nat.sub_self, List.set_cons_zero, hadd.out] at h
            rw [hadd.out]
            exact h.drew
          case measure => simp [intOf]; omega
        · go_wp2
          go_roundw
          case rel =>
            refine ⟨k + 1, by omega, by go_num, hkj, ?_⟩
            rw [hacc.out, List.take_of_length_le (by omega)] at hrj
            have hq := Hq.out
            rw [show ss.length - (k + 1) = q by omega]
            simp only [sizesTo, List.getElem?_eq_getElem hlt, Option.map_some, Option.getD_some, List.append_assoc, List.cons_append, List.nil_append]
            exact hrj
          case measure => simp [intOf]; omega
    · go_wp2
      go_ret
      obtain rfl : k = ss.length := by omega
      simp only [Nat.sub_self, List.replicate_zero, List.append_nil] at hrow
      exact ⟨w.heap.size + 1, rfl, by omega, hrow, hkw⟩

end Go.Proofs.YtcbmljfgmeeadaaDoor
