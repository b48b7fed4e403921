/-
  CONTRACT: renumbered: a step whose Args have other numbers, in new memory.
-/
import Derived.Test.YtcbmljfgmeeadaaDoorJP
import Derived.BigRegion
import Derived.Deep.DeepCutAuto
namespace Go.Proofs.YtcbmljfgmeeadaaDoor
open Go.RowKit

/-- The number at a place, 0 where there is none. -/
def numAt (now : List Int) (a : Int) : Int := now.getD a.toNat 0

set_option maxHeartbeats 800000 in
theorem renumbered_c (s : Stp) (now : List Int) (v vn : Value) (w : World) (hv : IsStep All w v s) (hn : IsInts All w vn now) (hlen : s.args.length ≤ 40) (ha : ∀ a ∈ s.args, 0 ≤ a ∧ a < now.length) :
    Calls Tryd.prog 31 #[v, vn] w fun e w' => ∃ nb, e = .returned (.agg #[.string s.label, .slice (some ⟨nb, 0, none⟩) s.args.length s.args.length]) ∧ w.heap.size ≤ nb ∧ IsRow w' nb 3 (ints (s.args.map (numAt now))) ∧ Keeps All w w' := by
  obtain ⟨va, rfl, hva⟩ := hv
  have hva' := hva
  have hn' := hn
  obtain ⟨a, cap, rfl, hl, hx, h⟩ := hva
  obtain ⟨a2, cap2, rfl, hl2, hx2, h2⟩ := hn
  clear h h2 hx hx2
  have Ha := hid ha
  clear ha
  have hmk := make_ints s.args.length (by omega)
  go_enter Tryd.func31, Tryd.ntmps31
  go_wp2
  go_cut [5] (fun t5 wx => ∃ ob nb, t5 = .pointer (some ⟨ob, 0, none⟩) ∧ w.heap.size + 2 ≤ ob ∧ w.heap.size + 2 ≤ nb ∧ ob ≠ nb ∧ IsRow wx w.heap.size 45 [.string s.label, .slice a s.args.length cap] ∧
    IsRow wx (w.heap.size + 1) 45 [.string ⟨#[]⟩, .slice none 0 0] ∧ IsRow wx ob 45 [.string s.label, .slice (some ⟨nb, 0, none⟩) s.args.length s.args.length] ∧ IsRow wx nb 3 (ints (List.replicate s.args.length 0)) ∧ Keeps All w wx)
  case first =>
    go_region
    · go_wp2
      go_meet
      case rel => exact ⟨w.heap.size + 1 + 1 + 1, w.heap.size + 1 + 1, rfl, by omega, by omega, by omega,
        by repeat (first | (refine IsRow.newAt ?_; (simp; done)) | refine IsRow.drew ?_ | refine IsRow.alloc ?_ _),
        by repeat (first | (refine IsRow.newAt ?_; (simp; done)) | refine IsRow.drew ?_ | refine IsRow.alloc ?_ _),
        by repeat (first | (refine IsRow.newAt ?_; (simp; done)) | refine IsRow.drew ?_ | refine IsRow.alloc ?_ _),
        by repeat (first | (refine IsRow.newAt ?_; (simp; done)) | refine IsRow.drew ?_ | refine IsRow.alloc ?_ _),
        by repeat (first | exact Keeps.refl _ _ | refine Keeps.drew ?_ | refine Keeps.alloc ?_ _)⟩
    · go_wp2
      go_meet
      case rel => exact ⟨w.heap.size + 1 + 1, w.heap.size + 1 + 1 + 1, rfl, by omega, by omega, by omega,
        by repeat (first | (refine IsRow.newAt ?_; (simp; done)) | refine IsRow.drew ?_ | refine IsRow.alloc ?_ _),
        by repeat (first | (refine IsRow.newAt ?_; (simp; done)) | refine IsRow.drew ?_ | refine IsRow.alloc ?_ _),
        by repeat (first | (refine IsRow.newAt ?_; (simp; done)) | refine IsRow.drew ?_ | refine IsRow.alloc ?_ _),
        by repeat (first | (refine IsRow.newAt ?_; (simp; done)) | refine IsRow.drew ?_ | refine IsRow.alloc ?_ _),
        by repeat (first | exact Keeps.refl _ _ | refine Keeps.drew ?_ | refine Keeps.alloc ?_ _)⟩
  case rest =>
    obtain ⟨ob, nb, rfl, hob, hnb, hne, r0, r1, r2, r3, hk⟩ := hcut
    have c0 := r0.cell 1
    simp only [List.getElem?_cons_succ, List.getElem?_cons_zero] at c0
    go_wp2
    go_loopw [6, 7, 18] (fun i6 i7 i wr => ∃ k : Nat, k ≤ s.args.length ∧ i = .int .i64 k ∧ IsRow wr (w.heap.size + 1) 45 [.string ⟨#[]⟩, .slice none 0 0] ∧
      IsRow wr ob 45 [.string s.label, .slice (some ⟨nb, 0, none⟩) s.args.length s.args.length] ∧ IsRow wr nb 3 (ints ((s.args.map (numAt now)).take k ++ List.replicate (s.args.length - k) 0)) ∧ Keeps All w wr) (fun _ _ i _ => s.args.length - (intOf i).toNat)
    case atStart => exact ⟨0, Nat.zero_le _, rfl, r1, r2, by simpa using r3, hk⟩
    case round =>
      obtain ⟨k, hkl, rfl, r1, r2, r3, hk⟩ := hrel
      by_cases hlt : k < s.args.length
      · obtain ⟨q1, q2⟩ := Ha.out _ (List.getElem_mem hlt)
        have hcell : ∃ b off, a = some ⟨b, off, none⟩ ∧ wr.cell? ⟨b, off + k, none⟩ = some (.int .i64 s.args[k]) := by
          obtain ⟨_, _, he, _, _, h⟩ := hva'
          cases he
          rcases h with ⟨h, _⟩ | ⟨b, off, rfl, hB, _, hc⟩
          · rw [h] at hlt; simp at hlt
          · exact ⟨b, off, rfl, hk.cell (p := ⟨b, off + k, none⟩) trivial (hc k hlt)⟩
        have hcell2 : ∃ b off, a2 = some ⟨b, off, none⟩ ∧ wr.cell? ⟨b, off + s.args[k].toNat, none⟩ = some (.int .i64 (numAt now s.args[k])) := by
          obtain ⟨_, _, he, _, _, h⟩ := hn'
          cases he
          have hlt2 : s.args[k].toNat < now.length := by omega
          rcases h with ⟨h, _⟩ | ⟨b, off, rfl, hB, _, hc⟩
          · rw [h] at hlt2; simp at hlt2
          · exact ⟨b, off, rfl, hk.cell (p := ⟨b, off + s.args[k].toNat, none⟩) trivial (by rw [hc _ hlt2]; simp [numAt, List.getD, List.getElem?_eq_getElem hlt2])⟩
        have hnext : Hid ((ints ((s.args.map (numAt now)).take k ++ List.replicate (s.args.length - k) 0)).set k (.int .i64 (numAt now s.args[k])) = ints ((s.args.map (numAt now)).take (k + 1) ++ List.replicate (s.args.length - (k + 1)) 0)) := by
          have hf := fill_set (s.args.map (numAt now)) 0 k (by simpa using hlt)
          simp only [List.length_map, List.getElem_map] at hf
          rw [ints_set, hf]; rfl
        have hget := fill_get (s.args.map (numAt now)) 0 k (by simpa using hlt)
        simp only [List.length_map] at hget
        obtain ⟨b, off, rfl, c1⟩ := hcell
        obtain ⟨b2, off2, rfl, c2⟩ := hcell2
        have c3 : wr.cell? ⟨nb, k, none⟩ = some (.int .i64 0) := by
          rw [r3.cell, ints_get, hget]; rfl
        clear hget
        have c4 := r3.frozen k
        have c5 := r2.cell 1
        simp only [List.getElem?_cons_succ, List.getElem?_cons_zero] at c5
        generalize s.args[k] = x at q1 q2 c1 c2 hnext
        generalize numAt now x = y at c2 hnext
        go_wp2
        go_region
        go_wp2
        go_roundw
        case rel =>
          refine ⟨k + 1, by omega, by go_num, (r1.other (by omega) _ _).drew, (r2.other (by omega) _ _).drew, ?_, (hk.setCell (fun (h : nb < _) => absurd h (by omega)) _).drew⟩
          rw [← hnext.out]; exact (r3.set k _).drew
        case measure => simp [intOf]; omega
      · obtain ⟨d0, d1, _, _⟩ := r2.two
        obtain ⟨d2, d3, d4, d5⟩ := r1.two
        obtain rfl : k = s.args.length := by omega
        simp only [Nat.sub_self, List.replicate_zero, List.append_nil] at r3
        rw [show (s.args.map (numAt now)).take s.args.length = s.args.map (numAt now) from by rw [List.take_of_length_le (by simp)]] at r3
        go_wp2
        refine bodyPost_ret (v := .agg #[.string s.label, .slice (some ⟨nb, 0, none⟩) s.args.length s.args.length]) ?_ rfl ?_
        · have k2 := ((r1.set 0 (.string s.label)).set 1 (.slice (some ⟨nb, 0, none⟩) s.args.length s.args.length)).two
          simp [results, Tryd.results31, go_sem, k2]
        · refine ⟨nb, rfl, by omega, ?_, ?_⟩
          · exact (r3.other (by omega) _ _).other (by omega) _ _
          · exact (hk.setCell (fun (h : w.heap.size + 1 < _) => absurd h (by omega)) _).setCell (fun (h : w.heap.size + 1 < _) => absurd h (by omega)) _

end Go.Proofs.YtcbmljfgmeeadaaDoor
