/-
  TEXTS IN A SLICE; slices.Values at texts: it hands them in order.
-/
import Derived.Test.YtcbmljfgmeeadaaDoorBlk
import Derived.Test.YtcbmljfgmeeadaaDoorSeq
import Derived.Laws.EntriesVeiled
namespace Go.Proofs.YtcbmljfgmeeadaaDoor
open Go.RowKit Go.Shelf

attribute [local go_sem] Oper.semAt_some

/-- A slice value whose cells, in blocks that S names, hold the texts xs. -/
def IsStrs (S : Nat → Prop) (w : World) (v : Value) (xs : List ByteArray) : Prop :=
  ∃ a cap, v = .slice a xs.length cap ∧ xs.length ≤ 140737488351232 ∧
    ((xs = [] ∧ True) ∨ ∃ b off, a = some ⟨b, off, none⟩ ∧ b < w.heap.size ∧ S b ∧ ∀ i (h : i < xs.length), w.cell? ⟨b, off + i, none⟩ = some (.string xs[i]))

theorem IsStrs.keep {S T : Nat → Prop} {w w' : World} {v : Value} {xs : List ByteArray} (h : IsStrs S w v xs) (hk : Keeps T w w') (hs : ∀ k, k < w.heap.size → S k → T k) : IsStrs S w' v xs := by
  obtain ⟨a, cap, hv, hl, h⟩ := h
  refine ⟨a, cap, hv, hl, ?_⟩
  rcases h with h | ⟨b, off, ha, hB, hS, hc⟩
  · exact Or.inl h
  · exact Or.inr ⟨b, off, ha, by have := hk.size; omega, hS, fun i hi => hk.cell (hs _ hB hS) (hc i hi)⟩

theorem IsStrs.sub {S T : Nat → Prop} {w : World} {v : Value} {xs : List ByteArray} (h : IsStrs S w v xs) (hs : ∀ k, k < w.heap.size → S k → T k) : IsStrs T w v xs := by
  obtain ⟨a, cap, hv, hl, h⟩ := h
  refine ⟨a, cap, hv, hl, ?_⟩
  rcases h with h | ⟨b, off, ha, hB, hS, hc⟩
  · exact Or.inl h
  · exact Or.inr ⟨b, off, ha, hB, hs _ hB hS, hc⟩

theorem IsStrs.form {S : Nat → Prop} {w : World} {v : Value} {xs : List ByteArray} (h : IsStrs S w v xs) : ∃ a c, v = .slice a xs.length c := by
  obtain ⟨a, c, hv, _⟩ := h
  exact ⟨a, c, hv⟩
theorem IsStrs.at {S : Nat → Prop} {w : World} {a : Option Addr} {n c : Nat} {xs : List ByteArray} (h : IsStrs S w (.slice a n c) xs) {k : Nat} (hk : k < xs.length) : ∃ b off, a = some ⟨b, off, none⟩ ∧ w.cell? ⟨b, off + k, none⟩ = some (.string xs[k]) := by
  obtain ⟨_, _, he, _, h⟩ := h
  cases he
  rcases h with ⟨h, _⟩ | ⟨b, off, rfl, _, _, hc⟩
  · rw [h] at hk; simp at hk
  · exact ⟨b, off, rfl, hc k hk⟩

theorem Values_c (a : Option Addr) (n c : Nat) (w : World) :
    Calls Tryd.prog 60 #[.slice a n c] w fun e w' => e = .returned (.func (.func 67) #[] #[.pointer (some ⟨w.heap.size, 0, none⟩)]) ∧ w.alloc (.cells #[.slice a n c] 36) = w' := by
  go_enter Tryd.func60, Tryd.ntmps60
  go_wp2
  go_ret
  exact ⟨rfl, rfl⟩

theorem eg_Values1 : ∀ args w, (callFunc 67 args).run Tryd.prog w = .ok (.enter 67 args) w := enters_of Tryd.func67 (by kernel_rfl) rfl

set_option maxHeartbeats 1000000 in
theorem Values1_seq (xs : List ByteArray) (pb : Nat) (Prot : Nat → Prop) (w : World)
    (hd : ∃ u, w.cell? ⟨pb, 0, none⟩ = some u ∧ IsStrs Prot w u xs) :
    SeqAll Tryd.prog 67 #[.pointer (some ⟨pb, 0, none⟩)] (fun x : ByteArray => .string x) Prot 0 xs w := by
  intro n l J W hW hJ hY h0
  have hsz := hW.size
  obtain ⟨u, c1, hu⟩ := hd
  have c1' : W.cell? ⟨pb, 0, none⟩ = some u := hW.cell (p := ⟨pb, 0, none⟩) trivial c1
  have hu' : IsStrs Prot W u xs := hu.keep hW fun _ _ _ => trivial
  obtain ⟨a, cap, rfl, hl, hx⟩ := hu
  clear hx c1 hJ
  have HY := hid hY
  have HJ0 := hid h0
  clear hY h0
  refine callsIn_of_wp Tryd.func67 rfl trivial ?_ rfl
  simp only [Tryd.ntmps67, List.size_toArray, List.length_cons, List.length_nil, Nat.reduceAdd, Nat.reduceSub, Array.replicate_succ, Array.replicate_zero, List.push_toArray, List.append_toArray, List.nil_append, List.cons_append]
  gi_wp2
  gi_loopw [4, 7] (fun i4 iv wr => ∃ k : Nat, k ≤ xs.length ∧ iv = .int .i64 k ∧ J (xs.take k) wr ∧ Keeps Prot W wr) (fun _ iv _ => xs.length - (intOf iv).toNat)
  case atStart => exact ⟨0, Nat.zero_le _, rfl, by simpa using HJ0.out, Keeps.refl _ _⟩
  case round =>
    obtain ⟨k, hk, rfl, hj, hkw⟩ := hrel
    by_cases hlt : k < xs.length
    · obtain ⟨b, off, rfl, d1⟩ := (hu'.keep hkw fun _ _ h => h).at hlt
      have hy := HY.out (n - 1) (xs.take k) xs[k] wr hj (by rw [← List.take_succ_eq_append_getElem hlt]; exact List.take_prefix _ _) (by have := hkw.size; omega)
      have hnext := hid (List.take_succ_eq_append_getElem hlt)
      obtain ⟨fn, tmps, assign, body, hy, hR⟩ := hy
      generalize xs[k] = x at *
      gi_wp2
      refine ⟨fun h => by simp [Fence.wide] at h, ?_⟩
      refine hR.mono ?_
      clear hR
      rintro e w2 ⟨rfl, hj2, hk2⟩
      gi_wp2
      go_roundw
      case rel => exact ⟨k + 1, by omega, by go_num, by rw [hnext.out]; exact hj2, hkw.trans (hk2.sub fun _ _ h => Or.inl h)⟩
      case measure => simp [intOf]; omega
    · obtain rfl : k = xs.length := by omega
      rw [List.take_length] at hj
      gi_wp2
      go_end0
      exact ⟨⟨_, rfl⟩, hj⟩

end Go.Proofs.YtcbmljfgmeeadaaDoor
