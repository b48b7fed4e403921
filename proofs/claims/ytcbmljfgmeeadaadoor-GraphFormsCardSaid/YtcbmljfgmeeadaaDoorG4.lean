/-
  CONTRACT: postorder: the iterator over the needed steps. Its own four blocks: the box of yield, the row of marks, the box of the marks, the box of visit.
-/
import Derived.Test.YtcbmljfgmeeadaaDoorJP
import Derived.Test.YtcbmljfgmeeadaaDoorJB
import Derived.Test.YtcbmljfgmeeadaaDoorSeq
namespace Go.Proofs.YtcbmljfgmeeadaaDoor
open Go.RowKit Go.Shelf

attribute [local go_sem] Oper.semAt_some

/-- What the iterator keeps in memory, the marks being D. -/
structure VState (ss : List Stp) (l n1 pb : Nat) (Prot : Nat → Prop) (W : World) (D : List Bool) : Prop where
  size : n1 + 4 ≤ W.heap.size
  len : D.length = ss.length
  yb : IsRow W n1 71 [.func (.yield l) #[] #[]]
  row : IsRow W (n1 + 1) 4 (bools D)
  db : IsRow W (n1 + 2) 67 [.slice (some ⟨n1 + 1, 0, none⟩) ss.length ss.length]
  vb : IsRow W (n1 + 3) 71 [.func (.func 56) #[] #[.pointer (some ⟨n1 + 2, 0, none⟩), .pointer (some ⟨pb, 0, none⟩), .pointer (some ⟨n1 + 3, 0, none⟩), .pointer (some ⟨n1, 0, none⟩)]]
  pb : ∃ u, W.cell? ⟨pb, 0, none⟩ = some u ∧ IsSteps Prot W u ss

theorem VState.keep {ss : List Stp} {l n1 pb : Nat} {Prot : Nat → Prop} {W W' : World} {D : List Bool} (h : VState ss l n1 pb Prot W D) (hp : Prot pb)
    (hk : Keeps (fun k => Prot k ∨ (n1 ≤ k ∧ k < n1 + 4)) W W') : VState ss l n1 pb Prot W' D := by
  obtain ⟨u, h1, h2⟩ := h.pb
  exact ⟨by have := hk.size; have := h.size; omega, h.len, h.yb.keep hk (Or.inr ⟨by omega, by omega⟩), h.row.keep hk (Or.inr ⟨by omega, by omega⟩), h.db.keep hk (Or.inr ⟨by omega, by omega⟩), h.vb.keep hk (Or.inr ⟨by omega, by omega⟩),
    u, hk.cell (p := ⟨pb, 0, none⟩) (Or.inl hp) h1, h2.keep hk fun _ _ h => Or.inl h⟩

theorem VState.mark {ss : List Stp} {l n1 pb : Nat} {Prot : Nat → Prop} {W : World} {D : List Bool} (h : VState ss l n1 pb Prot W D) (hp : Prot pb) (hP : ∀ k, Prot k → k < n1) (i : Nat) :
    VState ss l n1 pb Prot (W.setCell ⟨n1 + 1, i, none⟩ (.bool true)) (D.set i true) := by
  obtain ⟨u, h1, h2⟩ := h.pb
  have hk : Keeps (fun k => k ≠ n1 + 1) W (W.setCell ⟨n1 + 1, i, none⟩ (.bool true)) := (Keeps.refl _ _).setCell (fun _ hn => hn rfl) _
  exact ⟨by have := hk.size; have := h.size; omega, by simpa using h.len, h.yb.keep hk (by omega), by rw [← bools_set]; exact h.row.set i _, h.db.keep hk (by omega), h.vb.keep hk (by omega),
    u, hk.cell (p := ⟨pb, 0, none⟩) (show pb ≠ n1 + 1 by have := hP _ hp; omega) h1, h2.keep hk fun k _ h => by have := hP _ h; omega⟩

theorem eg_visit : ∀ args w, (callFunc 56 args).run Tryd.prog w = .ok (.enter 56 args) w := enters_of Tryd.func56 (by kernel_rfl) rfl

set_option maxHeartbeats 1000000 in
theorem visit_c (ss : List Stp) (hok : Okay ss) (l n1 pb : Nat) (Prot : Nat → Prop) (hp : Prot pb) (hP : ∀ k, Prot k → k < n1) (J : List Nat → World → Prop)
    (hJ : ∀ pre A B, J pre A → n1 ≤ A.heap.size → Keeps (fun k => k < n1 ∨ n1 + 4 ≤ k) A B → J pre B)
    (hY : ∀ (m : Nat) (pre : List Nat) (x : Nat) (W1 : World), J pre W1 → (pre ++ [x]) <+: post ss → n1 + 4 ≤ W1.heap.size → YieldAt Fence.wide m Tryd.prog l #[.int .i64 (x : Int)] W1 fun e W' =>
      e = .returned (.bool true) ∧ J (pre ++ [x]) W' ∧ Keeps (fun k => Prot k ∨ (n1 ≤ k ∧ k < n1 + 4)) W1 W') :
    ∀ (f i : Nat) (pre : List Nat) (W : World) (D : List Bool) (n : Nat), i < f → i < ss.length → VState ss l n1 pb Prot W D → (∀ j, j ≤ i → D[j]? = some (decide (j ∈ pre))) → J pre W →
      trav (kidsOf ss) f i pre <+: post ss →
      CallsIn Fence.wide n Tryd.prog 56 #[.int .i64 (i : Int), .pointer (some ⟨n1 + 2, 0, none⟩), .pointer (some ⟨pb, 0, none⟩), .pointer (some ⟨n1 + 3, 0, none⟩), .pointer (some ⟨n1, 0, none⟩)] W fun e W' =>
        e = .returned (.bool true) ∧ ∃ D', VState ss l n1 pb Prot W' D' ∧ (∀ j, j ≤ i → D'[j]? = some (decide (j ∈ trav (kidsOf ss) f i pre))) ∧ (∀ j, i < j → D'[j]? = D[j]?) ∧ J (trav (kidsOf ss) f i pre) W' ∧ Keeps Prot W W' := by
  intro f
  induction f with
  | zero => intro i pre W D n hi; omega
  | succ f ih =>
    intro i pre W D n hi hil hV hD hj hpre
    have hlen : ss.length ≤ 2000 := hok.2.1
    have hDi := hD i (Nat.le_refl _)
    obtain ⟨c1, _⟩ := hV.db.one
    have c2 : W.cell? ⟨n1 + 1, i, none⟩ = some (.bool (decide (i ∈ pre))) := by rw [hV.row.cell, bools_get, hDi]; rfl
    by_cases hm : i ∈ pre
    · have ht : Hid (trav (kidsOf ss) (f + 1) i pre = pre) := by simp [Hid, trav, hm]
      simp only [hm, decide_true] at c2
      have HD := hid hD
      clear hD hDi ih hY hJ
      refine callsIn_of_wp Tryd.func56 rfl trivial ?_ rfl
      simp only [Tryd.ntmps56, List.size_toArray, List.length_cons, List.length_nil, Nat.reduceAdd, Nat.reduceSub, Array.replicate_succ, Array.replicate_zero, List.push_toArray, List.append_toArray, List.nil_append, List.cons_append]
      gi_wp2
      go_ret
      refine ⟨rfl, D, hV, ?_, fun _ _ => rfl, ?_⟩
      · rw [ht.out]; exact HD.out
      · rw [ht.out]; exact ⟨hj, Keeps.refl _ _⟩
    · have ht : Hid (trav (kidsOf ss) (f + 1) i pre = (kidsOf ss i).foldl (fun o a => trav (kidsOf ss) f a o) pre ++ [i]) := by simp [Hid, trav, hm]
      simp only [hm, decide_false] at c2
      have HD := hid hD
      have Hpre : Hid (trav (kidsOf ss) (f + 1) i pre <+: post ss) := hpre
      have HJ := hid hJ
      have HY := hid hY
      have HP := hid hP
      have HI := hid ih
      clear hD hDi ih hJ hY hP hpre
      have hV1 := hV.mark hp HP.out i
      have hj1 : J pre (W.setCell ⟨n1 + 1, i, none⟩ (.bool true)) := HJ.out _ _ _ hj (by have := hV.size; omega) ((Keeps.refl _ _).setCell (fun _ hn => by simp at hn; omega) _)
      have hk1 : Keeps Prot W (W.setCell ⟨n1 + 1, i, none⟩ (.bool true)) := (Keeps.refl _ _).setCell (fun _ (hn : Prot (n1 + 1)) => by have := HP.out _ hn; omega) _
      have c3 := hV.row.frozen i
      obtain ⟨c4, _⟩ := hV1.db.one
      obtain ⟨u, c5, a, cap, rfl, _, hu⟩ := hV1.pb
      rcases hu with ⟨hu, _⟩ | ⟨b, off, rfl, hB, hPb, hc⟩
      · rw [hu] at hil; simp at hil
      obtain ⟨_, va, c6, hva⟩ := hc i hil
      clear hc
      have hva' := hva
      obtain ⟨a2, cap2, rfl, hl2, hx2, h2⟩ := hva'
      clear h2 hx2
      obtain ⟨W1, hW1⟩ : ∃ W1, W.setCell ⟨n1 + 1, i, none⟩ (.bool true) = W1 := ⟨_, rfl⟩
      refine callsIn_of_wp Tryd.func56 rfl trivial ?_ rfl
      simp only [Tryd.ntmps56, List.size_toArray, List.length_cons, List.length_nil, Nat.reduceAdd, Nat.reduceSub, Array.replicate_succ, Array.replicate_zero, List.push_toArray, List.append_toArray, List.nil_append, List.cons_append]
      rw [hW1] at hV1 hj1 hk1 c4 c5 c6 hva hB
      gi_wp2
      gi_loopw [8, 23] (fun i8 iv wr => ∃ (k : Nat) (D' : List Bool), k ≤ ss[i].args.length ∧ iv = .int .i64 k ∧ VState ss l n1 pb Prot wr D' ∧
        Hid (∀ j, j < i → D'[j]? = some (decide (j ∈ ((kidsOf ss i).take k).foldl (fun o a => trav (kidsOf ss) f a o) pre))) ∧ Hid (D'[i]? = some true) ∧ Hid (∀ j, i < j → D'[j]? = D[j]?) ∧
        J (((kidsOf ss i).take k).foldl (fun o a => trav (kidsOf ss) f a o) pre) wr ∧ Keeps Prot W wr ∧ IsInts Prot wr (.slice a2 ss[i].args.length cap2) ss[i].args) (fun _ iv _ => ss[i].args.length - (intOf iv).toNat)
      case atStart =>
        refine ⟨0, D.set i true, Nat.zero_le _, rfl, hV1, ?_, ?_, ?_, hj1, hk1, hva⟩
        · intro j hj
          rw [List.getElem?_set_ne (by omega)]
          exact HD.out j (by omega)
        · show _ = _
          rw [List.getElem?_set_self (by rw [hV.len]; exact hil)]
        · intro j hj
          rw [List.getElem?_set_ne (by omega)]
      case round =>
        obtain ⟨k, D', hk, rfl, hV', hD', hDi', hDj', hj', hkp', hva'⟩ := hrel
        by_cases hlt : k < ss[i].args.length
        · have hkl : Hid (k < (kidsOf ss i).length) := by rw [kidsOf_lt hil]; simpa [Hid] using hlt
          obtain ⟨c, hc, hkc⟩ : ∃ c : Nat, ss[i].args[k] = (c : Int) ∧ (kidsOf ss i)[k]'(hkl.out) = c := by
            have h1 := (hok.2.2 i hil).2 _ (List.getElem_mem hlt)
            exact ⟨ss[i].args[k].toNat, by omega, by simp [kidsOf_lt hil]⟩
          have hci : c < i := hok.kid (by rw [← hkc]; exact List.getElem_mem _)
          have hcell : ∃ b off, a2 = some ⟨b, off, none⟩ ∧ wr.cell? ⟨b, off + k, none⟩ = some (.int .i64 (c : Int)) := by
            obtain ⟨_, _, he, _, _, h⟩ := hva'
            cases he
            rcases h with ⟨h, _⟩ | ⟨b, off, rfl, _, _, hcc⟩
            · rw [h] at hlt; simp at hlt
            · exact ⟨b, off, rfl, by rw [hcc k hlt, hc]⟩
          have hcall := HI.out c (((kidsOf ss i).take k).foldl (fun o a => trav (kidsOf ss) f a o) pre) wr D' (n - 1) (by omega) (by omega) hV' (fun j hj => hD'.out j (by omega)) hj' (by
            refine List.IsPrefix.trans ?_ Hpre.out
            rw [ht.out, ← hkc, ← fold_take_succ (kidsOf ss) f _ k hkl.out]
            exact (fold_take_prefix _ _ _ _ _).trans (List.prefix_append _ _))
          have hstep := hid (fold_take_succ (kidsOf ss) f _ k hkl.out pre)
          have hrank := hid (trav_rank (kidsOf ss) id (fun x a ha => hok.kid ha) f c (((kidsOf ss i).take k).foldl (fun o a => trav (kidsOf ss) f a o) pre))
          rw [hkc] at hstep
          have HC := hid hc
          have HKC := hid hkc
          clear hc hkc
          obtain ⟨b2, off2, rfl, c7⟩ := hcell
          obtain ⟨c8, _⟩ := hV'.vb.one
          generalize ((kidsOf ss i).take k).foldl (fun o a => trav (kidsOf ss) f a o) pre = o at *
          gi_wp2
          refine ⟨trivial, fun h => by simp [Fence.wide] at h, ?_⟩
          refine hcall.mono ?_
          clear hcall
          rintro e w2 ⟨rfl, D2, hV2, hD2, hD2', hj2, hk2⟩
          gi_wp2
          go_roundw
          case rel =>
            refine ⟨k + 1, D2, by omega, by go_num, hV2, ?_, ?_, ?_, by rw [hstep.out]; exact hj2, hkp'.trans hk2, hva'.keep hk2 fun _ _ h => h⟩
            · intro j hj
              rw [hstep.out]
              rcases Nat.lt_or_ge c j with h | h
              · rw [hD2' j h, hD'.out j hj]
                have h1 : j ∈ trav (kidsOf ss) f c o ↔ j ∈ o := ⟨fun h2 => (hrank.out j h2).resolve_right (by simp only [id]; omega), fun h2 => (trav_prefix (kidsOf ss) f c o).subset h2⟩
                simp [h1]
              · exact hD2 j h
            · exact (hD2' i hci).trans hDi'.out
            · intro j hj
              exact (hD2' j (by omega)).trans (hDj'.out j hj)
          case measure => simp [intOf]; omega
        · obtain rfl : k = ss[i].args.length := by omega
          have hall : (kidsOf ss i).take ss[i].args.length = kidsOf ss i := List.take_of_length_le (by rw [kidsOf_lt hil]; simp)
          rw [hall] at hD' hj'
          clear hall
          generalize (kidsOf ss i).foldl (fun o a => trav (kidsOf ss) f a o) pre = o at *
          have hy := HY.out (n - 1) o i wr hj' (by rw [← ht.out]; exact Hpre.out) hV'.size
          obtain ⟨fn, tmps, assign, body, hy, hR⟩ := hy
          obtain ⟨c8, _⟩ := hV'.yb.one
          gi_wp2
          refine ⟨fun h => by simp [Fence.wide] at h, ?_⟩
          refine hR.mono ?_
          clear hR
          rintro e w2 ⟨rfl, hj2, hk2⟩
          gi_wp2
          go_ret
          refine ⟨rfl, D', hV'.keep hp hk2, ?_, hDj'.out, by rw [ht.out]; exact hj2, hkp'.trans (hk2.sub fun _ _ h => Or.inl h)⟩
          intro j hj
          rw [ht.out]
          rcases Nat.lt_or_ge j i with h | h
          · rw [hD'.out j h]
            simp; omega
          · obtain rfl : j = i := by omega
            rw [hDi'.out]; simp

end Go.Proofs.YtcbmljfgmeeadaaDoor
