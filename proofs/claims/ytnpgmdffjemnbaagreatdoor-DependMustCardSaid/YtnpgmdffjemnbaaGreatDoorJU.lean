/-
  CONTRACTS: slices.Sorted(maps.Keys(..)) at a set of numbers.
  PLAIN LAW: what a proof names; what each assertion uses, as the program finds it.
  CONTRACTS of the program: who uses what.
  PLAIN LAW: what can be reached.
  CONTRACTS of the program: what is needed.
  PLAIN LAW: what is needed, in order; depths.
  CONTRACTS of the program: uses, users, depths.
  CONTRACTS of the program: needs, axioms, depth.
  PLAIN LAW: what is needed without one of them, as the reference marks it.
  PLAIN LAW: what is on every chain, as the program finds it.
  CONTRACTS of the program: what is on every chain.
  THE LAW's SMALL DATABASE: what it is, and what is said of it.
  CONTRACTS of the law: the small database, awake, few.
  WHAT IS USED STANDS AHEAD AND IS LESS DEEP; users are the converse of uses; needs are closed.
  THE LAW DependOrders returns true.
-/
import Derived.Test.YtnpgmdffjemnbaaGreatDoorJI
import Derived.Test.YtnpgmdffjemnbaaGreatDoorJT
import Derived.Test.YtnpgmdffjemnbaaGreatDoorJQ
import Derived.Test.YtnpgmdffjemnbaaGreatDoorJN
import Derived.WalkKit
import Derived.OwnWalkIn
import Derived.TacticsInMore
import Derived.Test.YtnpgmdffjemnbaaGreatDoorJS
import Derived.Test.YtnpgmdffjemnbaaGreatDoorJJ
import Derived.Test.YtnpgmdffjemnbaaGreatDoorJK
import Derived.Test.YtnpgmdffjemnbaaGreatDoorJE
namespace Go.Proofs.YtnpgmdffjemnbaaGreatDoor
open Go.RowKit Go.Maps Go.Sort Go.Shelf

def sortI (xs : List Int) : List Int := xs.mergeSort fun x y => decide (x ≤ y)
theorem sortsA (m : Nat) : AnyZI.SortsIn Tryz.prog Tryz.sortedA_ren Fence.wide m :=
  ⟨fun blk off cap ss W hH hblk hsz => callsIn_wide.2 (AnyM.slices_Sort_int Tryz.sortA blk off cap ss W hH hblk hsz),
   fun p cap W => callsIn_wide.2 (AnyM.slices_Sort_int_none Tryz.sortA p cap W)⟩

set_option maxHeartbeats 2000000 in
set_option maxRecDepth 100000 in
theorem sorted_c {H : Type} (b nn : Nat) (D0 : DataW H) (R : Value → Option (DataW H × List MemPlace)) (w : World) (hown : w.ownsMap Tryz.prog 3 R b nn D0) (hmax : Maps.size D0 ≤ maxLen) (hbytes : Maps.size D0 * 8 ≤ 140737488355328) :
    Calls Tryz.prog 48 #[.map (some b)] w fun e w' => ∃ (v : Value) (ss : List Int), e = .returned v ∧ ss.Perm (intKeys D0) ∧
      w'.ownsRow w.heap.size 3 1 v ss.length ((ss.mergeSort (fun x y => decide (x ≤ y))).map encZ) ∧ (v = .slice none 0 0 ↔ ss = []) ∧ Below w.heap.size w w' := by
  refine (callsIn_wide (n := 6)).1 ?_
  have hbl := hown.lt
  have hseq : SeqGives Fence.wide 2 Tryz.prog 85 #[.pointer (some ⟨w.heap.size, 0, none⟩)] encZ (fun ss => ss.Perm (intKeys D0)) (Maps.size D0) (w.alloc (.cells #[.map (some b)] 70)) :=
    AnyZI.keys_gives (ρ := Tryz.keysA_ren) { Tryz.keysA with } Fence.wide _ trivial rfl (by omega) w.heap.size b nn D0 _ (by simp) (by simp) (by
      obtain ⟨es, clock, hb, Ft, hs, hD⟩ := hown
      exact ⟨es, clock, (Below.heap_alloc _ _ b hbl).trans hb, Ft, hs, hD⟩)
  have cK : ∀ mb W, CallsIn Fence.wide 5 Tryz.prog 74 #[.map mb] W fun e w' => e = .returned (.func (.func 85) #[] #[.pointer (some ⟨W.heap.size, 0, none⟩)]) ∧ w' = W.alloc (.cells #[.map mb] 70) := fun mb W => AnyZI.keys_in Tryz.keysA Fence.wide 5 trivial rfl mb W
  have cS := AnyZI.sorted_in Tryz.sortedA Fence.wide 5 trivial trivial trivial trivial rfl (by omega) (sortsA _) (enters_of Tryz.func84 (by kernel_rfl) rfl) 85 #[.pointer (some ⟨w.heap.size, 0, none⟩)] trivial (enters_of Tryz.func85 (by kernel_rfl) rfl) _ _ hmax hbytes _ hseq
  change CallsIn _ _ Tryz.prog 73 _ _ _ at cS
  have hfK : Fence.wide.fn 74 := trivial
  have hfS : Fence.wide.fn 73 := trivial
  refine callsIn_of_wp Tryz.func48 rfl trivial ?_ rfl
  simp only [Tryz.ntmps48, List.size_toArray, List.length_cons, List.length_nil, Nat.reduceAdd, Nat.reduceSub, Array.replicate_succ, Array.replicate_zero, List.push_toArray, List.append_toArray, List.nil_append, List.cons_append]
  gi_wp2_with (first
    | (gi_at_call 74; refine (cK _ _).mono ?_; rintro e w' ⟨rfl, rfl⟩)
    | (gi_at_call 73; refine cS.mono ?_; rintro e w' ⟨v, ss, rfl, hS, hrow, hnil, hb⟩))
  go_ret
  exact ⟨v, ss, rfl, hS, ownsRow_base_a hrow (by simp), hnil, ((Below.refl _ w).alloc (Nat.le_refl _) _).trans (hb.mono (by simp))⟩

/-- A set of numbers of the call's own, in the shelf's words. -/
theorem set_owns {w : World} {M : Nat} {xs : List Int} {S : Nat → Prop} {lo : Nat} (hi : (OB.set keyI M xs).inv lo S w) (hx : ∀ x ∈ xs, (Lit.int .i64 x).wf = true) (hl : xs.length ≤ maxLen) :
    ∃ D0 : DataW Unit, w.ownsMap Tryz.prog 3 (plainElem Tryz.prog 4) M xs.length D0 ∧ (intKeys D0).Perm xs ∧ Maps.size D0 = xs.length := by
  obtain ⟨_, Lv, ⟨es, clock, hm, hE, hN, hB, hC⟩, hR⟩ := hi
  have key : ∀ (xs : List Int) (Lv : List (Int × Value)), RelM S w (fun b : Bool => AV.bool b) (xs.map fun x => (x, true)) Lv → Lv = xs.map fun x => (x, .bool true) := by
    intro xs
    induction xs with
    | nil => intro Lv h; cases Lv with | nil => rfl | cons _ _ => exact h.elim
    | cons x xs ih =>
      intro Lv h
      cases Lv with
      | nil => exact h.elim
      | cons q Lv =>
        obtain ⟨h1, h2, h3⟩ := h
        rw [ih Lv h3, List.map_cons]
        obtain ⟨a, b⟩ := q
        simp only at h1 h2
        rw [h1, h2.lit]
  have hLv := key xs Lv hR
  subst hLv
  have hE' : es.toList.map (fun e => (e.key, e.val)) = xs.map fun x => (Value.int .i64 x, Value.bool true) := by
    rw [hE, List.map_map]; rfl
  have hkeys : es.toList.map (·.key) = xs.map fun x => Value.int .i64 x := by
    have := congrArg (List.map Prod.fst) hE'
    simpa [Function.comp_def] using this
  have hnd : xs.Nodup := by simpa [Function.comp_def] using hN
  have hsz : es.size = xs.length := by
    have := congrArg List.length hE'
    simpa using this
  have hrd : ∀ e ∈ es.toList, ∃ x ∈ xs, e.key = .int .i64 x ∧ e.val = .bool true := fun e he => by
    have : (e.key, e.val) ∈ es.toList.map (fun e => (e.key, e.val)) := List.mem_map_of_mem he
    rw [hE'] at this
    obtain ⟨x, hx, hxe⟩ := List.mem_map.1 this
    simp only [Prod.mk.injEq] at hxe
    exact ⟨x, hx, hxe.1.symm, hxe.2.symm⟩
  have hone : ∀ e ∈ es.toList, ∀ x, x ∈ xs → e.key = .int .i64 x → e.val = .bool true → Go.WideElems.rd (H := Unit) Tryz.prog 3 (plainElem Tryz.prog 4) e = some (.int .i64 x, .lit (.bool true)) := fun e _ x hxx h1 h2 => by
    unfold Go.WideElems.rd
    rw [h1, h2, Maps.keyOf_int_mk Tryz.underlying3 (hx x hxx), plainElem_bool Tryz.underlying4]
    rfl
  have hmap : es.toList.map (Go.WideElems.rg (H := Unit) Tryz.prog 3 (plainElem Tryz.prog 4)) = xs.map fun x => (Lit.int .i64 x, DataW.lit (.bool true)) := by
    have e1 : es.toList.map (Go.WideElems.rg (H := Unit) Tryz.prog 3 (plainElem Tryz.prog 4)) = (es.toList.map (fun e => (e.key, e.val))).map fun p => (match p.1 with | .int _ x => Lit.int .i64 x | _ => .bool false, DataW.lit (.bool true)) := by
      rw [List.map_map]
      refine List.map_congr_left fun e he => ?_
      obtain ⟨x, hxx, h1, h2⟩ := hrd e he
      unfold Go.WideElems.rg
      rw [hone e he x hxx h1 h2]
      simp [h1]
    rw [e1, hE', List.map_map]
    rfl
  refine ⟨.map ((es.toList.map (Go.WideElems.rg Tryz.prog 3 (plainElem Tryz.prog 4))).foldr DataW.insert []), ⟨es, clock, hm, ⟨by rw [hsz]; exact hl, ⟨hC, ?_, ?_⟩, fun e he => ?_⟩, Nat.le_of_eq hsz, rfl⟩, ?_, ?_⟩
  · exact hB.imp fun h => Nat.ne_of_lt h
  · rw [hkeys]
    exact (List.pairwise_map.2 (hnd.imp fun hne e => hne (by simpa using e)))
  · obtain ⟨x, hxx, h1, h2⟩ := hrd e he
    exact ⟨_, hone e he x hxx h1 h2⟩
  · have hp := Go.WideShapes.sorted_perm (es.toList.map (Go.WideElems.rg (H := Unit) Tryz.prog 3 (plainElem Tryz.prog 4)))
    have := hp.map fun p => Go.intOf p.1
    refine this.trans ?_
    rw [hmap, List.map_map]
    exact List.Perm.of_eq (by rw [show ((fun p : Lit × DataW Unit => Go.intOf p.1) ∘ fun x => (Lit.int .i64 x, DataW.lit (.bool true))) = id from rfl, List.map_id])
  · have hp := (Go.WideShapes.sorted_perm (es.toList.map (Go.WideElems.rg (H := Unit) Tryz.prog 3 (plainElem Tryz.prog 4)))).length_eq
    have : Maps.size (DataW.map ((es.toList.map (Go.WideElems.rg (H := Unit) Tryz.prog 3 (plainElem Tryz.prog 4))).foldr DataW.insert [])) = ((es.toList.map (Go.WideElems.rg (H := Unit) Tryz.prog 3 (plainElem Tryz.prog 4))).foldr DataW.insert []).length := rfl
    rw [this, hp, hmap, List.length_map]

theorem p_sorted {J : World → Prop} (hJ : Stab J) (M : Nat) (xs : List Int) (hx : ∀ x ∈ xs, 0 ≤ x ∧ x < 1000) (hl : xs.length ≤ 1000) : FnR Tryz.prog J 48 [OB.set keyI M xs] [.lit (.map (some M))] (.rd (intsC (sortI xs))) := by
  intro S w vs hS hJ0 hH ha
  simp only [RelL] at ha
  obtain ⟨u, us, rfl, h1, rfl⟩ := ha
  rw [h1.lit]
  obtain ⟨lo, hi⟩ := hH _ (List.mem_singleton.2 rfl)
  obtain ⟨D0, hown, hp, hsz⟩ := set_owns hi (fun x hxx => by have := hx x hxx; simp [Lit.wf, IntKind.min, IntKind.max, IntKind.bits, IntKind.signed]; omega) (by unfold maxLen; omega)
  refine (sorted_c M xs.length D0 _ w hown (by rw [hsz]; unfold maxLen; omega) (by rw [hsz]; omega)).mono fun e w' ⟨v, ss, he, hS', hrow, _, hb⟩ => ?_
  have hk : Keeps All w w' := (Keeps.of_below hb).sub fun k hk _ => hk
  have e0 : ss.mergeSort (fun x y => decide (x ≤ y)) = sortI xs := mergeSort_of_perm_i (hS'.trans hp)
  rw [e0] at hrow
  have hlen : (sortI xs).length = ss.length := by rw [← e0, List.length_mergeSort]
  refine ⟨v, he, ?_, hk, hJ w w' hk hJ0⟩
  have hinv : (OB.row v 3 1 ((sortI xs).map intC)).inv w.heap.size S w' := ⟨(sortI xs).map encZ, by rw [List.length_map, hlen]; exact hrow, ?_, fun r hr => by obtain ⟨x, _, rfl⟩ := List.mem_map.1 hr; rfl⟩
  · exact row_rd (fun k hk => hS k ((OB.row v 3 1 ((sortI xs).map intC)).lt hinv k hk).1) hinv
  · generalize sortI xs = l
    induction l with
    | nil => trivial
    | cons x l ih => exact ⟨.lit _ True.intro, ih⟩
end Go.Proofs.YtnpgmdffjemnbaaGreatDoor
namespace Go.Proofs.YtnpgmdffjemnbaaGreatDoor

def isC (s : ByteArray) (x : ByteArray) : Bool := decide (s = x)
theorem namW_if {l : List ByteArray} (h0 : 0 < l.length) (h1 : ge l 0 = ⟨#[40]⟩) : namW l = (l.drop 1).takeWhile fun s => !decide (s = ⟨#[41]⟩) := by
  rw [namW, if_pos (by simp [h0, h1])]
theorem tw_all {α : Type} {p : α → Bool} : ∀ {xs : List α}, (∀ x ∈ xs, p x = true) → xs.takeWhile p = xs
  | [], _ => rfl
  | x :: xs, h => by rw [List.takeWhile_cons_of_pos (h x (by simp)), tw_all fun y hy => h y (by simp [hy])]
theorem tw_hit {xs : List ByteArray} {c : ByteArray} (h : 0 ≤ idxF (isC c) xs) : xs.take (idxF (isC c) xs).toNat = xs.takeWhile fun s => !decide (s = c) := by
  obtain ⟨_, h3, h4, h5⟩ := idxF_spec (p := isC c) (xs := xs) (by omega)
  refine takeWhile_ge (Nat.le_of_lt h3) (fun j hj => ?_) fun ⟨_, h⟩ => ?_
  · have := h5 j hj
    simp only [isC, decide_eq_false_iff_not] at this
    simpa using fun e => this e.symm
  · simp only [isC, decide_eq_true_eq] at h4
    rw [Bool.not_eq_true', decide_eq_false_iff_not] at h
    exact h h4.symm
theorem tw_miss {xs : List ByteArray} {c : ByteArray} (h : ¬ 0 ≤ idxF (isC c) xs) : xs = xs.takeWhile fun s => !decide (s = c) := by
  have h2 : idxF (isC c) xs = -1 := Classical.byContradiction fun hn => h (idxF_spec hn).1
  symm
  refine tw_all fun x hx => ?_
  unfold idxF at h2
  cases hf : xs.findIdx? (isC c) with
  | some i => rw [hf] at h2; simp at h2
  | none =>
    rw [List.findIdx?_eq_none_iff] at hf
    have := hf _ hx
    simp only [isC, decide_eq_false_iff_not] at this
    simpa using fun e => this e.symm
theorem namW_hit {l : List ByteArray} (h0 : 0 < l.length) (h1 : ge l 0 = ⟨#[40]⟩) (h : 0 ≤ idxF (isC ⟨#[41]⟩) (l.drop 1)) : (l.drop 1).take (idxF (isC ⟨#[41]⟩) (l.drop 1)).toNat = namW l := by rw [namW_if h0 h1, tw_hit h]
theorem namW_miss {l : List ByteArray} (h0 : 0 < l.length) (h1 : ge l 0 = ⟨#[40]⟩) (h : ¬ 0 ≤ idxF (isC ⟨#[41]⟩) (l.drop 1)) : l.drop 1 = namW l := by rw [namW_if h0 h1]; exact tw_miss h

/-- The numbers of the labels of the first k frames. -/
def AtI (d : Db) (k : Nat) (L : List (ByteArray × Int)) : Prop := ∀ s j, mget L s = some j ↔ ∃ p, p < k ∧ j = (p : Int) ∧ (ge d.frames p).label = s
/-- What the first n words name. -/
def SetI (d : Db) (k : Nat) (ws : List ByteArray) (xs : List Int) : Prop := xs.Nodup ∧ ∀ x, x ∈ xs ↔ ∃ p, p < k ∧ x = (p : Int) ∧ (ge d.frames p).label ∈ ws
theorem setI_nil (d : Db) (k : Nat) : SetI d k [] [] := ⟨.nil, fun x => by simp⟩
theorem nodup_addS {xs : List Int} {k : Int} (h : xs.Nodup) : (addS xs k).Nodup := by
  unfold addS
  split
  · exact h
  · rename_i hk
    rw [List.nodup_append]
    exact ⟨h, by simp, fun x hx y hy e => by rw [List.mem_singleton.1 hy] at e; subst e; exact hk hx⟩
theorem setI_hit {d : Db} {k : Nat} {L : List (ByteArray × Int)} {ws : List ByteArray} {xs : List Int} {w : ByteArray} (hL : AtI d k L) (h : SetI d k ws xs) (hs : (mget L w).isSome = true) (hd : ∀ p q, p < k → q < k → (ge d.frames p).label = (ge d.frames q).label → p = q) :
    SetI d k (ws ++ [w]) (addS xs ((mget L w).getD default)) := by
  obtain ⟨j, hj⟩ := Option.isSome_iff_exists.1 hs
  rw [hj, Option.getD_some]
  obtain ⟨p, h1, h2, h3⟩ := (hL w j).1 hj
  refine ⟨nodup_addS h.1, fun x => ?_⟩
  rw [mem_addS, h.2 x]
  constructor
  · rintro (⟨q, g1, g2, g3⟩ | rfl)
    · exact ⟨q, g1, g2, by simp [g3]⟩
    · exact ⟨p, h1, h2, by simp [h3]⟩
  · rintro ⟨q, g1, g2, g3⟩
    rcases List.mem_append.1 g3 with g3 | g3
    · exact .inl ⟨q, g1, g2, g3⟩
    · right
      rw [g2, h2, hd q p g1 h1 (by rw [h3]; exact List.mem_singleton.1 g3)]
theorem setI_miss {d : Db} {k : Nat} {L : List (ByteArray × Int)} {ws : List ByteArray} {xs : List Int} {w : ByteArray} (hL : AtI d k L) (h : SetI d k ws xs) (hs : (mget L w).isSome = false) : SetI d k (ws ++ [w]) xs := by
  refine ⟨h.1, fun x => ?_⟩
  rw [h.2 x]
  constructor
  · rintro ⟨q, g1, g2, g3⟩; exact ⟨q, g1, g2, by simp [g3]⟩
  · rintro ⟨q, g1, g2, g3⟩
    rcases List.mem_append.1 g3 with g3 | g3
    · exact ⟨q, g1, g2, g3⟩
    · exfalso
      have := (hL w (q : Int)).2 ⟨q, g1, rfl, List.mem_singleton.1 g3⟩
      rw [this] at hs
      cases hs
theorem usesK_asc (d : Db) (ws : List ByteArray) (k : Nat) : (usesK d ws k).Pairwise (· < ·) := by
  unfold usesK
  rw [List.pairwise_map]
  refine List.Pairwise.imp (R := (· < ·)) (fun {a b} h => by omega) ?_
  exact List.pairwise_lt_range.filter _
theorem sort_asc {xs ys : List Int} (h1 : xs.Nodup) (h2 : ys.Pairwise (· < ·)) (h : ∀ x, x ∈ xs ↔ x ∈ ys) : sortI xs = ys := by
  have hn : ys.Nodup := h2.imp fun h => by omega
  have hp : xs.Perm ys := (List.perm_ext_iff_of_nodup h1 hn).2 h
  refine (mergeSort_of_perm_i hp).trans ?_
  exact List.mergeSort_of_pairwise (h2.imp fun h => by simp [leI]; omega)
theorem nodup_leI : ∀ {xs ys : List Int}, xs.Nodup → (∀ x ∈ xs, x ∈ ys) → xs.length ≤ ys.length
  | [], _, _, _ => by simp
  | x :: xs, ys, h, hs => by
    have h1 := List.nodup_cons.1 h
    have h2 := nodup_leI (xs := xs) (ys := ys.erase x) h1.2 fun z hz => by
      have hne : z ≠ x := fun e => h1.1 (e ▸ hz)
      exact (List.mem_erase_of_ne hne).2 (hs z (by simp [hz]))
    have h3 := List.length_erase_of_mem (hs x (by simp))
    have h4 : 0 < ys.length := List.length_pos_of_mem (hs x (by simp))
    simp only [List.length_cons]
    omega
theorem setI_len {d : Db} {k : Nat} {ws : List ByteArray} {xs : List Int} (h : SetI d k ws xs) : (∀ x ∈ xs, 0 ≤ x ∧ x < k) ∧ xs.length ≤ k := by
  have h1 : ∀ x ∈ xs, 0 ≤ x ∧ x < k := fun x hx => by obtain ⟨p, g1, g2, _⟩ := (h.2 x).1 hx; omega
  refine ⟨h1, ?_⟩
  have h4 := nodup_leI h.1 (ys := (List.range k).map fun (p : Nat) => (p : Int)) fun x hx => by
    have := h1 x hx
    rw [List.mem_map]
    exact ⟨x.toNat, by rw [List.mem_range]; omega, by omega⟩
  simpa using h4
/-- Right databases: labels are distinct; what has a proof is a theorem. -/
theorem chkE_fr {d : Db} (h : chkE d = 0) : ∀ k, k < d.frames.length → frE d k = 0 := by
  unfold chkE at h
  split at h
  · simp at h
  · split at h
    · rename_i h1; simp [h] at h1
    · exact firstE_inv h
theorem frE_lab {d : Db} {k : Nat} (h : frE d k = 0) : frL d k (ge d.frames k).label = false := by
  unfold frE frmE at h
  by_cases h1 : (!labB (ge d.frames k).label) = true
  · rw [if_pos h1] at h; exact absurd h (by decide)
  rw [if_neg h1] at h
  by_cases h2 : ((frL d k (ge d.frames k).label || hyL d k (ge d.frames k).label) || symD d (ge d.frames k).label) = true
  · rw [if_pos h2] at h; exact absurd h (by decide)
  simp only [Bool.or_eq_true, not_or, Bool.not_eq_true] at h2
  exact h2.1.1
theorem frE_prf {d : Db} {k : Nat} (h : frE d k = 0) : (ge d.frames k).thm = false → (ge d.frames k).proof = [] := fun ht => by
  refine Classical.byContradiction fun hn => ?_
  have hp : 0 < (ge d.frames k).proof.length := List.length_pos_iff.2 hn
  unfold frE frmE at h
  by_cases h1 : (!labB (ge d.frames k).label) = true
  · rw [if_pos h1] at h; exact absurd h (by decide)
  rw [if_neg h1] at h
  by_cases h2 : ((frL d k (ge d.frames k).label || hyL d k (ge d.frames k).label) || symD d (ge d.frames k).label) = true
  · rw [if_pos h2] at h; exact absurd h (by decide)
  rw [if_neg h2] at h
  by_cases h3 : (decide ((40 : Int) < (((ge d.frames k).hyps.length : Nat) : Int)) || decide ((40 : Int) < (((ge d.frames k).dummies.length : Nat) : Int))) = true
  · rw [if_pos h3] at h; exact absurd h (by decide)
  rw [if_neg h3] at h
  by_cases h4 : (!decide (lstE d k = 0)) = true
  · rw [if_pos h4] at h; simp [h] at h4
  rw [if_neg h4] at h
  by_cases h5 : (decide ((((ge d.frames k).text.length : Nat) : Int) = 0) || decide (200 < (((ge d.frames k).text.length : Nat) : Int))) = true
  · rw [if_pos h5] at h; exact absurd h (by decide)
  rw [if_neg h5] at h
  by_cases h6 : (!decide (formE d (ge d.frames k).text = 0)) = true
  · rw [if_pos h6] at h; simp [h] at h6
  rw [if_neg h6] at h
  by_cases h7 : (!strB d (ge d.frames k)) = true
  · rw [if_pos h7] at h; exact absurd h (by decide)
  rw [if_neg h7, if_pos (by rw [ht, decide_eq_true (show (0 : Int) < (((ge d.frames k).proof.length : Nat) : Int) by omega)]; rfl)] at h
  exact absurd h (by decide)
theorem lab_lt {d : Db} (h : chkE d = 0) {p q : Nat} (hpq : p < q) (hq : q < d.frames.length) : (ge d.frames p).label ≠ (ge d.frames q).label := fun e => by
  have := frE_lab (chkE_fr h q hq)
  unfold frL at this
  rw [List.any_eq_false] at this
  refine this (ge d.frames p) ?_ (by simp [e])
  have e2 : ge (d.frames.take q) p = ge d.frames p := by simp [ge, List.getD_eq_getElem?_getD, hpq]
  rw [← e2]
  exact ge_mem (by rw [List.length_take]; omega)
theorem lab_inj {d : Db} (h : chkE d = 0) {p q : Nat} (hp : p < d.frames.length) (hq : q < d.frames.length) (e : (ge d.frames p).label = (ge d.frames q).label) : p = q := by
  rcases Nat.lt_trichotomy p q with h1 | h1 | h1
  · exact absurd e (lab_lt h h1 hq)
  · exact h1
  · exact absurd e.symm (lab_lt h h1 hp)
theorem atI_zero (d : Db) : AtI d 0 [] := fun s j => by simp [mget_nil]
theorem atI_succ {d : Db} (h : chkE d = 0) {k : Nat} (hk : k < d.frames.length) {L : List (ByteArray × Int)} (hL : AtI d k L) : AtI d (k + 1) (mput L (ge d.frames k).label (k : Int)) := fun s j => by
  rw [mget_put]
  by_cases e : s = (ge d.frames k).label
  · rw [if_pos e]
    constructor
    · intro hj
      exact ⟨k, by omega, by simpa using hj.symm, e.symm⟩
    · rintro ⟨p, h1, h2, h3⟩
      have : p = k := lab_inj h (by omega) hk (by rw [h3, e])
      rw [h2, this]
  · rw [if_neg e, hL s j]
    constructor
    · rintro ⟨p, h1, h2, h3⟩; exact ⟨p, by omega, h2, h3⟩
    · rintro ⟨p, h1, h2, h3⟩
      refine ⟨p, ?_, h2, h3⟩
      rcases Nat.lt_or_ge p k with h4 | h4
      · exact h4
      · have : p = k := by omega
        subst this
        exact absurd h3.symm e
theorem uses_end {d : Db} (h : chkE d = 0) {k : Nat} (hk : k < d.frames.length) {xs : List Int} (hx : SetI d k (namW (ge d.frames k).proof) xs) : sortI xs = usesD d k := by
  unfold usesD
  by_cases ht : (ge d.frames k).thm = true
  · rw [if_pos ht]
    refine sort_asc hx.1 (usesK_asc _ _ _) fun x => ?_
    rw [hx.2 x, usesK, List.mem_map]
    constructor
    · rintro ⟨p, h1, h2, h3⟩
      exact ⟨p, by rw [List.mem_filter, List.mem_range]; exact ⟨h1, by simpa using h3⟩, h2.symm⟩
    · rintro ⟨p, h1, h2⟩
      rw [List.mem_filter, List.mem_range] at h1
      exact ⟨p, h1.1, h2.symm, by simpa using h1.2⟩
  · rw [if_neg ht]
    have hp := frE_prf (chkE_fr h k hk) (by simpa using ht)
    have : xs = [] := by
      refine List.eq_nil_iff_forall_not_mem.2 fun x hx' => ?_
      obtain ⟨p, _, _, h3⟩ := (hx.2 x).1 hx'
      rw [hp] at h3
      simp [namW] at h3
    rw [this]; simp [sortI]
/-- What each assertion uses. -/
def usL (d : Db) (k : Nat) : List (List Int) := (List.range k).map fun i => usesD d i
theorem usL_succ (d : Db) (k : Nat) : usL d (k + 1) = usL d k ++ [usesD d k] := by rw [usL, List.range_succ, List.map_append]; rfl
theorem usL_len (d : Db) (k : Nat) : (usL d k).length = k := by simp [usL]
theorem usL_at {d : Db} {n k : Nat} (h : k < n) : ge (usL d n) k = usesD d k := by
  rw [ge_eq (by rw [usL_len]; exact h)]
  simp [usL]
def rdE (d : Db) (ns : List Int) : Int := if !decide (chkE d = 0) then chkE d else if ns.any fun i => decide (i < 0) || decide (((d.frames.length : Nat) : Int) ≤ i) then 3 else 0
theorem rdE_one (d : Db) (i : Int) : rdE d [i] = chdE d i := by simp [rdE, chdE]
end Go.Proofs.YtnpgmdffjemnbaaGreatDoor
set_option maxHeartbeats 8000000
set_option maxRecDepth 100000
namespace Go.Proofs.YtnpgmdffjemnbaaGreatDoor
open Go.RowKit

theorem p_IndexS {J : World → Prop} (hJ : Stab J) (xs : List ByteArray) (s : ByteArray)  : Fn Tryz.prog J 82 [.rd (strsC xs), .str s] (.int (idxF (isC s) xs)) := by
 refine fn_enter (N := 19) Tryz.func82 rfl rfl (lb rfl) fun S w0 hS hJ0 => ?_
 clear hJ0
 refine tr_fact (fun a w h => len_le h 0 rfl) fun hl1 => k_seq (rg tb hJ [0, 1] [_] [] [(_, _), (_, _)] rfl rfl rfl rfl trivial (nx (k_seq (k_seq (rg tb hJ [0, 1, 1001, 1002] [_, _, _] [1] [(_, _), (_, _), (_, .int (((xs.length : Nat) : Int))), (_, .int (0 : Int))] rfl rfl rfl rfl ⟨hLen unds_22_9 rfl rfl rfl rfl, trivial⟩ (nx (tr_block (tr_loop (ι := Nat) (fun (k : Nat) a w => ((k ≤ xs.length) ∧ (∀ j, j < k → isC s (ge xs j) = false)) ∧ St All S w0 19 [(0, .rd (strsC xs)), (1, .str s), (7, .int (((xs.length : Nat) : Int))), (8, .int (((k : Nat) : Int)))] J a w) (fun (k : Nat) => (xs.length - k : Nat)) ?_ ?_))))))))
 ·
  intro a w h
  exact ⟨0, (show (0 ≤ xs.length) ∧ (∀ j, j < 0 → isC s (ge xs j) = false) from ⟨Nat.zero_le _, fun j hj => by omega⟩), lz [0, 1, 2, 3] rfl h⟩
 ·
  rintro k
  refine tr_and fun hF => ?_
  obtain ⟨f1_1, f1_2⟩ := hF
  refine k_seq (rg tb hJ [0, 1, 2, 3, 1000] [_] [] [(_, _), (_, _), (_, _), (_, _), (_, .bool (decide (((k : Nat) : Int) < ((xs.length : Nat) : Int))))] rfl rfl rfl rfl trivial (nx (k_seq (tc 4 rfl rfl (fun hb1 => ?_) (fun hb1 => ?_)))))
  ·
   try simp at hb1
   refine tr_skip (nx (k_seq (tr_block (k_seq (rg tb hJ [0, 1, 2, 3, 1001] [_, _] [] [(_, _), (_, _), (_, _), (_, _), (_, .int (((k : Nat) : Int)))] rfl rfl rfl rfl trivial (nx (k_seq (rg tb hJ [0, 1, 2, 3, 4, 1005] [_, _, _, .ptr [.lit (.string (ge xs k))], _, _] [3] [(_, _), (_, _), (_, _), (_, _), (_, _), (_, .bool (decide (s = (ge xs k))))] rfl rfl rfl rfl ⟨hIx elem_22_9_1 (by first | omega | (simp; omega) | grind [ge_mem]) rfl rfl rfl rfl rfl rfl, trivial⟩ (nx (tc 5 rfl rfl (fun hb2 => ?_) (fun hb2 => ?_)))))))))))
   ·
    try simp at hb2
    refine k_seq (rg tb hJ [1001] [_, _] [] [(_, .int (((k : Nat) : Int)))] rfl rfl rfl rfl trivial (nx (tr_ret (fun a w h => leave1' (m := 0) rfl h rfl (congrArg AV.int (show (((k : Nat) : Int)) = (idxF (isC s) xs) from by first | exact (idxF_hit hb1 (by simpa [isC] using hb2) f1_2).symm | exact (idxF_none fun j hj => f1_2 j (by omega)).symm))))))
   ·
    try simp at hb2
    refine tr_skip (nx (rg tb hJ [0, 1, 2, 1001] [.int (((k + 1 : Nat) : Int)), _] [0] [(_, _), (_, _), (_, _), (_, .int (((k + 1 : Nat) : Int)))] rfl rfl rfl rfl ⟨hAdd (by first | omega | (simp; omega) | grind [ge_mem]) rfl rfl rfl rfl rfl, trivial⟩ ?_))
    intro a w h; change ∃ j, _ ∧ _
    exact ⟨k + 1, ⟨⟨(show (k + 1) ≤ xs.length from by omega), (show ∀ j, j < (k + 1) → isC s (ge xs j) = false from step_all f1_2 (by simpa [isC] using hb2))⟩, lz [0, 1, 2, 3] rfl h⟩, (show xs.length - (k + 1) < xs.length - k from by first | omega | (simp; omega))⟩
  ·
   try simp at hb1
   refine tr_exit (nx (k_seq (rg tb hJ [1000] [_] [] [(_, .int (-1 : Int))] rfl rfl rfl rfl trivial (nx (tr_ret (fun a w h => leave1' (m := 0) rfl h rfl (congrArg AV.int (show (-1 : Int) = (idxF (isC s) xs) from by first | exact (idxF_hit hb1 (by simpa [isC] using hb2) f1_2).symm | exact (idxF_none fun j hj => f1_2 j (by omega)).symm))))))))

theorem p_named {J : World → Prop} (hJ : Stab J) (l : List ByteArray)  : Fn Tryz.prog J 71 [.rd (strsC l)] (.rd (strsC (namW l))) := by
 refine fn_enter (N := 25) Tryz.func71 rfl rfl (lb rfl) fun S w0 hS hJ0 => ?_
 clear hJ0
 refine tr_fact (fun a w h => len_le h 0 rfl) fun hl1 => k_seq (rg tb hJ [0] [_] [] [(_, _)] rfl rfl rfl rfl trivial (nx (k_seq (k_seq (rg tb hJ [0, 1008] [_, .int (((l.length : Nat) : Int)), _, _, _, .ptr [.lit (.string (ge l 0))], _, _, _] [1, 5] [(_, _), (_, .bool ((decide (((l.length : Nat) : Int) = (0 : Int))) || (!decide ((ge l 0) = (⟨#[40]⟩ : ByteArray)))))] rfl rfl rfl rfl ⟨hLen unds_22_9 rfl rfl rfl rfl, fun _ _ _ hx hl hc => r_index (i := ((0 : Nat) : Int)) elem_22_9_1 rfl (hl.dep 4 9 _ rfl rfl rfl hc) (Rel.of_lit (Go.Value.int Go.IntKind.i64 0)) (Int.natCast_nonneg _) (row_nat (xs := l) (k := 0) (by have hc' : (((decide (((l.length : Nat) : Int) = (0 : Int))) == false)) = true := hc; (try simp at hc'); (first | omega | (simp; omega) | grind [ge_mem]))) rfl hx, trivial⟩ (nx (tc 1 rfl rfl (fun hb1 => ?_) (fun hb1 => ?_))))))))
 ·
  refine k_seq (rg tb hJ [1001] [_, _] [] [(_, .rd (strsC l))] rfl rfl rfl rfl trivial (nx (tr_ret (fun a w h => leave1' (m := 0) rfl h rfl (congrArg (fun z => AV.rd (strsC z)) (show l = (namW l) from by first | exact namW_plain (fun h0 h1 => by rw [h1, decide_eq_false (by omega)] at hb1; exact absurd hb1 (by decide)) | exact namW_hit e1.1 e1.2 (of_decide_eq_true hb2) | exact namW_miss e1.1 e1.2 (of_decide_eq_false hb2)))))))
 ·
  have e1 : 0 < l.length ∧ ge l 0 = ⟨#[40]⟩ := by simp only [Bool.or_eq_false_iff, decide_eq_false_iff_not, Bool.not_eq_false', decide_eq_true_eq] at hb1; exact ⟨by omega, hb1.2⟩
  refine tr_skip (nx (k_seq (rg tb hJ [1001, 1002] [_, _, _] [1] [(_, .rd (strsC (l.drop 1))), (_, .rd (strsC (l.drop 1)))] rfl rfl rfl rfl ⟨fun _ _ _ hx hl _ => r_sliceE (ys := l.drop 1) (lo := 1) (hi := l.length) (by rw [List.take_length]) elem_22_9_1 (fun _ => rfl) rfl (hl.dep 0 15 _ rfl rfl rfl rfl) (Rel.of_lit (Go.Value.int Go.IntKind.i64 1)) rfl (by omega) (by omega) hx, trivial⟩ (nx (tr_fact (fun a w h => len_le h 0 rfl) fun hl2 => k_seq (k_seq (rg tb hJ [1, 1002] [_, .int (idxF (isC (⟨#[41]⟩ : ByteArray)) (l.drop 1)), _] [1] [(_, _), (_, .int (idxF (isC (⟨#[41]⟩ : ByteArray)) (l.drop 1)))] rfl rfl rfl rfl ⟨hFn hS hJ (p_IndexS hJ (xs := (l.drop 1)) (s := (⟨#[41]⟩ : ByteArray)) ) call_82 rfl rfl rfl rfl, trivial⟩ (nx (k_seq (rg tb hJ [0, 1, 1001] [_, _] [] [(_, _), (_, _), (_, .bool (decide ((0 : Int) ≤ idxF (isC (⟨#[41]⟩ : ByteArray)) (l.drop 1))))] rfl rfl rfl rfl trivial (nx ?_)))))))))))
  refine tc 2 rfl rfl (fun hb2 => ?_) (fun hb2 => ?_)
  ·
   refine k_seq ?_
   refine tw (sa 1 rfl (congrArg AV.int (show idxF (isC (⟨#[41]⟩ : ByteArray)) (l.drop 1) = (((idxF (isC ⟨#[41]⟩) (l.drop 1)).toNat : Nat) : Int) from by have := of_decide_eq_true hb2; omega))) ?_
   refine rg tb hJ [1002, 1003] [_, _, _, _] [2] [(_, .rd (strsC ((l.drop 1).take ((idxF (isC ⟨#[41]⟩) (l.drop 1)).toNat)))), (_, .rd (strsC ((l.drop 1).take ((idxF (isC ⟨#[41]⟩) (l.drop 1)).toNat))))] rfl rfl rfl rfl ⟨fun _ _ _ hx hl _ => r_sliceE (ys := (l.drop 1).take ((idxF (isC ⟨#[41]⟩) (l.drop 1)).toNat)) (lo := 0) (hi := (idxF (isC ⟨#[41]⟩) (l.drop 1)).toNat) List.drop_zero elem_22_9_1 (fun _ => rfl) rfl (hl.dep 0 21 _ rfl rfl rfl rfl) rfl (hl.dep 1 22 _ rfl rfl rfl rfl) (by have := (idxF_spec (p := isC ⟨#[41]⟩) (xs := l.drop 1) (by have := of_decide_eq_true hb2; omega)).2.1; omega) (by have := (idxF_spec (p := isC ⟨#[41]⟩) (xs := l.drop 1) (by have := of_decide_eq_true hb2; omega)).2.1; omega) hx, trivial⟩ (nx (tr_fact (fun a w h => len_le h 0 rfl) fun hl3 => tr_ret (fun a w h => leave1' (m := 1) rfl h rfl (congrArg (fun z => AV.rd (strsC z)) (show ((l.drop 1).take ((idxF (isC ⟨#[41]⟩) (l.drop 1)).toNat)) = (namW l) from by first | exact namW_plain (fun h0 h1 => by rw [h1, decide_eq_false (by omega)] at hb1; exact absurd hb1 (by decide)) | exact namW_hit e1.1 e1.2 (of_decide_eq_true hb2) | exact namW_miss e1.1 e1.2 (of_decide_eq_false hb2))))))
  ·
   refine tr_skip (nx (k_seq (rg tb hJ [1001] [_, _] [] [(_, .rd (strsC (l.drop 1)))] rfl rfl rfl rfl trivial (nx (tr_ret (fun a w h => leave1' (m := 0) rfl h rfl (congrArg (fun z => AV.rd (strsC z)) (show (l.drop 1) = (namW l) from by first | exact namW_plain (fun h0 h1 => by rw [h1, decide_eq_false (by omega)] at hb1; exact absurd hb1 (by decide)) | exact namW_hit e1.1 e1.2 (of_decide_eq_true hb2) | exact namW_miss e1.1 e1.2 (of_decide_eq_false hb2)))))))))

theorem p_read {J : World → Prop} (hJ : Stab J) (d : Db) (ns : List Int) (hw : ∀ f ∈ d.frames, f.wide.length * 32 ≤ 140737488351232) (hG : FormsJ J) : Fn Tryz.prog J 43 [.agg (dbC d), .rd (intsC ns)] (.tup [gAV (rdE d ns) [strsC d.consts, strsC d.vars, frsC d.frames, intssC (usL d d.frames.length)], .int (rdE d ns)]) := by
 refine fn_enter (N := 87) Tryz.func43 rfl rfl (lb rfl) fun S w0 hS hJ0 => ?_
 refine tw st_own ?_
 refine tr_fact (fun a w h => len_le h 1 rfl) fun hl1 => k_seq (rgo tb hJ [1, 1000] [_, _, _] [0] [(_, _), (_, .ptr (dbC d))] rfl rfl rfl rfl ⟨fun _ _ hk hx hl _ => r_box rfl (hl.env 0 0 _ rfl rfl) (xo_new hS _ hk hx _ (Nat.le_refl _)) (jo hJ hx), trivial⟩ (nx (k_seq (k_seq (rgo tb hJ [0, 1, 1002] [_, .int (chkE d), _] [1] [(_, _), (_, _), (_, .int (chkE d))] rfl rfl rfl rfl ⟨hFo hS hJ (p_Check hJ (d := d) (hw) (hG)) call_54 rfl rfl rfl rfl, trivial⟩ (nx (k_seq (rgo tb hJ [0, 1, 2, 1001] [_, _] [] [(_, _), (_, _), (_, _), (_, .bool (!decide (chkE d = (0 : Int))))] rfl rfl rfl rfl trivial (nx (tc 3 rfl rfl (fun hb1 => ?_) (fun hb1 => ?_)))))))))))
 ·
  have e9 : rdE d ns = chkE d := by rw [rdE, if_pos hb1]
  have e8 : ¬ rdE d ns = 0 := by rw [e9]; exact nd_t hb1
  refine k_seq (rgo tb hJ [1001, 1002] [_, _, _] [] [(_, .rd (.lit (Go.Value.pointer none))), (_, .int (chkE d))] rfl rfl rfl rfl trivial (nx (tr_ret (fun a w h => leave2' (m := 0) (k := 1) rfl (st_disown h) rfl rfl (show .rd (.lit (Go.Value.pointer none)) = gAV (rdE d ns) [strsC d.consts, strsC d.vars, frsC d.frames, intssC (usL d d.frames.length)] from by first | exact e9.symm | exact (gAV_no e8).symm | (rw [gAV_ok e9, f2_2, show k = d.frames.length by omega])) (congrArg AV.int (show (chkE d) = (rdE d ns) from by first | exact e9.symm | exact (gAV_no e8).symm | (rw [gAV_ok e9, f2_2, show k = d.frames.length by omega])))))))
 ·
  have e1 : chkE d = 0 := nd_f hb1
  have e2 := chkE_size e1
  refine tr_skip (nx (k_seq (k_seq (rgo tb hJ [1, 1000, 1001, 1002] [_, _, _] [1] [(_, _), (_, .rd (intsC ns)), (_, .int (((ns.length : Nat) : Int))), (_, .int (0 : Int))] rfl rfl rfl rfl ⟨hLen unds_28_3 rfl rfl rfl rfl, trivial⟩ (nx (tr_block (tr_loop (ι := Nat) (fun (k : Nat) a w => ((k ≤ ns.length) ∧ (((ns.take k).any fun i => decide (i < 0) || decide (((d.frames.length : Nat) : Int) ≤ i)) = false)) ∧ St All (SO S []) w0 87 [(2, .ptr (dbC d)), (23, .rd (intsC ns)), (24, .int (((ns.length : Nat) : Int))), (25, .int (((k : Nat) : Int)))] (XO J S w0.heap.size []) a w) (fun (k : Nat) => (ns.length - k : Nat)) ?_ ?_)))))))
  ·
   intro a w h
   exact ⟨0, (show (0 ≤ ns.length) ∧ (((ns.take 0).any fun i => decide (i < 0) || decide (((d.frames.length : Nat) : Int) ≤ i)) = false) from ⟨Nat.zero_le _, rfl⟩), lz [0, 1, 2, 3] rfl h⟩
  ·
   rintro k
   refine tr_and fun hF => ?_
   obtain ⟨f1_1, f1_2⟩ := hF
   refine k_seq (rgo tb hJ [0, 1, 2, 3, 1000] [_] [] [(_, _), (_, _), (_, _), (_, _), (_, .bool (decide (((k : Nat) : Int) < ((ns.length : Nat) : Int))))] rfl rfl rfl rfl trivial (nx (k_seq (tc 4 rfl rfl (fun hb2 => ?_) (fun hb2 => ?_)))))
   ·
    try simp at hb2
    refine tr_skip (nx (k_seq (tr_block (k_seq (rgo tb hJ [0, 1, 2, 3, 1002] [.ptr [.lit (.int .i64 (ge ns k))], _, _] [0] [(_, _), (_, _), (_, _), (_, _), (_, .int (ge ns k))] rfl rfl rfl rfl ⟨hIx elem_28_3_1 (by first | omega | (simp; omega) | grind [ge_mem]) rfl rfl rfl rfl rfl rfl, trivial⟩ (nx (k_seq (rgo tb hJ [0, 1, 2, 3, 1008] [_, _, _, _, _, _, .int (((d.frames.length : Nat) : Int)), _, _] [6] [(_, _), (_, _), (_, _), (_, _), (_, .bool ((decide ((ge ns k) < (0 : Int))) || (decide (((d.frames.length : Nat) : Int) ≤ (ge ns k)))))] rfl rfl rfl rfl ⟨fun _ _ _ hx hl hc => r_lenM unds_23_59 rfl (hl.dep 5 34 _ rfl rfl rfl hc) hx, trivial⟩ (nx (tc 4 rfl rfl (fun hb3 => ?_) (fun hb3 => ?_)))))))))))
    ·
     try simp at hb3
     have e9 : rdE d ns = 3 := by rw [rdE, if_neg (by rw [e1]; decide), if_pos (any_hit (k := k) (by omega) (by simpa using hb3))]
     have e8 : ¬ rdE d ns = 0 := by rw [e9]; decide
     refine k_seq (rgo tb hJ [1000, 1001] [_, _] [] [(_, .rd (.lit (Go.Value.pointer none))), (_, .int (3 : Int))] rfl rfl rfl rfl trivial (nx (tr_ret (fun a w h => leave2' (m := 0) (k := 1) rfl (st_disown h) rfl rfl (show .rd (.lit (Go.Value.pointer none)) = gAV (rdE d ns) [strsC d.consts, strsC d.vars, frsC d.frames, intssC (usL d d.frames.length)] from by first | exact e9.symm | exact (gAV_no e8).symm | (rw [gAV_ok e9, f2_2, show k = d.frames.length by omega])) (congrArg AV.int (show (3 : Int) = (rdE d ns) from by first | exact e9.symm | exact (gAV_no e8).symm | (rw [gAV_ok e9, f2_2, show k = d.frames.length by omega])))))))
    ·
     try simp at hb3
     refine tr_skip (nx (rgo tb hJ [0, 1, 2, 1001] [.int (((k + 1 : Nat) : Int)), _] [0] [(_, _), (_, _), (_, _), (_, .int (((k + 1 : Nat) : Int)))] rfl rfl rfl rfl ⟨hAdd (by first | omega | (simp; omega) | grind [ge_mem]) rfl rfl rfl rfl rfl, trivial⟩ ?_))
     intro a w h; change ∃ j, _ ∧ _
     exact ⟨k + 1, ⟨⟨(show (k + 1) ≤ ns.length from by omega), (show ((ns.take (k + 1)).any fun i => decide (i < 0) || decide (((d.frames.length : Nat) : Int) ≤ i)) = false from any_miss (by omega) f1_2 (by simpa using hb3))⟩, lz [0, 1, 2, 3] rfl h⟩, (show ns.length - (k + 1) < ns.length - k from by first | omega | (simp; omega))⟩
   ·
    try simp at hb2
    have e9 : rdE d ns = 0 := by rw [rdE, if_neg (by rw [e1]; decide), any_none f1_2 (by omega)]; rfl
    refine tr_exit (nx (k_seq (tr_text (sv (av := .agg (dbC d)) tb rfl rfl rfl rfl (sq (.agg [strsC d.consts, strsC d.vars, frsC d.frames, .lit (Value.slice none 0 0)]) rfl rfl (lb rfl) (fun _ _ h => r_buildG (d := d) buildG_66 rfl (h.get 0 rfl) h.x) (sq_boxN (cs := [strsC d.consts, strsC d.vars, frsC d.frames, .lit (Value.slice none 0 0)]) hJ rfl rfl rfl (lb rfl) (fun a w h => (h.get 0 rfl)) fun b1 => ?_))))))
    refine sv tb rfl rfl rfl rfl (sq_end ?_)
    refine kw (lz [0, 4] (env' := [(_, _), (_, _)]) rfl) ?_
    refine kw (st_add_nil 28 1 hJ) ?_
    refine kw pm1 ?_
    refine kw pm1 ?_
    refine kw (B := St All (SO S [OB.gr 28 b1 d (((Value.slice none 0 0), ([] : List (List Int))))]) w0 87 [(9, .at b1 0), (2, .ptr (dbC d))] (XO J S w0.heap.size [OB.gr 28 b1 d (((Value.slice none 0 0), ([] : List (List Int))))])) (fun h => st_pack h) ?_
    refine nx (k_seq (tr_text (sq_map keyS (fun z' : Int => AV.int z') hJ rfl rfl rfl (lb rfl) fun m2 => ?_)))
    refine sv tb rfl rfl rfl rfl (sq_end ?_)
    refine kw (lz [0, 2, 3] (env' := [(_, _), (_, _), (_, _)]) rfl) ?_
    refine nx (k_seq (k_seq (rgo tb hJ [0, 1, 1001, 1002, 1003] [_, _, _, _] [2] [(_, _), (_, _), (_, .rd (frsC d.frames)), (_, .int (((d.frames.length : Nat) : Int))), (_, .int (0 : Int))] rfl rfl rfl rfl ⟨hLen unds_23_59 rfl rfl rfl rfl, trivial⟩ (nx (tr_fact (fun a w h => len_le h 2 rfl) fun hl2 => tr_block (tr_loop (ι := Nat × (Value × List (List Int)) × (List (ByteArray × Int))) (fun (ii' : Nat × (Value × List (List Int)) × (List (ByteArray × Int))) a w => match ii' with | (k, q, at') => ((k ≤ d.frames.length) ∧ (q.2 = usL d k) ∧ (AtI d k at')) ∧ St All (SO S [OB.map keyS (fun z' : Int => AV.int z') m2 (at'), OB.gr 28 b1 d q]) w0 87 [(10, .lit (.map (some m2))), (9, .at b1 0), (44, .rd (frsC d.frames)), (45, .int (((d.frames.length : Nat) : Int))), (46, .int (((k : Nat) : Int)))] (XO J S w0.heap.size [OB.map keyS (fun z' : Int => AV.int z') m2 (at'), OB.gr 28 b1 d q]) a w) (fun (ii' : Nat × (Value × List (List Int)) × (List (ByteArray × Int))) => match ii' with | (k, _, _) => (d.frames.length - k : Nat)) ?_ ?_))))))
    ·
     intro a w h
     exact ⟨(0, ((Value.slice none 0 0), ([] : List (List Int))), ([] : List (ByteArray × Int))), (show (0 ≤ d.frames.length) ∧ ((((Value.slice none 0 0), ([] : List (List Int)))).2 = usL d 0) ∧ (AtI d 0 (([] : List (ByteArray × Int)))) from ⟨Nat.zero_le _, rfl, atI_zero d⟩), lz [0, 1, 2, 3, 4] rfl h⟩
    ·
     rintro ⟨k, q, at'⟩
     refine tr_and fun hF => ?_
     obtain ⟨f2_1, f2_2, f2_3⟩ := hF
     refine k_seq (rgo tb hJ [0, 1, 2, 3, 4, 1000] [_] [] [(_, _), (_, _), (_, _), (_, _), (_, _), (_, .bool (decide (((k : Nat) : Int) < ((d.frames.length : Nat) : Int))))] rfl rfl rfl rfl trivial (nx (k_seq (tc 5 rfl rfl (fun hb4 => ?_) (fun hb4 => ?_)))))
     ·
      try simp at hb4
      refine tr_skip (nx (k_seq (tr_block (k_seq (tr_text (sv tb rfl rfl rfl rfl (sq (.ptr (frC (ge d.frames k))) rfl rfl (lb rfl) (fun _ _ h => r_index (i := ((k : Nat) : Int)) elem_23_59_8 rfl (h.get 3 rfl) (h.get 5 rfl) (Int.natCast_nonneg _) (row_nat (xs := d.frames) (k := k) (by first | omega | (simp; omega) | grind [ge_mem])) rfl h.x) (sv (av := .agg (frC (ge d.frames k))) tb rfl rfl rfl rfl (sq_alloc varC_59_sbllllll hJ rfl rfl rfl (lb rfl) fun b3 => ?_)))))))))
      refine sv tb rfl rfl rfl rfl (sq_storeN (b := b3) (off := 0) (cs := [.lit (.string (⟨#[]⟩ : ByteArray)), .lit (.bool false), hysC ([] : List Hy), prsC ([] : List Pr), strsC ([] : List ByteArray), hysC ([] : List Hy), prsC ([] : List Pr), strsC ([] : List ByteArray)]) (es := [.lit (.string ((ge d.frames k).label)), .lit (.bool ((ge d.frames k).thm)), hysC ((ge d.frames k).hyps), prsC ((ge d.frames k).apart), strsC ((ge d.frames k).text), hysC ((ge d.frames k).dummies), prsC ((ge d.frames k).wide), strsC ((ge d.frames k).proof)]) (news := [.lit (.string ((ge d.frames k).label)), .lit (.bool ((ge d.frames k).thm)), hysC ((ge d.frames k).hyps), prsC ((ge d.frames k).apart), strsC ((ge d.frames k).text), hysC ((ge d.frames k).dummies), prsC ((ge d.frames k).wide), strsC ((ge d.frames k).proof)]) hJ hJ0 size_59_8 rfl rfl rfl (lb rfl) rfl (fun a w h => ⟨(h.get 1 rfl), (h.get 2 rfl)⟩) ?_)
      refine kw (fun h => st_freezeV hS h (m := 1) (s := 12) rfl) ?_
      refine sq_end ?_
      refine kw (lz [0, 1, 5, 6, 7, 8, 9] (env' := [(_, _), (_, _), (_, _), (_, _), (_, _), (_, _), (_, _)]) rfl) ?_
      refine nx (k_seq (tr_text (sq_mapS keyI hJ rfl rfl rfl (lb rfl) fun m4 => ?_)))
      refine sv tb rfl rfl rfl rfl (sq_end ?_)
      refine kw (lz [0, 2, 3, 4, 5, 6, 7, 8] (env' := [(_, _), (_, _), (_, _), (_, _), (_, _), (_, _), (_, _), (_, _)]) rfl) ?_
      refine nx (k_seq (k_seq (rgo tb hJ [0, 1, 2, 3, 4, 5, 6, 7, 1001, 1002, 1003, 1004] [_, _, _, _, _] [2, 3] [(_, _), (_, _), (_, _), (_, _), (_, _), (_, _), (_, _), (_, _), (_, .rd (strsC ((ge d.frames k).proof))), (_, .rd (strsC ((namW ((ge d.frames k).proof))))), (_, .int (((((namW ((ge d.frames k).proof))).length : Nat) : Int))), (_, .int (0 : Int))] rfl rfl rfl rfl ⟨hFo hS hJ (p_named hJ (l := ((ge d.frames k).proof)) ) call_71 rfl rfl rfl rfl, hLen unds_22_9 rfl rfl rfl rfl, trivial⟩ (nx (tr_fact (fun a w h => len_le h 8 rfl) fun hl3 => tr_fact (fun a w h => len_le h 9 rfl) fun hl4 => tr_block (tr_loop (ι := Nat × (List Int)) (fun (ii' : Nat × (List Int)) a w => match ii' with | (n, xs) => ((n ≤ (namW (ge d.frames k).proof).length) ∧ (SetI d k ((namW (ge d.frames k).proof).take n) xs)) ∧ St All (SO S [OB.set keyI m4 xs, OB.map keyS (fun z' : Int => AV.int z') m2 (at'), OB.gr 28 b1 d q]) w0 87 [(13, .lit (.map (some m4))), (12, .ptr (frC (ge d.frames k))), (11, .int (((k : Nat) : Int))), (10, .lit (.map (some m2))), (9, .at b1 0), (44, .rd (frsC d.frames)), (45, .int (((d.frames.length : Nat) : Int))), (46, .int (((k : Nat) : Int))), (54, .rd (strsC ((namW ((ge d.frames k).proof))))), (55, .int (((((namW ((ge d.frames k).proof))).length : Nat) : Int))), (56, .int (((n : Nat) : Int)))] (XO J S w0.heap.size [OB.set keyI m4 xs, OB.map keyS (fun z' : Int => AV.int z') m2 (at'), OB.gr 28 b1 d q]) a w) (fun (ii' : Nat × (List Int)) => match ii' with | (n, _) => ((namW (ge d.frames k).proof).length - n : Nat)) ?_ ?_))))))
      ·
       intro a w h
       exact ⟨(0, ([] : List Int)), (show (0 ≤ (namW (ge d.frames k).proof).length) ∧ (SetI d k ((namW (ge d.frames k).proof).take 0) ([] : List Int)) from ⟨Nat.zero_le _, setI_nil d k⟩), lz [0, 1, 2, 3, 4, 5, 6, 7, 9, 10, 11] rfl h⟩
      ·
       rintro ⟨n, xs⟩
       refine tr_and fun hF => ?_
       obtain ⟨f3_1, f3_2⟩ := hF
       refine k_seq (rgo tb hJ [0, 1, 2, 3, 4, 5, 6, 7, 8, 9, 10, 1000] [_] [] [(_, _), (_, _), (_, _), (_, _), (_, _), (_, _), (_, _), (_, _), (_, _), (_, _), (_, _), (_, .bool (decide (((n : Nat) : Int) < ((((namW ((ge d.frames k).proof))).length : Nat) : Int))))] rfl rfl rfl rfl trivial (nx (k_seq (tc 11 rfl rfl (fun hb5 => ?_) (fun hb5 => ?_)))))
       ·
        try simp at hb5
        refine tr_skip (nx (k_seq (tr_block (k_seq (rgo tb hJ [0, 1, 2, 3, 4, 5, 6, 7, 8, 9, 10, 1002] [.ptr [.lit (.string ((ge ((namW ((ge d.frames k).proof))) n)))], _, _] [0] [(_, _), (_, _), (_, _), (_, _), (_, _), (_, _), (_, _), (_, _), (_, _), (_, _), (_, _), (_, .str ((ge ((namW ((ge d.frames k).proof))) n)))] rfl rfl rfl rfl ⟨hIx elem_22_9_1 (by first | omega | (simp; omega) | grind [ge_mem]) rfl rfl rfl rfl rfl rfl, trivial⟩ (nx (k_seq (rgo tb hJ [0, 1, 2, 3, 4, 5, 6, 7, 8, 9, 10, 1006, 1007] [_, _, .tup [.int (((mget (at') ((ge ((namW ((ge d.frames k).proof))) n))).getD default)), .bool ((mget (at') ((ge ((namW ((ge d.frames k).proof))) n))).isSome)], _, _, _, _, _] [2] [(_, _), (_, _), (_, _), (_, _), (_, _), (_, _), (_, _), (_, _), (_, _), (_, _), (_, _), (_, .int (((mget (at') ((ge ((namW ((ge d.frames k).proof))) n))).getD default))), (_, .bool ((mget (at') ((ge ((namW ((ge d.frames k).proof))) n))).isSome))] rfl rfl rfl rfl ⟨fun _ _ _ hx hl _ => r_lookup2 (Kd := keyS) (f := (fun z' : Int => AV.int z')) (L := (at')) mapT_89_9_3 zeroF_3_int ((ge ((namW ((ge d.frames k).proof))) n)) rfl (own_now hx (mo 1 rfl)) (hl.dep 0 61 _ rfl rfl rfl rfl) (hl.dep 1 62 _ rfl rfl rfl rfl) hx, trivial⟩ (nx (k_seq (rgo tb hJ [0, 1, 2, 3, 4, 5, 6, 7, 8, 9, 10, 11, 1000] [_] [] [(_, _), (_, _), (_, _), (_, _), (_, _), (_, _), (_, _), (_, _), (_, _), (_, _), (_, _), (_, _), (_, .bool ((mget (at') ((ge ((namW ((ge d.frames k).proof))) n))).isSome))] rfl rfl rfl rfl trivial (nx ?_))))))))))))
        refine tc 12 rfl rfl (fun hb6 => ?_) (fun hb6 => ?_)
        ·
         try simp at hb6
         refine tr_text (sv tb rfl rfl rfl rfl (sv tb rfl rfl rfl rfl (sq_putS mapT_70_3_4 hJ hJ0 (((mget (at') ((ge ((namW ((ge d.frames k).proof))) n))).getD default)) rfl rfl (.inl rfl) (fun a w h => ⟨(h.get 1 rfl), (h.get 0 rfl), (Rel.of_lit (Go.Value.bool true))⟩) (sq_end ?_))))
         refine kw (lz [2, 3, 4, 5, 6, 7, 8, 9, 10, 11, 12] (env' := [(_, _), (_, _), (_, _), (_, _), (_, _), (_, _), (_, _), (_, _), (_, _), (_, _), (_, _)]) rfl) ?_
         refine nx (rgo tb hJ [0, 1, 2, 3, 4, 5, 6, 7, 8, 9, 1001] [.int (((n + 1 : Nat) : Int)), _] [0] [(_, _), (_, _), (_, _), (_, _), (_, _), (_, _), (_, _), (_, _), (_, _), (_, _), (_, .int (((n + 1 : Nat) : Int)))] rfl rfl rfl rfl ⟨hAdd (by first | omega | (simp; omega) | grind [ge_mem]) rfl rfl rfl rfl rfl, trivial⟩ ?_)
         intro a w h; change ∃ j, _ ∧ _
         exact ⟨(n + 1, addS xs (((mget (at') ((ge ((namW ((ge d.frames k).proof))) n))).getD default))), ⟨⟨(show (n + 1) ≤ (namW (ge d.frames k).proof).length from by omega), (show SetI d k ((namW (ge d.frames k).proof).take (n + 1)) (addS xs (((mget (at') ((ge ((namW ((ge d.frames k).proof))) n))).getD default))) from by rw [take_ge (by omega)]; first | exact setI_hit f2_3 f3_2 hb6 (fun p q' hp hq => lab_inj e1 (by omega) (by omega)) | exact setI_miss f2_3 f3_2 (by simpa using hb6))⟩, lz [0, 1, 2, 3, 4, 5, 6, 7, 8, 9, 10] rfl h⟩, (show (namW (ge d.frames k).proof).length - (n + 1) < (namW (ge d.frames k).proof).length - n from by first | omega | (simp; omega))⟩
        ·
         try simp at hb6
         refine tr_skip (nx (rgo tb hJ [0, 1, 2, 3, 4, 5, 6, 7, 8, 9, 1001] [.int (((n + 1 : Nat) : Int)), _] [0] [(_, _), (_, _), (_, _), (_, _), (_, _), (_, _), (_, _), (_, _), (_, _), (_, _), (_, .int (((n + 1 : Nat) : Int)))] rfl rfl rfl rfl ⟨hAdd (by first | omega | (simp; omega) | grind [ge_mem]) rfl rfl rfl rfl rfl, trivial⟩ ?_))
         intro a w h; change ∃ j, _ ∧ _
         exact ⟨(n + 1, xs), ⟨⟨(show (n + 1) ≤ (namW (ge d.frames k).proof).length from by omega), (show SetI d k ((namW (ge d.frames k).proof).take (n + 1)) xs from by rw [take_ge (by omega)]; first | exact setI_hit f2_3 f3_2 hb6 (fun p q' hp hq => lab_inj e1 (by omega) (by omega)) | exact setI_miss f2_3 f3_2 (by simpa using hb6))⟩, lz [0, 1, 2, 3, 4, 5, 6, 7, 8, 9, 10] rfl h⟩, (show (namW (ge d.frames k).proof).length - (n + 1) < (namW (ge d.frames k).proof).length - n from by first | omega | (simp; omega))⟩
       ·
        try simp at hb5
        have e5 : SetI d k (namW (ge d.frames k).proof) xs := by have := f3_2; rwa [take_all (by omega)] at this
        refine tr_exit (nx (k_seq ?_))
        refine tw pm2 ?_
        refine tw (B := St All (SO S [OB.row q.1 28 1 (q.2.map ints1C), OB.var b1 [strsC d.consts, strsC d.vars, frsC d.frames, .lit q.1], OB.set keyI m4 xs, OB.map keyS (fun z' : Int => AV.int z') m2 (at')]) w0 87 [(13, .lit (.map (some m4))), (12, .ptr (frC (ge d.frames k))), (11, .int (((k : Nat) : Int))), (10, .lit (.map (some m2))), (9, .at b1 0), (44, .rd (frsC d.frames)), (45, .int (((d.frames.length : Nat) : Int))), (46, .int (((k : Nat) : Int))), (54, .rd (strsC ((namW ((ge d.frames k).proof))))), (55, .int (((((namW ((ge d.frames k).proof))).length : Nat) : Int))), (56, .int (((n : Nat) : Int))), (57, .bool (decide (((n : Nat) : Int) < ((((namW ((ge d.frames k).proof))).length : Nat) : Int))))] (XO J S w0.heap.size [OB.row q.1 28 1 (q.2.map ints1C), OB.var b1 [strsC d.consts, strsC d.vars, frsC d.frames, .lit q.1], OB.set keyI m4 xs, OB.map keyS (fun z' : Int => AV.int z') m2 (at')])) (fun h => st_unpack h) ?_
        refine fun a w h => region_G2 [OB.var b1 [strsC d.consts, strsC d.vars, frsC d.frames, .lit q.1], OB.set keyI m4 xs, OB.map keyS (fun z' : Int => AV.int z') m2 (at')] (γ := Value) (fun ix' => ([.at b1 0, .at b1 0, .at b1 0, .at b1 3, .lit q.1, .lit (.map (some m4)), .rd (intsC (sortI xs)), .rd (intssC ([(sortI xs)])), .any, .at b1 0, .at b1 3, .any] : List AV).getD ix' .any) (fun ix' => ([true, true, true, true, true, true, true, true, true, true, true, true] : List Bool).getD ix' true) [(12, fun (g : Value) => .ptr (frC (ge d.frames k))), (11, fun (g : Value) => .int (((k : Nat) : Int))), (10, fun (g : Value) => .lit (.map (some m2))), (9, fun (g : Value) => .at b1 0), (44, fun (g : Value) => .rd (frsC d.frames)), (45, fun (g : Value) => .int (((d.frames.length : Nat) : Int))), (46, fun (g : Value) => .int (((k : Nat) : Int)))] (fun (j' : Nat) (g : Value) => match j' with | 0 => [OB.row q.1 28 1 (q.2.map ints1C), OB.var b1 [strsC d.consts, strsC d.vars, frsC d.frames, .lit q.1], OB.set keyI m4 xs, OB.map keyS (fun z' : Int => AV.int z') m2 (at')] | 1 => [OB.row g 28 1 ((q.2 ++ ([(sortI xs)])).map ints1C), OB.var b1 [strsC d.consts, strsC d.vars, frsC d.frames, .lit q.1], OB.set keyI m4 xs, OB.map keyS (fun z' : Int => AV.int z') m2 (at')] | _ => [OB.row g 28 1 ((q.2 ++ ([(sortI xs)])).map ints1C), OB.var b1 [strsC d.consts, strsC d.vars, frsC d.frames, .lit g], OB.set keyI m4 xs, OB.map keyS (fun z' : Int => AV.int z') m2 (at')]) (fun (k' : Nat) (g : Value) => match k' with | 0 => g | 1 => undef | _ => undef) [8, 11] 1 (.slice none 0 0) (fun _ => rfl) h hJ mixedE rfl rfl rfl rfl rfl rfl (fun j' g hj p hp => by rcases j' with _ | _ | _ | j' <;> first | exact hp | exact List.mem_cons_of_mem _ hp | exact List.mem_cons_of_mem _ (List.mem_cons_of_mem _ hp) | (exfalso; omega)) ⟨?o23_1_0, ⟨?o23_1_1, ⟨?o23_1_2, ⟨?o23_1_3, ⟨?o23_1_4, ⟨?o23_1_5, ⟨?o23_1_6, ⟨?o23_1_7, ⟨?o23_1_8, ⟨?o23_1_9, ⟨?o23_1_10, ⟨?o23_1_11, trivial⟩⟩⟩⟩⟩⟩⟩⟩⟩⟩⟩⟩ ⟨?e23_1_0, ⟨?e23_1_1, trivial⟩⟩ ⟨.old 1 12 _ rfl rfl, ⟨.old 2 11 _ rfl rfl, ⟨.old 3 10 _ rfl rfl, ⟨.old 4 9 _ rfl rfl, ⟨.old 5 44 _ rfl rfl, ⟨.old 6 45 _ rfl rfl, ⟨.old 7 46 _ rfl rfl, trivial⟩⟩⟩⟩⟩⟩⟩ ?n23_1
        case o23_1_0 => exact fun _ O' _ => ⟨rfl, fun _ _ _ hx hl _ => r_move rfl (hl.env 4 9 _ rfl rfl) hx⟩
        case o23_1_1 => exact fun _ O' _ => ⟨rfl, fun _ _ _ hx hl _ => r_move rfl (hl.env 4 9 _ rfl rfl) hx⟩
        case o23_1_2 => exact fun _ O' _ => ⟨rfl, fun _ _ _ hx hl _ => r_nilCheckV rfl (hl.dep 1 71 _ rfl rfl rfl rfl) hx⟩
        case o23_1_3 => exact fun _ O' _ => ⟨rfl, fun _ _ _ hx hl _ => r_fieldV fld_66_1_3 rfl (hl.dep 2 72 _ rfl rfl rfl rfl) hx⟩
        case o23_1_4 => exact fun _ O' hO' => ⟨rfl, fun _ _ _ hx hl _ => r_loadV1 (cs := [strsC d.consts, strsC d.vars, frsC d.frames, .lit q.1]) one_44 rfl (own_now hx (hO' _ (mo 0 rfl))) (hl.dep 3 73 _ rfl rfl rfl rfl) rfl hx⟩
        case o23_1_5 => exact fun _ O' _ => ⟨rfl, fun _ _ _ hx hl _ => r_move rfl (hl.env 0 13 _ rfl rfl) hx⟩
        case o23_1_6 => exact fun _ O' hO' => ⟨rfl, fun _ _ hk hx hl _ => r_fnR (p_sorted hJ (M := m4) (xs := xs) (fun x hx => by have := (setI_len e5).1 x hx; omega) (by have := (setI_len e5).2; omega)) call_48 rfl (xo_new hS _ hk hx) (hx.1) (has_cons (own_now hx (hO' _ (mo 1 rfl))) has_nil) (relL_cons (hl.dep 5 75 _ rfl rfl rfl rfl) relL_nil) (jo hJ hx)⟩
        case o23_1_7 => exact fun _ O' _ => ⟨rfl, fun _ _ hk hx hl _ => r_build1 elem_44_28_1 zero_28 rfl (hl.dep 6 76 _ rfl rfl rfl rfl) (xo_new hS _ hk hx _ (Nat.le_refl _)) (jo hJ hx)⟩
        case o23_1_8 => exact not_in_row rfl
        case o23_1_9 => exact fun _ O' _ => ⟨rfl, fun _ _ _ hx hl _ => r_nilCheckV rfl (hl.dep 0 70 _ rfl rfl rfl rfl) hx⟩
        case o23_1_10 => exact fun _ O' _ => ⟨rfl, fun _ _ _ hx hl _ => r_fieldV fld_66_1_3 rfl (hl.dep 9 79 _ rfl rfl rfl rfl) hx⟩
        case o23_1_11 => exact not_in_row rfl
        case e23_1_0 => exact ⟨_, rfl, rfl, rfl, rfl, fun _ _ w hk hx hl _ => does_mono (d_append (f := ints1C) q.2 ([(sortI xs)]) (fun _ => rfl) app_44_28 hJ hJ0 rfl hk hx (hl.dep 4 74 _ rfl rfl rfl rfl).lit (hl.dep 7 77 _ rfl rfl rfl rfl) (by rw [f2_2, usL_len]; simp; omega) (by rw [f2_2, usL_len]; simp; omega)) fun v w' hp => ⟨v, rfl, fun k' hk' => absurd hk' (Nat.not_lt_zero _), fun _ => rfl, hp⟩⟩
        case e23_1_1 => exact ⟨_, rfl, rfl, rfl, rfl, fun g _ w hk hx hl hs => does_mono (d_storeP (off := 3) (cs := [strsC d.consts, strsC d.vars, frsC d.frames, .lit q.1]) (es := [strsC d.consts, strsC d.vars, frsC d.frames, .lit g]) (c := .lit g) hJ hJ0 size_44_1 rfl hk hx (hl.dep 10 80 _ rfl rfl rfl rfl) (by rw [(hs 0 8 _ 78 (by omega) rfl rfl rfl)]; exact Rel.of_lit _ (row_lit (hx.2.1 _ (mo 0 rfl)))) (lb rfl) rfl) fun v w' hp => ⟨g, rfl, fun _ _ => rfl, fun e => (by cases e), hp⟩⟩
        clear a w h
        intro v5
        change ∀ a w, St All (SO S [OB.row v5 28 1 ((q.2 ++ ([(sortI xs)])).map ints1C), OB.var b1 [strsC d.consts, strsC d.vars, frsC d.frames, .lit v5], OB.set keyI m4 xs, OB.map keyS (fun z' : Int => AV.int z') m2 (at')]) w0 87 [(12, .ptr (frC (ge d.frames k))), (11, .int (((k : Nat) : Int))), (10, .lit (.map (some m2))), (9, .at b1 0), (44, .rd (frsC d.frames)), (45, .int (((d.frames.length : Nat) : Int))), (46, .int (((k : Nat) : Int)))] (XO J S w0.heap.size [OB.row v5 28 1 ((q.2 ++ ([(sortI xs)])).map ints1C), OB.var b1 [strsC d.consts, strsC d.vars, frsC d.frames, .lit v5], OB.set keyI m4 xs, OB.map keyS (fun z' : Int => AV.int z') m2 (at')]) a w → _
        refine kw pm1 ?_
        refine kw pm1 ?_
        refine kw (B := St All (SO S [OB.gr 28 b1 d ((v5, q.2 ++ ([(sortI xs)]))), OB.set keyI m4 xs, OB.map keyS (fun z' : Int => AV.int z') m2 (at')]) w0 87 [(12, .ptr (frC (ge d.frames k))), (11, .int (((k : Nat) : Int))), (10, .lit (.map (some m2))), (9, .at b1 0), (44, .rd (frsC d.frames)), (45, .int (((d.frames.length : Nat) : Int))), (46, .int (((k : Nat) : Int)))] (XO J S w0.heap.size [OB.gr 28 b1 d ((v5, q.2 ++ ([(sortI xs)]))), OB.set keyI m4 xs, OB.map keyS (fun z' : Int => AV.int z') m2 (at')])) (fun h => st_pack h) ?_
        refine nx (tr_text (sv tb rfl rfl rfl rfl (sv (av := .ptr (frC (ge d.frames k))) tb rfl rfl rfl rfl (sv (av := .str ((ge d.frames k).label)) tb rfl rfl rfl rfl (sv tb rfl rfl rfl rfl ?_)))))
        refine kw pm2 ?_
        refine sq_put (f := (fun z' : Int => AV.int z')) mapT_89_9_3 hJ hJ0 ((ge d.frames k).label) (((k : Nat) : Int)) rfl rfl (.inl rfl) (fun a w h => ⟨(h.get 3 rfl), (h.get 1 rfl), (h.get 0 rfl)⟩) (sq_end ?_)
        refine kw (lz [6, 7, 8, 9, 10] (env' := [(_, _), (_, _), (_, _), (_, _), (_, _)]) rfl) ?_
        refine nx (rgo tb hJ [0, 1, 2, 3, 1001] [.int (((k + 1 : Nat) : Int)), _] [0] [(_, _), (_, _), (_, _), (_, _), (_, .int (((k + 1 : Nat) : Int)))] rfl rfl rfl rfl ⟨hAdd (by first | omega | (simp; omega) | grind [ge_mem]) rfl rfl rfl rfl rfl, trivial⟩ ?_)
        refine kw pm2 ?_
        refine kw st_drop ?_
        intro a w h; change ∃ j, _ ∧ _
        exact ⟨(k + 1, (v5, q.2 ++ ([(sortI xs)])), mput (at') ((ge d.frames k).label) (((k : Nat) : Int))), ⟨⟨(show (k + 1) ≤ d.frames.length from by omega), (show ((v5, q.2 ++ ([(sortI xs)]))).2 = usL d (k + 1) from by rw [usL_succ, ← f2_2, ← uses_end e1 (by omega) e5]), (show AtI d (k + 1) (mput (at') ((ge d.frames k).label) (((k : Nat) : Int))) from atI_succ e1 (by omega) f2_3)⟩, lz [0, 1, 2, 3, 4] rfl h⟩, (show d.frames.length - (k + 1) < d.frames.length - k from by first | omega | (simp; omega))⟩
     ·
      try simp at hb4
      refine tr_exit (nx (k_seq ?_))
      refine tw pm1 ?_
      refine tw (fun h => st_freezeG hS h (m := 1) (s := 9) rfl) ?_
      refine rgo tb hJ [1001, 1002] [_, _, _] [] [(_, .ptr [strsC d.consts, strsC d.vars, frsC d.frames, intssC q.2]), (_, .int (0 : Int))] rfl rfl rfl rfl trivial (nx (tr_ret (fun a w h => leave2' (m := 0) (k := 1) rfl (st_disown h) rfl rfl (show .ptr [strsC d.consts, strsC d.vars, frsC d.frames, intssC q.2] = gAV (rdE d ns) [strsC d.consts, strsC d.vars, frsC d.frames, intssC (usL d d.frames.length)] from by first | exact e9.symm | exact (gAV_no e8).symm | (rw [gAV_ok e9, f2_2, show k = d.frames.length by omega])) (congrArg AV.int (show (0 : Int) = (rdE d ns) from by first | exact e9.symm | exact (gAV_no e8).symm | (rw [gAV_ok e9, f2_2, show k = d.frames.length by omega]))))))

end Go.Proofs.YtnpgmdffjemnbaaGreatDoor
namespace Go.Proofs.YtnpgmdffjemnbaaGreatDoor

/-- A chain of uses. -/
inductive Rch (us : List (List Int)) : Int → Int → Prop where
  | refl (i : Int) : Rch us i i
  | step (i x y : Int) (h : x ∈ ge us i.toNat) (k : Rch us x y) : Rch us i y
theorem Rch.trans {us : List (List Int)} {a b c : Int} (h : Rch us a b) (k : Rch us b c) : Rch us a c := by
  induction h with
  | refl => exact k
  | step i x y hx _ ih => exact .step i x _ hx (ih k)
theorem Rch.one {us : List (List Int)} {a b : Int} (h : b ∈ ge us a.toNat) : Rch us a b := .step a b b h (.refl b)
/-- Each number uses smaller ones. -/
def DownL (us : List (List Int)) : Prop := ∀ i, ∀ x ∈ ge us i, 0 ≤ x ∧ x < (i : Int)
theorem Rch.le {us : List (List Int)} (hd : DownL us) {a b : Int} (h : Rch us a b) (ha : 0 ≤ a) : 0 ≤ b ∧ b ≤ a := by
  induction h with
  | refl => exact ⟨ha, Int.le_refl _⟩
  | step i x y hx _ ih =>
    have := hd _ x hx
    have := ih this.1
    omega
/-- What a visit of n adds. -/
structure VIS (us : List (List Int)) (n : Nat) (xs ys : List Int) : Prop where
  sub : ∀ x ∈ xs, x ∈ ys
  self : (n : Int) ∈ ys
  nod : xs.Nodup → ys.Nodup
  new : ∀ y ∈ ys, y ∈ xs ∨ (Rch us n y ∧ ∀ z ∈ ge us y.toNat, z ∈ ys)
/-- ... in its midst. -/
structure VIK (us : List (List Int)) (n : Nat) (xs : List Int) (k : Nat) (ys : List Int) : Prop where
  sub : ∀ x ∈ xs, x ∈ ys
  self : (n : Int) ∈ ys
  nod : xs.Nodup → ys.Nodup
  done : ∀ j, j < k → ge (ge us n) j ∈ ys
  new : ∀ y ∈ ys, y ∈ xs ∨ y = (n : Int) ∨ (Rch us n y ∧ ∀ z ∈ ge us y.toNat, z ∈ ys)
theorem VIS.old {us : List (List Int)} {n : Nat} {xs : List Int} (h : (n : Int) ∈ xs) : VIS us n xs xs := ⟨fun _ h => h, h, fun h => h, fun _ h => .inl h⟩
theorem VIK.start (us : List (List Int)) (n : Nat) (xs : List Int) : VIK us n xs 0 (addS xs (n : Int)) :=
  ⟨fun _ hx => mem_addS.2 (.inl hx), mem_addS.2 (.inr rfl), nodup_addS, fun _ hj => absurd hj (Nat.not_lt_zero _), fun _ hy => (mem_addS.1 hy).imp id .inl⟩
theorem VIK.next {us : List (List Int)} {n : Nat} {xs ys zs : List Int} {k m : Nat} (h : VIK us n xs k ys) (hk : k < (ge us n).length) (hm : (m : Int) = ge (ge us n) k) (hz : VIS us m ys zs) : VIK us n xs (k + 1) zs where
  sub := fun x hx => hz.sub x (h.sub x hx)
  self := hz.sub _ h.self
  nod := fun hn => hz.nod (h.nod hn)
  done := fun j hj => by
    by_cases e : j = k
    · rw [e, ← hm]; exact hz.self
    · exact hz.sub _ (h.done j (by omega))
  new := fun y hy => by
    rcases hz.new y hy with h1 | ⟨h1, h2⟩
    · rcases h.new y h1 with h3 | h3 | ⟨h3, h4⟩
      · exact .inl h3
      · exact .inr (.inl h3)
      · exact .inr (.inr ⟨h3, fun z hzz => hz.sub z (h4 z hzz)⟩)
    · refine .inr (.inr ⟨.step _ _ _ ?_ h1, h2⟩)
      rw [hm]
      exact ge_mem hk
theorem VIK.fin {us : List (List Int)} {n : Nat} {xs ys : List Int} {k : Nat} (h : VIK us n xs k ys) (hk : (ge us n).length ≤ k) : VIS us n xs ys where
  sub := h.sub
  self := h.self
  nod := h.nod
  new := fun y hy => by
    rcases h.new y hy with h3 | h3 | h3
    · exact .inl h3
    · subst h3
      refine .inr ⟨.refl _, fun z hz => ?_⟩
      rw [Int.toNat_natCast] at hz
      obtain ⟨j, hj, rfl⟩ := mem_ge hz
      exact h.done j (by omega)
    · exact .inr h3
/-- All that n reaches, itself among it. -/
structure IsReach (us : List (List Int)) (n : Nat) (ys : List Int) : Prop where
  nod : ys.Nodup
  iff : ∀ y, y ∈ ys ↔ Rch us n y
theorem VIS.reach {us : List (List Int)} {n : Nat} {ys : List Int} (h : VIS us n [] ys) : IsReach us n ys := by
  have hn : ∀ y ∈ ys, Rch us n y ∧ ∀ z ∈ ge us y.toNat, z ∈ ys := fun y hy => (h.new y hy).resolve_left (by simp)
  refine ⟨h.nod .nil, fun y => ⟨fun hy => (hn y hy).1, fun hy => ?_⟩⟩
  have key : ∀ a b, Rch us a b → a ∈ ys → b ∈ ys := by
    intro a b hab
    induction hab with
    | refl => exact id
    | step i x y hx _ ih => exact fun hi => ih ((hn i hi).2 x hx)
  exact key _ _ hy h.self
theorem usL_down (d : Db) (n : Nat) : DownL (usL d n) := fun i x hx => by
  rcases Nat.lt_or_ge i n with h | h
  · rw [usL_at h, usesD] at hx
    split at hx
    · exact usesK_lt hx
    · simp at hx
  · rw [ge, List.getD_eq_getElem?_getD, List.getElem?_eq_none (by rw [usL_len]; exact h)] at hx
    simp [default] at hx
theorem usL_high {d : Db} {n i : Nat} (h : n ≤ i) : ge (usL d n) i = [] := by
  rw [ge, List.getD_eq_getElem?_getD, List.getElem?_eq_none (by rw [usL_len]; exact h)]; rfl
end Go.Proofs.YtnpgmdffjemnbaaGreatDoor
set_option maxHeartbeats 8000000
set_option maxRecDepth 100000
namespace Go.Proofs.YtnpgmdffjemnbaaGreatDoor
open Go.RowKit

theorem p_needs1s {J : World → Prop} (hJ : Stab J) (M : Nat) (bs : Nat) (bg : Nat) (bv : Nat) (d : Db) (us : List (List Int)) (n : Nat) (xs : List Int) (hd : DownL us) (hn : n < us.length) (ih : ∀ (m' : Nat) (xs' : List Int), m' < n → FnM (ι := { q' : List Int // VIS us m' xs' q' }) Tryz.prog J 72 [] [.int (((m' : Nat) : Int)), .at bs 0, .at bg 0, .at bv 0] [OB.set keyI M (xs'), OB.var bs [.lit (.map (some M))], OB.var bg [.ptr [strsC d.consts, strsC d.vars, frsC d.frames, intssC us]], OB.var bv [.lit (.func (.func 72) #[] #[.pointer (some ⟨bs, 0, none⟩), .pointer (some ⟨bg, 0, none⟩), .pointer (some ⟨bv, 0, none⟩)])]] (fun _ => .tup []) (fun i' => [OB.set keyI M (i'.1), OB.var bs [.lit (.map (some M))], OB.var bg [.ptr [strsC d.consts, strsC d.vars, frsC d.frames, intssC us]], OB.var bv [.lit (.func (.func 72) #[] #[.pointer (some ⟨bs, 0, none⟩), .pointer (some ⟨bg, 0, none⟩), .pointer (some ⟨bv, 0, none⟩)])]])) : FnM (ι := { q' : List Int // VIS us n xs q' }) Tryz.prog J 72 [] [.int (((n : Nat) : Int)), .at bs 0, .at bg 0, .at bv 0] [OB.set keyI M xs, OB.var bs [.lit (.map (some M))], OB.var bg [.ptr [strsC d.consts, strsC d.vars, frsC d.frames, intssC us]], OB.var bv [.lit (.func (.func 72) #[] #[.pointer (some ⟨bs, 0, none⟩), .pointer (some ⟨bg, 0, none⟩), .pointer (some ⟨bv, 0, none⟩)])]] (fun _ => .tup []) (fun i' => [OB.set keyI M (i'.1), OB.var bs [.lit (.map (some M))], OB.var bg [.ptr [strsC d.consts, strsC d.vars, frsC d.frames, intssC us]], OB.var bv [.lit (.func (.func 72) #[] #[.pointer (some ⟨bs, 0, none⟩), .pointer (some ⟨bg, 0, none⟩), .pointer (some ⟨bv, 0, none⟩)])]]) := by
 refine fn_enterM (N := 28) Tryz.func72 rfl rfl (lb rfl) fun S w0 R hS hJ0 hH => ?_
 refine tr_weak (B := St All (SO S (OB.set keyI M xs :: OB.var bs [.lit (.map (some M))] :: OB.var bg [.ptr [strsC d.consts, strsC d.vars, frsC d.frames, intssC us]] :: OB.var bv [.lit (.func (.func 72) #[] #[.pointer (some ⟨bs, 0, none⟩), .pointer (some ⟨bg, 0, none⟩), .pointer (some ⟨bv, 0, none⟩)])] :: R)) w0 28 [(0, .int (((n : Nat) : Int))), (1, .at bs 0), (2, .at bg 0), (3, .at bv 0)] (XO J S w0.heap.size (OB.set keyI M xs :: OB.var bs [.lit (.map (some M))] :: OB.var bg [.ptr [strsC d.consts, strsC d.vars, frsC d.frames, intssC us]] :: OB.var bv [.lit (.func (.func 72) #[] #[.pointer (some ⟨bs, 0, none⟩), .pointer (some ⟨bg, 0, none⟩), .pointer (some ⟨bv, 0, none⟩)])] :: R))) ?_ fun a w h => h
 refine k_seq (k_seq (rgo tb hJ [0, 1, 2, 3, 1002] [.lit (.map (some M)), _, _] [0, 2] [(_, _), (_, _), (_, _), (_, _), (_, .bool (decide (((n : Nat) : Int) ∈ xs)))] rfl rfl rfl rfl ⟨fun _ _ _ hx hl _ => r_loadV1 (cs := [.lit (.map (some M))]) one_70 rfl (own_now hx (mo 1 rfl)) (hl.env 1 1 _ rfl rfl) rfl hx, fun _ _ _ hx hl _ => r_lookupS (Kd := keyI) (xs := xs) mapT_70_3_4 zeroF_4_set (((n : Nat) : Int)) rfl (own_now hx (mo 0 rfl)) (hl.dep 0 7 _ rfl rfl rfl rfl) (hl.dep 1 8 _ rfl rfl rfl rfl) hx, trivial⟩ (nx (tc 4 rfl rfl (fun hb1 => ?_) (fun hb1 => ?_)))))
 ·
  try simp at hb1
  refine tw (ob0 (congrArg (fun z' => OB.set keyI M (z')) (show xs = (((⟨(xs), by first | exact VIS.old hb1 | exact f1_2.fin (by omega)⟩ : { q' : List Int // VIS us n xs q' }).1)) from rfl))) ?_
  refine tr_ret (fun a w h => leaveM0  (⟨(xs), by first | exact VIS.old hb1 | exact f1_2.fin (by omega)⟩ : { q' : List Int // VIS us n xs q' }) rfl h rfl)
 ·
  try simp at hb1
  refine tr_skip (nx (k_seq (tr_text (sq (.lit (.map (some M))) rfl rfl (lb rfl) (fun _ _ h => r_loadV1 (cs := [.lit (.map (some M))]) one_70 rfl (own_now h.x (mo 1 rfl)) (h.get 1 rfl) rfl h.x) (sv tb rfl rfl rfl rfl (sq_putS mapT_70_3_4 hJ hJ0 (((n : Nat) : Int)) rfl rfl (.inl rfl) (fun a w h => ⟨(h.get 1 rfl), (h.get 0 rfl), (Rel.of_lit (Go.Value.bool true))⟩) (sq_end ?_)))))))
  refine kw (lz [2, 4, 5] (env' := [(_, _), (_, _), (_, _)]) rfl) ?_
  refine nx (k_seq (rgo tb hJ [2, 1003, 1006, 1007, 1008] [.ptr [strsC d.consts, strsC d.vars, frsC d.frames, intssC us], _, _, _, _, .ptr [intsC (ge us n)], _, _, _] [0, 5, 7] [(_, _), (_, .rd (intssC us)), (_, .rd (intsC (ge us n))), (_, .int ((((ge us n).length : Nat) : Int))), (_, .int (0 : Int))] rfl rfl rfl rfl ⟨fun _ _ _ hx hl _ => r_loadV1p (cs := [.ptr [strsC d.consts, strsC d.vars, frsC d.frames, intssC us]]) one_62 rfl (own_now hx (mo 2 rfl)) (hl.env 1 2 _ rfl rfl) rfl hx, hIx elem_44_28_1 (by first | omega | (simp; omega) | grind [ge_mem]) rfl rfl rfl rfl rfl rfl, hLen unds_28_3 rfl rfl rfl rfl, trivial⟩ (nx (tr_fact (fun a w h => len_le h 1 rfl) fun hl1 => tr_fact (fun a w h => len_le h 2 rfl) fun hl2 => tr_block (tr_loop (ι := Nat × (List Int)) (fun (ii' : Nat × (List Int)) a w => match ii' with | (k, ys) => ((k ≤ (ge us n).length) ∧ (VIK us n xs k ys)) ∧ St All (SO S (OB.set keyI M ys :: OB.var bs [.lit (.map (some M))] :: OB.var bg [.ptr [strsC d.consts, strsC d.vars, frsC d.frames, intssC us]] :: OB.var bv [.lit (.func (.func 72) #[] #[.pointer (some ⟨bs, 0, none⟩), .pointer (some ⟨bg, 0, none⟩), .pointer (some ⟨bv, 0, none⟩)])] :: R)) w0 28 [(3, .at bv 0), (18, .rd (intsC (ge us n))), (19, .int ((((ge us n).length : Nat) : Int))), (20, .int (((k : Nat) : Int)))] (XO J S w0.heap.size (OB.set keyI M ys :: OB.var bs [.lit (.map (some M))] :: OB.var bg [.ptr [strsC d.consts, strsC d.vars, frsC d.frames, intssC us]] :: OB.var bv [.lit (.func (.func 72) #[] #[.pointer (some ⟨bs, 0, none⟩), .pointer (some ⟨bg, 0, none⟩), .pointer (some ⟨bv, 0, none⟩)])] :: R)) a w) (fun (ii' : Nat × (List Int)) => match ii' with | (k, _) => ((ge us n).length - k : Nat)) ?_ ?_)))))
  ·
   intro a w h
   exact ⟨(0, addS xs (((n : Nat) : Int))), (show (0 ≤ (ge us n).length) ∧ (VIK us n xs 0 (addS xs (((n : Nat) : Int)))) from ⟨Nat.zero_le _, VIK.start us n xs⟩), lz [0, 2, 3, 4] rfl h⟩
  ·
   rintro ⟨k, ys⟩
   refine tr_and fun hF => ?_
   obtain ⟨f1_1, f1_2⟩ := hF
   refine k_seq (rgo tb hJ [0, 1, 2, 3, 1000] [_] [] [(_, _), (_, _), (_, _), (_, _), (_, .bool (decide (((k : Nat) : Int) < (((ge us n).length : Nat) : Int))))] rfl rfl rfl rfl trivial (nx (k_seq (tc 4 rfl rfl (fun hb2 => ?_) (fun hb2 => ?_)))))
   ·
    try simp at hb2
    refine tr_skip (nx (k_seq (tr_block (k_seq (rgo tb hJ [0, 1, 2, 3, 1002] [.ptr [.lit (.int .i64 ((ge (ge us n) k)))], _, _] [0] [(_, _), (_, _), (_, _), (_, _), (_, .int ((ge (ge us n) k)))] rfl rfl rfl rfl ⟨hIx elem_28_3_1 (by first | omega | (simp; omega) | grind [ge_mem]) rfl rfl rfl rfl rfl rfl, trivial⟩ (nx ?_))))))
    refine tw (sa 4 rfl (congrArg AV.int (show (ge (ge us n) k) = (((ge (ge us n) k).toNat : Nat) : Int) from by have := hd n _ (ge_mem (xs := ge us n) (k := k) (by omega)); omega))) ?_
    refine tr_text (sq (.lit (.func (.func 72) #[] #[.pointer (some ⟨bs, 0, none⟩), .pointer (some ⟨bg, 0, none⟩), .pointer (some ⟨bv, 0, none⟩)])) rfl rfl (lb rfl) (fun _ _ h => r_loadV1 (cs := [.lit (.func (.func 72) #[] #[.pointer (some ⟨bs, 0, none⟩), .pointer (some ⟨bg, 0, none⟩), .pointer (some ⟨bv, 0, none⟩)])]) one_91 rfl (own_now h.x (mo 3 rfl)) (h.get 0 rfl) rfl h.x) (sv tb rfl rfl rfl rfl (sq_fnv (O := [OB.set keyI M ys, OB.var bs [.lit (.map (some M))], OB.var bg [.ptr [strsC d.consts, strsC d.vars, frsC d.frames, intssC us]], OB.var bv [.lit (.func (.func 72) #[] #[.pointer (some ⟨bs, 0, none⟩), .pointer (some ⟨bg, 0, none⟩), .pointer (some ⟨bv, 0, none⟩)])]]) (R := (R)) [.int ((((ge (ge us n) k).toNat : Nat) : Int))] [.pointer (some ⟨bs, 0, none⟩), .pointer (some ⟨bg, 0, none⟩), .pointer (some ⟨bv, 0, none⟩)] [.at bs 0, .at bg 0, .at bv 0] (ih  (m' := ((ge (ge us n) k).toNat)) (xs' := ys) (by have := hd n _ (ge_mem (xs := ge us n) (k := k) (by omega)); omega)) call_72 rfl rfl rfl (lb rfl) hS hJ0 has_nil (fun a w h => (h.get 1 rfl).lit) (fun a w h => (relL_cons (h.get 0 rfl) relL_nil)) (fun w => (relL_cons (Rel.of_lit (.pointer (some ⟨bs, 0, none⟩))) (relL_cons (Rel.of_lit (.pointer (some ⟨bg, 0, none⟩))) (relL_cons (Rel.of_lit (.pointer (some ⟨bv, 0, none⟩))) relL_nil)))) fun z1 => ?_)))
    refine sq_end ?_
    refine kw (lz [3, 4, 5, 6] (env' := [(_, _), (_, _), (_, _), (_, _)]) rfl) ?_
    refine nx (rgo tb hJ [0, 1, 2, 1001] [.int (((k + 1 : Nat) : Int)), _] [0] [(_, _), (_, _), (_, _), (_, .int (((k + 1 : Nat) : Int)))] rfl rfl rfl rfl ⟨hAdd (by first | omega | (simp; omega) | grind [ge_mem]) rfl rfl rfl rfl rfl, trivial⟩ ?_)
    intro a w h; change ∃ j, _ ∧ _
    exact ⟨(k + 1, z1.1), ⟨⟨(show (k + 1) ≤ (ge us n).length from by omega), (show VIK us n xs (k + 1) z1.1 from f1_2.next (by omega) (by have := hd n _ (ge_mem (xs := ge us n) (k := k) (by omega)); omega) z1.2)⟩, lz [0, 1, 2, 3] rfl h⟩, (show (ge us n).length - (k + 1) < (ge us n).length - k from by first | omega | (simp; omega))⟩
   ·
    try simp at hb2
    refine tr_exit ?_
    refine kw (ob0 (congrArg (fun z' => OB.set keyI M (z')) (show ys = (((⟨(ys), by first | exact VIS.old hb1 | exact f1_2.fin (by omega)⟩ : { q' : List Int // VIS us n xs q' }).1)) from rfl))) ?_
    exact fun a w h => leaveM0  (⟨(ys), by first | exact VIS.old hb1 | exact f1_2.fin (by omega)⟩ : { q' : List Int // VIS us n xs q' }) rfl h rfl

theorem p_needs1 {J : World → Prop} (hJ : Stab J) (M bs bg bv : Nat) (d : Db) (us : List (List Int)) (hd : DownL us) : ∀ (n : Nat) (xs : List Int), n < us.length → FnM (ι := { q' : List Int // VIS us n xs q' }) Tryz.prog J 72 [] [.int (((n : Nat) : Int)), .at bs 0, .at bg 0, .at bv 0] [OB.set keyI M xs, OB.var bs [.lit (.map (some M))], OB.var bg [.ptr [strsC d.consts, strsC d.vars, frsC d.frames, intssC us]], OB.var bv [.lit (.func (.func 72) #[] #[.pointer (some ⟨bs, 0, none⟩), .pointer (some ⟨bg, 0, none⟩), .pointer (some ⟨bv, 0, none⟩)])]] (fun _ => .tup []) (fun i' => [OB.set keyI M (i'.1), OB.var bs [.lit (.map (some M))], OB.var bg [.ptr [strsC d.consts, strsC d.vars, frsC d.frames, intssC us]], OB.var bv [.lit (.func (.func 72) #[] #[.pointer (some ⟨bs, 0, none⟩), .pointer (some ⟨bg, 0, none⟩), .pointer (some ⟨bv, 0, none⟩)])]]) := by
  intro n
  induction n using Nat.strongRecOn with
  | ind n ih =>
    intro xs hn
    exact p_needs1s hJ M bs bg bv d us n xs hd hn fun m' xs' hlt => ih m' hlt xs' (by omega)

theorem p_needs {J : World → Prop} (hJ : Stab J) (d : Db) (us : List (List Int)) (n : Nat) (hd : DownL us) (hn : n < us.length) : FnM (ι := { q' : Nat × List Int // IsReach us n q'.2 }) Tryz.prog J 47 [] [.ptr [strsC d.consts, strsC d.vars, frsC d.frames, intssC us], .int (((n : Nat) : Int))] [] (fun i' => .lit (.map (some (i'.1.1)))) (fun i' => [OB.set keyI (i'.1.1) (i'.1.2)]) := by
 refine fn_enterM (N := 13) Tryz.func47 rfl rfl (lb rfl) fun S w0 R hS hJ0 hH => ?_
 refine tr_weak (B := St All (SO S (R)) w0 13 [(0, .ptr [strsC d.consts, strsC d.vars, frsC d.frames, intssC us]), (1, .int (((n : Nat) : Int)))] (XO J S w0.heap.size (R))) ?_ fun a w h => h
 refine k_seq (tr_text (sq_box1 (c := .ptr [strsC d.consts, strsC d.vars, frsC d.frames, intssC us]) hJ rfl rfl rfl (lb rfl) (fun a w h => (ptr_rd.2 (h.get 0 rfl))) fun b1 => ?_))
 refine sq (.rd (.lit (Go.Value.map none))) rfl rfl (lb rfl) (fun _ _ h => r_assign rfl (Rel.of_lit (Go.Value.map none)) h.x) (sq_end ?_)
 refine kw (lz [1, 3] (env' := [(_, _), (_, _)]) rfl) ?_
 refine nx (k_seq (tr_text (sq_mapS keyI hJ rfl rfl rfl (lb rfl) fun m2 => ?_)))
 refine sq_alloc varC_70_m hJ rfl rfl rfl (lb rfl) fun b3 => ?_
 refine sq_store1 (b := b3) (off := 0) (cs := [.lit (.map none)]) (es := [.lit (.map (some m2))]) hJ hJ0 size_70_1 rfl rfl rfl (lb rfl) rfl (fun a w h => ⟨(h.get 0 rfl), (h.get 1 rfl)⟩) (sq_end ?_)
 refine kw (lz [0, 2, 3] (env' := [(_, _), (_, _), (_, _)]) rfl) ?_
 refine nx (k_seq (tr_text (sq_alloc varC_91_f hJ rfl rfl rfl (lb rfl) fun b4 => ?_)))
 refine sq_end (nx (k_seq (tr_text (sq (.lit (.func (.func 72) #[] #[.pointer (some ⟨b3, 0, none⟩), .pointer (some ⟨b1, 0, none⟩), .pointer (some ⟨b4, 0, none⟩)])) rfl rfl (lb rfl) (fun _ _ h => r_makeClo (caps := [(Go.Operand.tmp 5), (Go.Operand.tmp 2), (Go.Operand.tmp 6)]) rfl (map_cons (h.get 1 rfl).lit (map_cons (h.get 2 rfl).lit (map_cons (h.get 0 rfl).lit map_nil))) h.x) (sq_store1 (b := b4) (off := 0) (cs := [.lit .nilFunc]) (es := [.lit (.func (.func 72) #[] #[.pointer (some ⟨b3, 0, none⟩), .pointer (some ⟨b1, 0, none⟩), .pointer (some ⟨b4, 0, none⟩)])]) hJ hJ0 size_91_1 rfl rfl rfl (lb rfl) rfl (fun a w h => ⟨(h.get 1 rfl), (h.get 0 rfl)⟩) (sq_end ?_))))))
 refine kw (lz [1, 2, 4] (env' := [(_, _), (_, _), (_, _)]) rfl) ?_
 refine nx (k_seq (tr_text (sq (.lit (.func (.func 72) #[] #[.pointer (some ⟨b3, 0, none⟩), .pointer (some ⟨b1, 0, none⟩), .pointer (some ⟨b4, 0, none⟩)])) rfl rfl (lb rfl) (fun _ _ h => r_loadV1 (cs := [.lit (.func (.func 72) #[] #[.pointer (some ⟨b3, 0, none⟩), .pointer (some ⟨b1, 0, none⟩), .pointer (some ⟨b4, 0, none⟩)])]) one_91 rfl (own_now h.x (mo 0 rfl)) (h.get 0 rfl) rfl h.x) (sv tb rfl rfl rfl rfl ?_))))
 refine kw pm3 ?_
 refine kw pm2 ?_
 refine kw pm3 ?_
 refine sq_fnv (O := [OB.set keyI m2 ([] : List Int), OB.var b3 [.lit (.map (some m2))], OB.var b1 [.ptr [strsC d.consts, strsC d.vars, frsC d.frames, intssC us]], OB.var b4 [.lit (.func (.func 72) #[] #[.pointer (some ⟨b3, 0, none⟩), .pointer (some ⟨b1, 0, none⟩), .pointer (some ⟨b4, 0, none⟩)])]]) (R := (R)) [.int (((n : Nat) : Int))] [.pointer (some ⟨b3, 0, none⟩), .pointer (some ⟨b1, 0, none⟩), .pointer (some ⟨b4, 0, none⟩)] [.at b3 0, .at b1 0, .at b4 0] (p_needs1 hJ (M := m2) (bs := b3) (bg := b1) (bv := b4) (d := d) (us := us) (n := n) (xs := ([] : List Int)) (hd) (hn)) call_72 rfl rfl rfl (lb rfl) hS hJ0 has_nil (fun a w h => (h.get 1 rfl).lit) (fun a w h => (relL_cons (h.get 0 rfl) relL_nil)) (fun w => (relL_cons (Rel.of_lit (.pointer (some ⟨b3, 0, none⟩))) (relL_cons (Rel.of_lit (.pointer (some ⟨b1, 0, none⟩))) (relL_cons (Rel.of_lit (.pointer (some ⟨b4, 0, none⟩))) relL_nil)))) fun z5 => ?_
 refine sq_end ?_
 refine kw (lz [4] (env' := [(_, _)]) rfl) ?_
 refine nx (k_seq (rgo tb hJ [1001] [.lit (.map (some m2)), _] [0] [(_, .lit (.map (some m2)))] rfl rfl rfl rfl ⟨fun _ _ _ hx hl _ => r_loadV1 (cs := [.lit (.map (some m2))]) one_70 rfl (own_now hx (mo 1 rfl)) (hl.env 0 5 _ rfl rfl) rfl hx, trivial⟩ (nx ?_)))
 refine tw pm1 ?_
 refine tw st_drop ?_
 refine tw pm1 ?_
 refine tw st_drop ?_
 refine tw pm1 ?_
 refine tw st_drop ?_
 refine tw (ob0 (congrArg (fun z' => OB.set keyI m2 (z')) (show z5.1 = (((⟨(m2, z5.1), z5.2.reach⟩ : { q' : Nat × List Int // IsReach us n q'.2 }).1.2)) from rfl))) ?_
 refine tr_ret (fun a w h => leaveM1  (m := 0) (⟨(m2, z5.1), z5.2.reach⟩ : { q' : Nat × List Int // IsReach us n q'.2 }) rfl h rfl rfl)

end Go.Proofs.YtnpgmdffjemnbaaGreatDoor
namespace Go.Proofs.YtnpgmdffjemnbaaGreatDoor

def isN (n : Int) (x : Int) : Bool := decide (n = x)
theorem any_isN (n : Int) (xs : List Int) : xs.any (isN n) = decide (n ∈ xs) := by
  rw [Bool.eq_iff_iff, List.any_eq_true, decide_eq_true_eq]
  exact ⟨fun ⟨x, hx, h⟩ => by rw [of_decide_eq_true h]; exact hx, fun h => ⟨n, h, decide_eq_true rfl⟩⟩
open Classical in
/-- What n needs, ascending, without n. -/
noncomputable def nedL (us : List (List Int)) (n : Nat) : List Int := ((List.range n).filter fun (p : Nat) => decide (Rch us n (p : Int))).map fun (p : Nat) => (p : Int)
open Classical in
theorem nedL_mem {us : List (List Int)} {n : Nat} {x : Int} : x ∈ nedL us n ↔ 0 ≤ x ∧ x < n ∧ Rch us n x := by
  unfold nedL
  rw [List.mem_map]
  constructor
  · rintro ⟨p, hp, rfl⟩
    rw [List.mem_filter, List.mem_range, decide_eq_true_eq] at hp
    exact ⟨by omega, by omega, hp.2⟩
  · rintro ⟨h1, h2, h3⟩
    refine ⟨x.toNat, ?_, by omega⟩
    rw [List.mem_filter, List.mem_range, decide_eq_true_eq, show ((x.toNat : Nat) : Int) = x by omega]
    exact ⟨by omega, h3⟩
open Classical in
theorem nedL_asc (us : List (List Int)) (n : Nat) : (nedL us n).Pairwise (· < ·) := by
  unfold nedL
  rw [List.pairwise_map]
  refine List.Pairwise.imp (R := (· < ·)) (fun {a b} h => by omega) ?_
  exact List.pairwise_lt_range.filter _
open Classical in
theorem nedL_len (us : List (List Int)) (n : Nat) : (nedL us n).length ≤ n := by
  rw [nedL, List.length_map]
  exact Nat.le_trans (List.length_filter_le _ _) (by simp)
theorem reach_in {us : List (List Int)} {n : Nat} {ys : List Int} (h : IsReach us n ys) (hd : DownL us) : ∀ x ∈ ys, 0 ≤ x ∧ x ≤ n := fun x hx => ((h.iff x).1 hx).le hd (by omega)
theorem reach_len {us : List (List Int)} {n : Nat} {ys : List Int} (h : IsReach us n ys) (hd : DownL us) : ys.length ≤ n + 1 := by
  have := nodup_leI h.nod (ys := (List.range (n + 1)).map fun (p : Nat) => (p : Int)) fun x hx => by
    have := reach_in h hd x hx
    rw [List.mem_map]
    exact ⟨x.toNat, by rw [List.mem_range]; omega, by omega⟩
  simpa using this
theorem reach_ned {us : List (List Int)} {n : Nat} {ys : List Int} (h : IsReach us n ys) (hd : DownL us) : sortI (ys.erase (n : Int)) = nedL us n := by
  refine sort_asc (h.nod.erase _) (nedL_asc us n) fun x => ?_
  rw [h.nod.mem_erase_iff, h.iff, nedL_mem]
  constructor
  · rintro ⟨h1, h2⟩
    have := h2.le hd (by omega)
    exact ⟨this.1, by omega, h2⟩
  · rintro ⟨h1, h2, h3⟩
    exact ⟨by omega, h3⟩
end Go.Proofs.YtnpgmdffjemnbaaGreatDoor
set_option maxHeartbeats 8000000
set_option maxRecDepth 100000
namespace Go.Proofs.YtnpgmdffjemnbaaGreatDoor
open Go.RowKit

theorem p_IndexI {J : World → Prop} (hJ : Stab J) (xs : List Int) (n : Int)  : Fn Tryz.prog J 26 [.rd (intsC xs), .int n] (.int (idxF (isN n) xs)) := by
 refine fn_enter (N := 19) Tryz.func26 rfl rfl (lb rfl) fun S w0 hS hJ0 => ?_
 clear hJ0
 refine tr_fact (fun a w h => len_le h 0 rfl) fun hl1 => k_seq (rg tb hJ [0, 1] [_] [] [(_, _), (_, _)] rfl rfl rfl rfl trivial (nx (k_seq (k_seq (rg tb hJ [0, 1, 1001, 1002] [_, _, _] [1] [(_, _), (_, _), (_, .int (((xs.length : Nat) : Int))), (_, .int (0 : Int))] rfl rfl rfl rfl ⟨hLen unds_28_3 rfl rfl rfl rfl, trivial⟩ (nx (tr_block (tr_loop (ι := Nat) (fun (k : Nat) a w => ((k ≤ xs.length) ∧ (∀ j, j < k → isN n (ge xs j) = false)) ∧ St All S w0 19 [(0, .rd (intsC xs)), (1, .int n), (7, .int (((xs.length : Nat) : Int))), (8, .int (((k : Nat) : Int)))] J a w) (fun (k : Nat) => (xs.length - k : Nat)) ?_ ?_))))))))
 ·
  intro a w h
  exact ⟨0, (show (0 ≤ xs.length) ∧ (∀ j, j < 0 → isN n (ge xs j) = false) from ⟨Nat.zero_le _, fun j hj => by omega⟩), lz [0, 1, 2, 3] rfl h⟩
 ·
  rintro k
  refine tr_and fun hF => ?_
  obtain ⟨f1_1, f1_2⟩ := hF
  refine k_seq (rg tb hJ [0, 1, 2, 3, 1000] [_] [] [(_, _), (_, _), (_, _), (_, _), (_, .bool (decide (((k : Nat) : Int) < ((xs.length : Nat) : Int))))] rfl rfl rfl rfl trivial (nx (k_seq (tc 4 rfl rfl (fun hb1 => ?_) (fun hb1 => ?_)))))
  ·
   try simp at hb1
   refine tr_skip (nx (k_seq (tr_block (k_seq (rg tb hJ [0, 1, 2, 3, 1001] [_, _] [] [(_, _), (_, _), (_, _), (_, _), (_, .int (((k : Nat) : Int)))] rfl rfl rfl rfl trivial (nx (k_seq (rg tb hJ [0, 1, 2, 3, 4, 1005] [_, _, _, .ptr [.lit (.int .i64 (ge xs k))], _, _] [3] [(_, _), (_, _), (_, _), (_, _), (_, _), (_, .bool (decide (n = (ge xs k))))] rfl rfl rfl rfl ⟨hIx elem_28_3_1 (by first | omega | (simp; omega) | grind [ge_mem]) rfl rfl rfl rfl rfl rfl, trivial⟩ (nx (tc 5 rfl rfl (fun hb2 => ?_) (fun hb2 => ?_)))))))))))
   ·
    try simp at hb2
    refine k_seq (rg tb hJ [1001] [_, _] [] [(_, .int (((k : Nat) : Int)))] rfl rfl rfl rfl trivial (nx (tr_ret (fun a w h => leave1' (m := 0) rfl h rfl (congrArg AV.int (show (((k : Nat) : Int)) = (idxF (isN n) xs) from by first | exact (idxF_hit hb1 (by simpa [isN] using hb2) f1_2).symm | exact (idxF_none fun j hj => f1_2 j (by omega)).symm))))))
   ·
    try simp at hb2
    refine tr_skip (nx (rg tb hJ [0, 1, 2, 1001] [.int (((k + 1 : Nat) : Int)), _] [0] [(_, _), (_, _), (_, _), (_, .int (((k + 1 : Nat) : Int)))] rfl rfl rfl rfl ⟨hAdd (by first | omega | (simp; omega) | grind [ge_mem]) rfl rfl rfl rfl rfl, trivial⟩ ?_))
    intro a w h; change ∃ j, _ ∧ _
    exact ⟨k + 1, ⟨⟨(show (k + 1) ≤ xs.length from by omega), (show ∀ j, j < (k + 1) → isN n (ge xs j) = false from step_all f1_2 (by simpa [isN] using hb2))⟩, lz [0, 1, 2, 3] rfl h⟩, (show xs.length - (k + 1) < xs.length - k from by first | omega | (simp; omega))⟩
  ·
   try simp at hb1
   refine tr_exit (nx (k_seq (rg tb hJ [1000] [_] [] [(_, .int (-1 : Int))] rfl rfl rfl rfl trivial (nx (tr_ret (fun a w h => leave1' (m := 0) rfl h rfl (congrArg AV.int (show (-1 : Int) = (idxF (isN n) xs) from by first | exact (idxF_hit hb1 (by simpa [isN] using hb2) f1_2).symm | exact (idxF_none fun j hj => f1_2 j (by omega)).symm))))))))

theorem p_ContainsI {J : World → Prop} (hJ : Stab J) (xs : List Int) (n : Int)  : Fn Tryz.prog J 24 [.rd (intsC xs), .int n] (.bool (decide (n ∈ xs))) := by
 refine fn_enter (N := 9) Tryz.func24 rfl rfl (lb rfl) fun S w0 hS hJ0 => ?_
 clear hJ0
 refine tr_fact (fun a w h => len_le h 0 rfl) fun hl1 => k_seq (rg tb hJ [0, 1] [_] [] [(_, _), (_, _)] rfl rfl rfl rfl trivial (nx (k_seq (rg tb hJ [1004] [_, _, .int (idxF (isN n) xs), _, _] [2] [(_, .bool (decide ((0 : Int) ≤ idxF (isN n) xs)))] rfl rfl rfl rfl ⟨hFn hS hJ (p_IndexI hJ (xs := xs) (n := n) ) call_26 rfl rfl rfl rfl, trivial⟩ (nx (tr_ret (fun a w h => leave1' (m := 0) rfl h rfl (congrArg AV.bool (show (decide ((0 : Int) ≤ idxF (isN n) xs)) = (decide (n ∈ xs)) from by rw [idxF_any, any_isN])))))))))

theorem p_Uses {J : World → Prop} (hJ : Stab J) (d : Db) (i : Int) (hw : ∀ f ∈ d.frames, f.wide.length * 32 ≤ 140737488351232) (hG : FormsJ J) : Fn Tryz.prog J 10 [.agg (dbC d), .int i] (.tup [.rd (intsC (if chdE d i = 0 then usesD d i.toNat else [])), .int (chdE d i)]) := by
 refine fn_enter (N := 25) Tryz.func10 rfl rfl (lb rfl) fun S w0 hS hJ0 => ?_
 refine tw st_own ?_
 refine k_seq (rgo tb hJ [1, 1000] [_, _, _] [0] [(_, _), (_, .ptr (dbC d))] rfl rfl rfl rfl ⟨fun _ _ hk hx hl _ => r_box rfl (hl.env 0 0 _ rfl rfl) (xo_new hS _ hk hx _ (Nat.le_refl _)) (jo hJ hx), trivial⟩ (nx (k_seq (rgo tb hJ [0, 1002, 1007, 1008] [_, _, _, .tup [gAV (rdE d ([i])) [strsC d.consts, strsC d.vars, frsC d.frames, intssC (usL d d.frames.length)], .int (rdE d ([i]))], _, _, _, _, _] [2, 3] [(_, _), (_, .rd (intsC ([i]))), (_, gAV (rdE d ([i])) [strsC d.consts, strsC d.vars, frsC d.frames, intssC (usL d d.frames.length)]), (_, .int (rdE d ([i])))] rfl rfl rfl rfl ⟨fun _ _ hk hx hl _ => r_build1 elem_28_3_1 zero_3 rfl (hl.dep 1 10 _ rfl rfl rfl rfl) (xo_new hS _ hk hx _ (Nat.le_refl _)) (jo hJ hx), hFo hS hJ (p_read hJ (d := d) (ns := ([i])) (hw) (hG)) call_43 rfl rfl rfl rfl, trivial⟩ (nx (tr_fact (fun a w h => len_le h 1 rfl) fun hl1 => k_seq (k_seq (rgo tb hJ [0, 2, 3, 1001] [_, _] [] [(_, _), (_, _), (_, _), (_, .bool (!decide (rdE d ([i]) = (0 : Int))))] rfl rfl rfl rfl trivial (nx (tc 3 rfl rfl (fun hb1 => ?_) (fun hb1 => ?_)))))))))))
 ·
  have c1 : ¬ chdE d i = 0 := by rw [← rdE_one]; exact nd_t hb1
  refine k_seq (rgo tb hJ [1001, 1002] [_, _, _] [] [(_, .lit (.slice none 0 0)), (_, .int (rdE d ([i])))] rfl rfl rfl rfl trivial (nx ?_))
  refine tw (fun h => st_nilrd h (m := 0) (s := 4) rfl) ?_
  refine tr_ret (fun a w h => leave2' (m := 0) (k := 1) rfl (st_disown h) rfl rfl (congrArg (fun z => AV.rd (intsC z)) (show ([] : List Int) = (if chdE d i = 0 then usesD d i.toNat else []) from by first | exact rdE_one d i | exact c0.symm | (rw [if_neg c1]; done) | (rw [if_pos c0, usL_at (by omega)]; done))) (congrArg AV.int (show (rdE d ([i])) = (chdE d i) from by first | exact rdE_one d i | exact c0.symm | (rw [if_neg c1]; done) | (rw [if_pos c0, usL_at (by omega)]; done))))
 ·
  have c0 : chdE d i = 0 := by rw [← rdE_one]; exact nd_f hb1
  have c2 := chdE_range c0
  have c3 := chkE_size c2.1
  refine tw (sa 1 rfl (show (gAV (rdE d ([i])) [strsC d.consts, strsC d.vars, frsC d.frames, intssC (usL d d.frames.length)] : AV) = .ptr [strsC d.consts, strsC d.vars, frsC d.frames, intssC (usL d d.frames.length)] from gAV_ok (by rw [rdE_one]; exact c0))) ?_
  refine tr_skip (nx (k_seq (rgo tb hJ [1003, 1006, 1007, 1008] [_, _, _, _, _, .ptr [intsC ((ge (usL d d.frames.length) i.toNat))], _, _, _] [5] [(_, .rd (intssC (usL d d.frames.length))), (_, .rd (intsC ((ge (usL d d.frames.length) i.toNat)))), (_, .rd (intsC ((ge (usL d d.frames.length) i.toNat)))), (_, .int (0 : Int))] rfl rfl rfl rfl ⟨hIz elem_44_28_1 (by first | omega | (rw [usL_len]; omega)) (by first | omega | (rw [usL_len]; omega)) rfl rfl rfl rfl rfl rfl, trivial⟩ (nx (tr_fact (fun a w h => len_le h 0 rfl) fun hl2 => tr_fact (fun a w h => len_le h 1 rfl) fun hl3 => tr_ret (fun a w h => leave2' (m := 2) (k := 3) rfl (st_disown h) rfl rfl (congrArg (fun z => AV.rd (intsC z)) (show ((ge (usL d d.frames.length) i.toNat)) = (if chdE d i = 0 then usesD d i.toNat else []) from by first | exact rdE_one d i | exact c0.symm | (rw [if_neg c1]; done) | (rw [if_pos c0, usL_at (by omega)]; done))) (congrArg AV.int (show (0 : Int) = (chdE d i) from by first | exact rdE_one d i | exact c0.symm | (rw [if_neg c1]; done) | (rw [if_pos c0, usL_at (by omega)]; done)))))))))

end Go.Proofs.YtnpgmdffjemnbaaGreatDoor
set_option maxHeartbeats 8000000
set_option maxRecDepth 100000
namespace Go.Proofs.YtnpgmdffjemnbaaGreatDoor
open Go.RowKit

theorem p_sortedM {J : World → Prop} (hJ : Stab J) (M : Nat) (xs : List Int) (hx : ∀ x ∈ xs, 0 ≤ x ∧ x < 1000) (hl : xs.length ≤ 1000) : FnM (ι := Value) Tryz.prog J 48 [] [.lit (.map (some M))] [OB.set keyI M xs] (fun i' => .lit i') (fun i' => [OB.row i' 3 1 ((sortI xs).map intC), OB.set keyI M xs]) := by
  intro S w0 R w vs hS hJ0 _ hk0 hxo ha
  simp only [RelL] at ha
  obtain ⟨u, us, rfl, h1, rfl⟩ := ha
  rw [h1.lit]
  have hi := hxo.2.1 (OB.set keyI M xs) (by simp)
  obtain ⟨D0, hown, hp, hsz⟩ := set_owns hi (fun x hxx => by have := hx x hxx; simp [Lit.wf, IntKind.min, IntKind.max, IntKind.bits, IntKind.signed]; omega) (by unfold maxLen; omega)
  refine (sorted_c M xs.length D0 _ w hown (by rw [hsz]; unfold maxLen; omega) (by rw [hsz]; omega)).mono fun e w' ⟨v, ss, he, hS', hrow, _, hb⟩ => ?_
  have hk : Keeps All w w' := (Keeps.of_below hb).sub fun k hk _ => hk
  have e0 : ss.mergeSort (fun x y => decide (x ≤ y)) = sortI xs := mergeSort_of_perm_i (hS'.trans hp)
  rw [e0] at hrow
  have hlen : (sortI xs).length = ss.length := by rw [← e0, List.length_mergeSort]
  have hcells : ∀ (S : Nat → Prop) (w : World) (l : List Int), RdL S w ((l.map intC).flatten) (l.map encZ) := by
    intro S w l
    induction l with
    | nil => trivial
    | cons x l ih => exact ⟨.lit _ True.intro, ih⟩
  have hinv : ∀ lo S, lo ≤ w.heap.size → (OB.row v 3 1 ((sortI xs).map intC)).inv lo S w' := fun lo S hlo => ⟨(sortI xs).map encZ, by rw [List.length_map, hlen]; exact ownsRow_base_a hrow hlo, hcells S w' _, fun r hr => by obtain ⟨x, _, rfl⟩ := List.mem_map.1 hr; rfl⟩
  have hadd := step_add (o := OB.row v 3 1 ((sortI xs).map intC)) hJ hk0 hxo hk (fun k hb => ((OB.row v 3 1 ((sortI xs).map intC)).lt (hinv w.heap.size All (Nat.le_refl _)) k hb).1) (hinv _ _ hk0.size)
  exact ⟨v, v, he, Rel.of_lit _ (row_lit (hinv w.heap.size All (Nat.le_refl _))), hadd.1, hadd.2.1⟩

theorem p_Needs {J : World → Prop} (hJ : Stab J) (d : Db) (i : Int) (hw : ∀ f ∈ d.frames, f.wide.length * 32 ≤ 140737488351232) (hG : FormsJ J) : FnM (ι := Value) Tryz.prog J 15 [] [.agg (dbC d), .int i] [] (fun i' => .tup [.lit (i'), .int (chdE d i)]) (fun i' => [OB.row i' 3 1 (((if chdE d i = 0 then nedL (usL d d.frames.length) i.toNat else [])).map intC)]) := by
 refine fn_enterM (N := 26) Tryz.func15 rfl rfl (lb rfl) fun S w0 R hS hJ0 hH => ?_
 refine tr_weak (B := St All (SO S (R)) w0 26 [(0, .agg (dbC d)), (1, .int i)] (XO J S w0.heap.size (R))) ?_ fun a w h => h
 refine k_seq (rgo tb hJ [1, 1000] [_, _, _] [0] [(_, _), (_, .ptr (dbC d))] rfl rfl rfl rfl ⟨fun _ _ hk hx hl _ => r_box rfl (hl.env 0 0 _ rfl rfl) (xo_new hS _ hk hx _ (Nat.le_refl _)) (jo hJ hx), trivial⟩ (nx (k_seq (rgo tb hJ [0, 1002, 1007, 1008] [_, _, _, .tup [gAV (rdE d ([i])) [strsC d.consts, strsC d.vars, frsC d.frames, intssC (usL d d.frames.length)], .int (rdE d ([i]))], _, _, _, _, _] [2, 3] [(_, _), (_, .rd (intsC ([i]))), (_, gAV (rdE d ([i])) [strsC d.consts, strsC d.vars, frsC d.frames, intssC (usL d d.frames.length)]), (_, .int (rdE d ([i])))] rfl rfl rfl rfl ⟨fun _ _ hk hx hl _ => r_build1 elem_28_3_1 zero_3 rfl (hl.dep 1 11 _ rfl rfl rfl rfl) (xo_new hS _ hk hx _ (Nat.le_refl _)) (jo hJ hx), hFo hS hJ (p_read hJ (d := d) (ns := ([i])) (hw) (hG)) call_43 rfl rfl rfl rfl, trivial⟩ (nx (tr_fact (fun a w h => len_le h 1 rfl) fun hl1 => k_seq (k_seq (rgo tb hJ [0, 2, 3, 1001] [_, _] [] [(_, _), (_, _), (_, _), (_, .bool (!decide (rdE d ([i]) = (0 : Int))))] rfl rfl rfl rfl trivial (nx (tc 3 rfl rfl (fun hb1 => ?_) (fun hb1 => ?_)))))))))))
 ·
  have c1 : ¬ chdE d i = 0 := by rw [← rdE_one]; exact nd_t hb1
  refine k_seq (rgo tb hJ [1001, 1002] [_, _, _] [] [(_, .lit (.slice none 0 0)), (_, .int (rdE d ([i])))] rfl rfl rfl rfl trivial (nx ?_))
  refine tw (st_add_nil 3 1 hJ) ?_
  refine tw (ob0 (congrArg (fun z' => OB.row (.slice none 0 0) 3 1 ((z').map intC)) (show ([] : List Int) = (((if chdE d i = 0 then nedL (usL d d.frames.length) i.toNat else []))) from by first | (rw [if_neg c1]; done) | (rw [if_pos c0]; exact reach_ned z1.2 (usL_down _ _))))) ?_
  refine tr_ret (fun a w h => leaveM2  (m := 0) (k := 1) (.slice none 0 0) rfl h rfl rfl (tup2 rfl (congrArg AV.int (show (rdE d ([i])) = (chdE d i) from by first | exact rdE_one d i | exact c0.symm))))
 ·
  have c0 : chdE d i = 0 := by rw [← rdE_one]; exact nd_f hb1
  have c2 := chdE_range c0
  have c3 := chkE_size c2.1
  refine tw (sa 1 rfl (show (gAV (rdE d ([i])) [strsC d.consts, strsC d.vars, frsC d.frames, intssC (usL d d.frames.length)] : AV) = .ptr [strsC d.consts, strsC d.vars, frsC d.frames, intssC (usL d d.frames.length)] from gAV_ok (by rw [rdE_one]; exact c0))) ?_
  refine tr_skip (nx (k_seq ?_))
  refine tw (sa 0 rfl (congrArg AV.int (show i = ((i.toNat : Nat) : Int) from by omega))) ?_
  refine tr_text (sv tb rfl rfl rfl rfl (sv tb rfl rfl rfl rfl (sq_fn (O := []) (R := (R)) (p_needs hJ (d := d) (us := (usL d d.frames.length)) (n := i.toNat) (usL_down _ _) (by rw [usL_len]; omega)) call_47 rfl rfl rfl (lb rfl) hS hJ0 has_nil (fun a w h => (relL_cons (h.get 1 rfl) (relL_cons (h.get 0 rfl) relL_nil))) fun z1 => ?_)))
  refine sv tb rfl rfl rfl rfl (sq_end ?_)
  refine kw (lz [0, 4] (env' := [(_, _), (_, _)]) rfl) ?_
  refine nx (k_seq (tr_text (sv tb rfl rfl rfl rfl (sv tb rfl rfl rfl rfl (sq_delS mapT_70_3_4 hJ hJ0 (((i.toNat : Nat) : Int)) rfl rfl (fun a w h => ⟨(h.get 1 rfl), (h.get 0 rfl)⟩) rfl (sq_end ?_))))))
  refine kw (lz [2] (env' := [(_, _)]) rfl) ?_
  refine nx (k_seq (tr_text (sv tb rfl rfl rfl rfl (sq_fn (O := [OB.set keyI z1.1.1 (z1.1.2.erase (((i.toNat : Nat) : Int)))]) (R := (R)) (p_sortedM hJ (M := z1.1.1) (xs := (z1.1.2.erase (((i.toNat : Nat) : Int)))) (fun x hx => by have := reach_in z1.2 (usL_down _ _) x (List.mem_of_mem_erase hx); omega) (by have := reach_len z1.2 (usL_down _ _); have := List.length_erase_le (a := ((i.toNat : Nat) : Int)) (l := z1.1.2); omega)) call_48 rfl rfl rfl (lb rfl) hS hJ0 has_nil (fun a w h => (relL_cons (h.get 0 rfl) relL_nil)) fun z2 => ?_))))
  refine sv tb rfl rfl rfl rfl (sv tb rfl rfl rfl rfl (sq_end ?_))
  refine kw (lz [0, 1] (env' := [(_, _), (_, _)]) rfl) ?_
  refine nx ?_
  refine tw pm1 ?_
  refine tw st_drop ?_
  refine tw (ob0 (congrArg (fun z' => OB.row z2 3 1 ((z').map intC)) (show ((sortI (z1.1.2.erase (((i.toNat : Nat) : Int))))) = (((if chdE d i = 0 then nedL (usL d d.frames.length) i.toNat else []))) from by first | (rw [if_neg c1]; done) | (rw [if_pos c0]; exact reach_ned z1.2 (usL_down _ _))))) ?_
  refine tr_ret (fun a w h => leaveM2  (m := 1) (k := 0) z2 rfl h rfl rfl (tup2 rfl (congrArg AV.int (show (0 : Int) = (chdE d i) from by first | exact rdE_one d i | exact c0.symm))))

end Go.Proofs.YtnpgmdffjemnbaaGreatDoor
namespace Go.Proofs.YtnpgmdffjemnbaaGreatDoor

/-- What can be reached from a without one of them. -/
inductive RchW (us : List (List Int)) (wo : Int) (a : Int) : Int → Prop where
  | refl : RchW us wo a a
  | snoc (r b : Int) (h : RchW us wo a r) (h1 : r ≠ wo) (h2 : b ∈ ge us r.toNat) (h3 : b ≠ wo) : RchW us wo a b
theorem RchW.le {us : List (List Int)} (hd : DownL us) {wo a b : Int} (h : RchW us wo a b) (ha : 0 ≤ a) : 0 ≤ b ∧ b ≤ a := by
  induction h with
  | refl => exact ⟨ha, Int.le_refl _⟩
  | snoc r b _ _ h2 _ ih =>
    have := hd _ b h2
    omega
theorem RchW.all {us : List (List Int)} (hd : DownL us) {a b : Int} (ha : 0 ≤ a) : RchW us (-1) a b ↔ Rch us a b := by
  constructor
  · intro h
    induction h with
    | refl => exact .refl _
    | snoc r b _ _ h2 _ ih => exact ih.trans (.one h2)
  · intro h
    have key : ∀ x y, Rch us x y → RchW us (-1) a x → RchW us (-1) a y := by
      intro x y hxy
      induction hxy with
      | refl => exact id
      | step i x y hx _ ih => exact fun hi => ih (.snoc _ _ hi (by have := hi.le hd ha; omega) hx (by have := hd _ x hx; omega))
    exact key _ _ h .refl
section
variable {us : List (List Int)} {wo : Int} {i q : Nat} {mk : List Bool}
end
end Go.Proofs.YtnpgmdffjemnbaaGreatDoor
namespace Go.Proofs.YtnpgmdffjemnbaaGreatDoor

/-- All that n reaches, ascending. -/
noncomputable def rchL (us : List (List Int)) (n : Nat) : List Int := nedL us n ++ [(n : Int)]
theorem reach_all {us : List (List Int)} {n : Nat} {ys : List Int} (h : IsReach us n ys) (hd : DownL us) : sortI ys = rchL us n := by
  refine sort_asc h.nod ?_ fun x => ?_
  · unfold rchL
    rw [List.pairwise_append]
    exact ⟨nedL_asc us n, by simp, fun a ha b hb => by rw [List.mem_singleton.1 hb]; exact (nedL_mem.1 ha).2.1⟩
  · rw [h.iff, rchL, List.mem_append, nedL_mem, List.mem_singleton]
    constructor
    · intro hx
      have := hx.le hd (by omega)
      by_cases e : x = n
      · exact .inr e
      · exact .inl ⟨this.1, by omega, hx⟩
    · rintro (⟨_, _, h3⟩ | rfl)
      · exact h3
      · exact .refl _
theorem rchL_len (us : List (List Int)) (n : Nat) : (rchL us n).length ≤ n + 1 := by
  have := nedL_len us n
  simp [rchL]; omega
theorem rchL_mem {us : List (List Int)} {n : Nat} {x : Int} (h : x ∈ rchL us n) : 0 ≤ x ∧ x ≤ n := by
  rcases List.mem_append.1 h with h | h
  · have := nedL_mem.1 h; omega
  · rw [List.mem_singleton.1 h]; omega
theorem downL_set {us : List (List Int)} (hd : DownL us) (i : Nat) : DownL (us.set i []) := fun k x hx => by
  by_cases hi : i < us.length
  · rw [ge_set hi] at hx
    split at hx
    · simp at hx
    · exact hd k x hx
  · rw [List.set_eq_of_length_le (by omega)] at hx
    exact hd k x hx
open Classical in
noncomputable def mstP (us : List (List Int)) (f t : Nat) (i : Int) : Bool := (!decide (i = f) && !decide (i = t)) && !decide (Rch (us.set i.toNat []) f t)
theorem mstP_no {us : List (List Int)} {f t : Nat} {i : Int} (h : (decide (i = f) || decide (i = t)) = true) : mstP us f t i = false := by rw [mstP, ← Bool.not_or, h]; rfl
open Classical in
theorem mstP_yes {us : List (List Int)} {f t : Nat} {i : Int} (h : (decide (i = f) || decide (i = t)) = false) (hr : ¬ Rch (us.set i.toNat []) f t) : mstP us f t i = true := by rw [mstP, ← Bool.not_or, h, decide_eq_false hr]; rfl
open Classical in
theorem mstP_not {us : List (List Int)} {f t : Nat} {i : Int} (h : (decide (i = f) || decide (i = t)) = false) (hr : Rch (us.set i.toNat []) f t) : mstP us f t i = false := by rw [mstP, ← Bool.not_or, h, decide_eq_true hr]; rfl
noncomputable def mstL (us : List (List Int)) (f t : Nat) : List Int := (rchL us f).filter (mstP us f t)
open Classical in
noncomputable def mstE (d : Db) (f t : Int) : Int := if !decide (rdE d [f, t] = 0) then rdE d [f, t] else if !decide (Rch (usL d d.frames.length) f t) then 5 else 0
theorem rdE_two {d : Db} {f t : Int} (h : rdE d [f, t] = 0) : chkE d = 0 ∧ (0 ≤ f ∧ f < d.frames.length) ∧ 0 ≤ t ∧ t < d.frames.length := by
  unfold rdE at h
  by_cases h1 : chkE d = 0
  · rw [if_neg (by simp [h1])] at h
    by_cases h2 : ([f, t].any fun i => decide (i < 0) || decide (((d.frames.length : Nat) : Int) ≤ i)) = true
    · rw [if_pos h2] at h; exact absurd h (by decide)
    · simp only [List.any_cons, List.any_nil, Bool.or_false, Bool.or_eq_true, decide_eq_true_eq, not_or] at h2
      exact ⟨h1, by omega, by omega⟩
  · rw [if_pos (by simp [h1])] at h
    exact absurd h h1
end Go.Proofs.YtnpgmdffjemnbaaGreatDoor
set_option maxHeartbeats 8000000
set_option maxRecDepth 100000
namespace Go.Proofs.YtnpgmdffjemnbaaGreatDoor
open Go.RowKit

theorem p_CloneL {J : World → Prop} (hJ : Stab J) (xs : List (List Int)) (b : xs.length * 24 ≤ 140737488351232) : FnM (ι := Value) Tryz.prog J 56 [] [.rd (intssC xs)] [] (fun i' => .lit (i')) (fun i' => [OB.row i' 28 1 (xs.map ints1C)]) := by
 refine fn_enterM (N := 8) Tryz.func56 rfl rfl (lb rfl) fun S w0 R hS hJ0 hH => ?_
 refine tr_weak (B := St All (SO S (R)) w0 8 [(0, .rd (intssC xs))] (XO J S w0.heap.size (R))) ?_ fun a w h => h
 refine tr_fact (fun a w h => len_le h 0 rfl) fun hl1 => k_seq (rgo tb hJ [0] [_] [] [(_, _)] rfl rfl rfl rfl trivial (nx (k_seq (k_seq (tr_text (sv tb rfl rfl rfl rfl (sq_isNil (f := ints1C) (xs := xs) unds_44_28 rfl rfl rfl (lb rfl) (fun a w h => (h.get 0 rfl)) fun g1 hg1 => ?_)))))))
 refine sq_end ?_
 refine kw (lz [0, 2] (env' := [(_, _), (_, _)]) rfl) ?_
 refine nx (tc 0 rfl rfl (fun hb1 => ?_) (fun hb1 => ?_))
 ·
  try simp at hb1
  refine k_seq (rgo tb hJ [1000] [_] [] [(_, .lit (.slice none 0 0))] rfl rfl rfl rfl trivial (nx ?_))
  refine tw (st_add_nil 28 1 hJ) ?_
  refine tw (ob0 (congrArg (fun z' => OB.row (.slice none 0 0) 28 1 ((z').map ints1C)) (show (([] : List (List Int))) = xs from by first | exact (hg1 (by assumption)).symm | simp))) ?_
  refine tr_ret (fun a w h => leaveM1  (m := 0) (.slice none 0 0) rfl h rfl rfl)
 ·
  try simp at hb1
  refine tr_skip (nx (k_seq ?_))
  refine fun a w h => region_C (id := 3) (t := 44) (e := 28) (size := 1) (bytes := 24) (i0 := 0) (fol := 3) (d := 2) (ch := [(2, (xs.map ints1C))]) (fun ix' => ([.any, .rd (intssC xs), .any, .any] : List AV).getD ix' .any) (fun ix' => ([true, true, true, true] : List Bool).getD ix' true) [] (xs.map ints1C) (by simp) ?r3_1 hJ hJ0 h mixedE rfl rfl rfl rfl ⟨?o3_1_0, ⟨?o3_1_1, ⟨?o3_1_2, ⟨?o3_1_3, trivial⟩⟩⟩⟩ trivial (fun v2 => ?n3_1)
  case r3_1 =>
   refine Row.mk' app_44_28 ⟨_, rfl, rfl, rfl, rfl, rfl⟩ ⟨?x3_1_0, trivial⟩ ⟨_, _, _, _, rfl, rfl, rfl, rfl, rfl, rfl, rfl, rfl, rfl⟩ rfl rfl rfl
   case x3_1_0 => exact ⟨_, _, _, _, rfl, rfl, rfl, rfl, rfl, rfl, rfl, rfl, len_map (f := ints1C) (fun _ => rfl), (by have hm : maxLen = 9223372036854775807 := rfl; simp [upto]; first | omega | (simp; omega)), (by have hm : maxLen = 9223372036854775807 := rfl; simp [upto]; first | omega | (simp; omega)), fun _ _ _ _ _ hl => (hl.dep 1 6 _ rfl rfl rfl rfl)⟩
  case o3_1_0 => exact fun h => not_in_row rfl h
  case o3_1_1 => exact fun _ _ => ⟨rfl, fun _ _ _ hx hl _ => r_move rfl (hl.env 1 0 _ rfl rfl) hx⟩
  case o3_1_2 => exact fun h => not_in_row rfl h
  case o3_1_3 => exact fun h => not_in_row rfl h
  clear a w h
  refine nx (tr_ret (fun a w h => leaveM1  (m := 0) v2 rfl h rfl rfl))

theorem p_Must {J : World → Prop} (hJ : Stab J) (d : Db) (f : Int) (t : Int) (hw : ∀ f ∈ d.frames, f.wide.length * 32 ≤ 140737488351232) (hG : FormsJ J) : Fn Tryz.prog J 23 [.agg (dbC d), .int f, .int t] (.tup [.rd (intsC (if mstE d f t = 0 then mstL (usL d d.frames.length) f.toNat t.toNat else [])), .int (mstE d f t)]) := by
 refine fn_enter (N := 77) Tryz.func23 rfl rfl (lb rfl) fun S w0 hS hJ0 => ?_
 refine tw st_own ?_
 refine k_seq (rgo tb hJ [1, 2, 1000] [_, _, _] [0] [(_, _), (_, _), (_, .ptr (dbC d))] rfl rfl rfl rfl ⟨fun _ _ hk hx hl _ => r_box rfl (hl.env 0 0 _ rfl rfl) (xo_new hS _ hk hx _ (Nat.le_refl _)) (jo hJ hx), trivial⟩ (nx (k_seq (rgo tb hJ [0, 1, 1003, 1008, 1009] [_, _, _, _, .tup [gAV (rdE d ([f, t] : List Int)) [strsC d.consts, strsC d.vars, frsC d.frames, intssC (usL d d.frames.length)], .int (rdE d ([f, t] : List Int))], _, _, _, _, _] [3, 4] [(_, _), (_, _), (_, .rd (intsC ([f, t] : List Int))), (_, gAV (rdE d ([f, t] : List Int)) [strsC d.consts, strsC d.vars, frsC d.frames, intssC (usL d d.frames.length)]), (_, .int (rdE d ([f, t] : List Int)))] rfl rfl rfl rfl ⟨fun a _ hk hx hl _ => r_buildK (k := 2) (us := [a.eval (Go.Operand.tmp 16), a.eval (Go.Operand.tmp 17)]) elem_28_3_1 zeroK_3_1 rfl (by simp) (rdL_cons (hl.dep 1 16 _ rfl rfl rfl rfl) (rdL_cons (hl.dep 2 17 _ rfl rfl rfl rfl) rdL_nil)) rfl (by decide) (by decide) (xo_new hS _ hk hx _ (Nat.le_refl _)) (jo hJ hx), hFo hS hJ (p_read hJ (d := d) (ns := ([f, t] : List Int)) (hw) (hG)) call_43 rfl rfl rfl rfl, trivial⟩ (nx (tr_fact (fun a w h => len_le h 2 rfl) fun hl1 => k_seq (k_seq (rgo tb hJ [0, 1, 3, 4, 1001] [_, _] [] [(_, _), (_, _), (_, _), (_, _), (_, .bool (!decide (rdE d ([f, t] : List Int) = (0 : Int))))] rfl rfl rfl rfl trivial (nx (tc 4 rfl rfl (fun hb1 => ?_) (fun hb1 => ?_)))))))))))
 ·
  have c1 : mstE d f t = rdE d [f, t] := by rw [mstE, if_pos hb1]
  have c9 : ¬ mstE d f t = 0 := by rw [c1]; exact nd_t hb1
  refine k_seq (rgo tb hJ [1001, 1002] [_, _, _] [] [(_, .lit (.slice none 0 0)), (_, .int (rdE d ([f, t] : List Int)))] rfl rfl rfl rfl trivial (nx ?_))
  refine tw (fun h => st_nilrd h (m := 0) (s := 6) rfl) ?_
  refine tr_ret (fun a w h => leave2' (m := 0) (k := 1) rfl (st_disown h) rfl rfl (congrArg (fun z => AV.rd (intsC z)) (show ([] : List Int) = (if mstE d f t = 0 then mstL (usL d d.frames.length) f.toNat t.toNat else []) from by first | exact c1.symm | exact c0.symm | (rw [if_neg c9]; done) | (rw [if_pos c0, f1_2, take_all (by omega)]; rfl))) (congrArg AV.int (show (rdE d ([f, t] : List Int)) = (mstE d f t) from by first | exact c1.symm | exact c0.symm | (rw [if_neg c9]; done) | (rw [if_pos c0, f1_2, take_all (by omega)]; rfl))))
 ·
  have e0 : rdE d [f, t] = 0 := nd_f hb1
  have c2 := rdE_two e0
  have c3 := chkE_size c2.1
  have hf' : ((f.toNat : Nat) : Int) = f := by omega
  have ht' : ((t.toNat : Nat) : Int) = t := by omega
  have hul := usL_len d d.frames.length
  refine tw (sa 2 rfl (show (gAV (rdE d ([f, t] : List Int)) [strsC d.consts, strsC d.vars, frsC d.frames, intssC (usL d d.frames.length)] : AV) = .ptr [strsC d.consts, strsC d.vars, frsC d.frames, intssC (usL d d.frames.length)] from gAV_ok e0)) ?_
  refine tr_skip (nx (k_seq (k_seq ?_)))
  refine tw (sa 0 rfl (congrArg AV.int (show f = ((f.toNat : Nat) : Int) from by omega))) ?_
  refine tw (sa 1 rfl (congrArg AV.int (show t = ((t.toNat : Nat) : Int) from by omega))) ?_
  refine tr_text (sv tb rfl rfl rfl rfl (sv tb rfl rfl rfl rfl (sq_fn (O := []) (R := []) (p_needs hJ (d := d) (us := (usL d d.frames.length)) (n := f.toNat) (by first | exact usL_down _ _ | exact downL_set (usL_down _ _) _) (by first | omega | (rw [List.length_set]; omega))) call_47 rfl rfl rfl (lb rfl) hS hJ0 has_nil (fun a w h => (relL_cons (h.get 1 rfl) (relL_cons (h.get 0 rfl) relL_nil))) fun z1 => ?_)))
  refine sv tb rfl rfl rfl rfl (sq (.bool (decide (((t.toNat : Nat) : Int) ∈ z1.1.2))) rfl rfl (lb rfl) (fun _ _ h => r_lookupS (Kd := keyI) (xs := z1.1.2) mapT_70_3_4 zeroF_4_set (((t.toNat : Nat) : Int)) rfl (own_now h.x (mo 0 rfl)) (h.get 1 rfl) (h.get 0 rfl) h.x) (sv (av := .bool (!(decide (((t.toNat : Nat) : Int) ∈ z1.1.2)))) tb rfl rfl rfl rfl (sq_end ?_)))
  refine kw (lz [0, 6, 7, 8] (env' := [(_, _), (_, _), (_, _), (_, _)]) rfl) ?_
  refine nx (tc 0 rfl rfl (fun hb2 => ?_) (fun hb2 => ?_))
  ·
   have e2 : ¬ Rch (usL d d.frames.length) f t := fun h => nd_t hb2 ((z1.2.iff _).2 (by rw [hf', ht']; exact h))
   have c1 : mstE d f t = 5 := by rw [mstE, if_neg (by rw [e0]; decide), if_pos (by simpa using e2)]
   have c9 : ¬ mstE d f t = 0 := by rw [c1]; decide
   refine k_seq (rgo tb hJ [1000, 1001] [_, _] [] [(_, .lit (.slice none 0 0)), (_, .int (5 : Int))] rfl rfl rfl rfl trivial (nx ?_))
   refine tw (fun h => st_nilrd h (m := 0) (s := 6) rfl) ?_
   refine tr_ret (fun a w h => leave2' (m := 0) (k := 1) rfl (st_disown h) rfl rfl (congrArg (fun z => AV.rd (intsC z)) (show ([] : List Int) = (if mstE d f t = 0 then mstL (usL d d.frames.length) f.toNat t.toNat else []) from by first | exact c1.symm | exact c0.symm | (rw [if_neg c9]; done) | (rw [if_pos c0, f1_2, take_all (by omega)]; rfl))) (congrArg AV.int (show (5 : Int) = (mstE d f t) from by first | exact c1.symm | exact c0.symm | (rw [if_neg c9]; done) | (rw [if_pos c0, f1_2, take_all (by omega)]; rfl))))
  ·
   have e2 : Rch (usL d d.frames.length) f t := by have := (z1.2.iff _).1 (nd_f hb2); rwa [hf', ht'] at this
   have c0 : mstE d f t = 0 := by rw [mstE, if_neg (by rw [e0]; decide), if_neg (by simpa using e2)]
   refine tr_skip (nx (k_seq (rgo tb hJ [1, 2, 3, 1000] [_] [] [(_, _), (_, _), (_, _), (_, .lit (.slice none 0 0))] rfl rfl rfl rfl trivial (nx (k_seq (k_seq (tr_text (sv tb rfl rfl rfl rfl (sv tb rfl rfl rfl rfl (sq_fn (O := []) (R := [OB.set keyI z1.1.1 z1.1.2]) (p_needs hJ (d := d) (us := (usL d d.frames.length)) (n := f.toNat) (by first | exact usL_down _ _ | exact downL_set (usL_down _ _) _) (by first | omega | (rw [List.length_set]; omega))) call_47 rfl rfl rfl (lb rfl) hS hJ0 has_nil (fun a w h => (relL_cons (h.get 1 rfl) (relL_cons (h.get 0 rfl) relL_nil))) fun z2 => ?_))))))))))
   refine sq (.rd (intsC (sortI z2.1.2))) rfl rfl (lb rfl) (fun _ _ h => r_fnR (p_sorted hJ (M := z2.1.1) (xs := z2.1.2) (fun x hxx => by have := reach_in z2.2 (usL_down _ _) x hxx; omega) (by have := reach_len z2.2 (usL_down _ _); omega)) call_48 rfl (xo_new hS _ h.keep h.x) (h.x.1) (has_cons (own_now h.x (mo 0 rfl)) has_nil) (relL_cons (h.get 0 rfl) relL_nil) (jo hJ h.x)) (sq (.int ((((sortI z2.1.2).length : Nat) : Int))) rfl rfl (lb rfl) (fun _ _ h => r_lenM unds_28_3 rfl (h.get 0 rfl) h.x) (sv tb rfl rfl rfl rfl (sq_end ?_)))
   refine kw (lz [0, 1, 2, 6, 7, 8, 9] (env' := [(_, _), (_, _), (_, _), (_, _), (_, _), (_, _), (_, _)]) rfl) ?_
   refine kw (sa 2 rfl (congrArg (fun z' => AV.rd (intsC z')) (show (sortI z2.1.2) = ((rchL (usL d d.frames.length) f.toNat)) from reach_all z2.2 (usL_down _ _)))) ?_
   refine kw (sa 1 rfl (congrArg AV.int (show (((sortI z2.1.2).length : Nat) : Int) = (((rchL (usL d d.frames.length) f.toNat).length : Nat) : Int) from by rw [reach_all z2.2 (usL_down _ _)]))) ?_
   refine nx (tr_fact (fun a w h => len_le h 2 rfl) fun hl2 => tr_block ?_)
   refine tw (st_add_nil 3 1 hJ) ?_
   refine tr_loop (ι := Nat × Value × (List Int)) (fun (ii' : Nat × Value × (List Int)) a w => match ii' with | (k, vo, out) => ((k ≤ (rchL (usL d d.frames.length) f.toNat).length) ∧ (out = ((rchL (usL d d.frames.length) f.toNat).take k).filter (mstP (usL d d.frames.length) f.toNat t.toNat)) ∧ (out.length ≤ k)) ∧ St All (SO S [OB.row vo 3 1 (out.map intC), OB.set keyI z2.1.1 z2.1.2, OB.set keyI z1.1.1 z1.1.2]) w0 77 [(35, .int ((((rchL (usL d d.frames.length) f.toNat).length : Nat) : Int))), (34, .rd (intsC ((rchL (usL d d.frames.length) f.toNat)))), (1, .int (((f.toNat : Nat) : Int))), (2, .int (((t.toNat : Nat) : Int))), (8, .ptr [strsC d.consts, strsC d.vars, frsC d.frames, intssC (usL d d.frames.length)]), (36, .int (((k : Nat) : Int))), (10, .lit vo)] (XO J S w0.heap.size [OB.row vo 3 1 (out.map intC), OB.set keyI z2.1.1 z2.1.2, OB.set keyI z1.1.1 z1.1.2]) a w) (fun (ii' : Nat × Value × (List Int)) => match ii' with | (k, _, _) => ((rchL (usL d d.frames.length) f.toNat).length - k : Nat)) ?_ ?_
   ·
    intro a w h
    exact ⟨(0, (.slice none 0 0), ([] : List Int)), (show (0 ≤ (rchL (usL d d.frames.length) f.toNat).length) ∧ (([] : List Int) = ((rchL (usL d d.frames.length) f.toNat).take 0).filter (mstP (usL d d.frames.length) f.toNat t.toNat)) ∧ (([] : List Int).length ≤ 0) from ⟨Nat.zero_le _, rfl, Nat.zero_le _⟩), lz [1, 2, 3, 4, 5, 0, 6] rfl h⟩
   ·
    rintro ⟨k, vo, out⟩
    refine tr_and fun hF => ?_
    obtain ⟨f1_1, f1_2, f1_3⟩ := hF
    refine k_seq (rgo tb hJ [0, 1, 2, 3, 4, 5, 6, 1000] [_] [] [(_, _), (_, _), (_, _), (_, _), (_, _), (_, _), (_, _), (_, .bool (decide (((k : Nat) : Int) < (((rchL (usL d d.frames.length) f.toNat).length : Nat) : Int))))] rfl rfl rfl rfl trivial (nx (k_seq (tc 7 rfl rfl (fun hb3 => ?_) (fun hb3 => ?_)))))
    ·
     try simp at hb3
     have e5 := rchL_mem (ge_mem (xs := (rchL (usL d d.frames.length) f.toNat)) (k := k) (by omega))
     refine tr_skip (nx (k_seq (tr_block (k_seq (rgo tb hJ [0, 1, 2, 3, 4, 5, 6, 1002] [.ptr [.lit (.int .i64 ((ge ((rchL (usL d d.frames.length) f.toNat)) k)))], _, _] [0] [(_, _), (_, _), (_, _), (_, _), (_, _), (_, _), (_, _), (_, .int ((ge ((rchL (usL d d.frames.length) f.toNat)) k)))] rfl rfl rfl rfl ⟨hIx elem_28_3_1 (by first | omega | (simp; omega) | grind [ge_mem]) rfl rfl rfl rfl rfl rfl, trivial⟩ (nx (k_seq (k_seq (rgo tb hJ [0, 1, 2, 3, 4, 5, 6, 7, 1007] [_, _, _, _, _, _, _, _] [] [(_, _), (_, _), (_, _), (_, _), (_, _), (_, _), (_, _), (_, _), (_, .bool ((decide ((ge ((rchL (usL d d.frames.length) f.toNat)) k) = ((f.toNat : Nat) : Int))) || (decide ((ge ((rchL (usL d d.frames.length) f.toNat)) k) = ((t.toNat : Nat) : Int)))))] rfl rfl rfl rfl trivial (nx (tc 8 rfl rfl (fun hb4 => ?_) (fun hb4 => ?_))))))))))))
     ·
      have e6 : mstP (usL d d.frames.length) f.toNat t.toNat (ge (rchL (usL d d.frames.length) f.toNat) k) = false := mstP_no hb4
      refine tr_exit (nx (rgo tb hJ [0, 1, 2, 3, 4, 6, 1001] [.int (((k + 1 : Nat) : Int)), _] [0] [(_, _), (_, _), (_, _), (_, _), (_, _), (_, _), (_, .int (((k + 1 : Nat) : Int)))] rfl rfl rfl rfl ⟨hAdd (by first | omega | (simp; omega) | grind [ge_mem]) rfl rfl rfl rfl rfl, trivial⟩ ?_))
      intro a w h; change ∃ j, _ ∧ _
      exact ⟨(k + 1, vo, out), ⟨⟨(show (k + 1) ≤ (rchL (usL d d.frames.length) f.toNat).length from by omega), (show out = ((rchL (usL d d.frames.length) f.toNat).take (k + 1)).filter (mstP (usL d d.frames.length) f.toNat t.toNat) from by rw [filter_take_succ (by omega), e6, ← f1_2]; simp), (show out.length ≤ (k + 1) from by first | omega | (simp; omega))⟩, lz [0, 1, 2, 3, 4, 6, 5] rfl h⟩, (show (rchL (usL d d.frames.length) f.toNat).length - (k + 1) < (rchL (usL d d.frames.length) f.toNat).length - k from by first | omega | (simp; omega))⟩
     ·
      refine tr_skip (nx (k_seq ?_))
      refine fun a w h => region_G (γ := Value × Value × Nat) (fun ix' => ([.ptr [strsC d.consts, strsC d.vars, frsC d.frames, intssC (usL d d.frames.length)], .ptr [strsC d.consts, strsC d.vars, frsC d.frames, intssC (usL d d.frames.length)], .ptr [strsC d.consts, strsC d.vars, frsC d.frames, intssC (usL d d.frames.length)], .agg (dbC d), .ptr [strsC d.consts, strsC d.vars, frsC d.frames, intssC (usL d d.frames.length)], .ptr [strsC d.consts, strsC d.vars, frsC d.frames, intssC (usL d d.frames.length)], .ptr [intssC (usL d d.frames.length)], .rd (intssC (usL d d.frames.length)), .any, .any, .any, .any] : List AV).getD ix' .any) (fun ix' => ([true, true, true, true, true, true, true, true, true, true, true, true] : List Bool).getD ix' true) [(35, fun (g : Value × Value × Nat) => .int ((((rchL (usL d d.frames.length) f.toNat).length : Nat) : Int))), (34, fun (g : Value × Value × Nat) => .rd (intsC ((rchL (usL d d.frames.length) f.toNat)))), (1, fun (g : Value × Value × Nat) => .int (((f.toNat : Nat) : Int))), (2, fun (g : Value × Value × Nat) => .int (((t.toNat : Nat) : Int))), (8, fun (g : Value × Value × Nat) => .ptr [strsC d.consts, strsC d.vars, frsC d.frames, intssC (usL d d.frames.length)]), (36, fun (g : Value × Value × Nat) => .int (((k : Nat) : Int))), (10, fun (g : Value × Value × Nat) => .lit vo), (12, fun (g : Value × Value × Nat) => .int ((ge ((rchL (usL d d.frames.length) f.toNat)) k))), (13, fun (g : Value × Value × Nat) => .at g.2.2 0)] (fun (j' : Nat) (g : Value × Value × Nat) => match j' with | 0 => [OB.row vo 3 1 (out.map intC), OB.set keyI z2.1.1 z2.1.2, OB.set keyI z1.1.1 z1.1.2] | 1 => [OB.row g.1 28 1 ((usL d d.frames.length).map ints1C), OB.row vo 3 1 (out.map intC), OB.set keyI z2.1.1 z2.1.2, OB.set keyI z1.1.1 z1.1.2] | 2 => [wasA [strsC d.consts, strsC d.vars, frsC d.frames, .lit g.1] g.2.1, OB.row g.1 28 1 ((usL d d.frames.length).map ints1C), OB.row vo 3 1 (out.map intC), OB.set keyI z2.1.1 z2.1.2, OB.set keyI z1.1.1 z1.1.2] | 3 => [OB.var g.2.2 [strsC d.consts, strsC d.vars, frsC d.frames, .lit g.1], OB.row g.1 28 1 ((usL d d.frames.length).map ints1C), OB.row vo 3 1 (out.map intC), OB.set keyI z2.1.1 z2.1.2, OB.set keyI z1.1.1 z1.1.2] | _ => [OB.var g.2.2 [strsC d.consts, strsC d.vars, frsC d.frames, .lit g.1], OB.row g.1 28 1 ((usL d d.frames.length).map ints1C), OB.row vo 3 1 (out.map intC), OB.set keyI z2.1.1 z2.1.2, OB.set keyI z1.1.1 z1.1.2]) (fun (k' : Nat) (g : Value × Value × Nat) => match k' with | 0 => g.1 | 1 => g.2.1 | 2 => (.pointer (some ⟨g.2.2, 0, none⟩)) | 3 => (.pointer (some ⟨g.2.2, 0, none⟩)) | _ => undef) [8, 9, 10, 11] 4 ((.slice none 0 0), (.slice none 0 0), 0) (fun _ => rfl) h hJ mixedE rfl rfl rfl rfl rfl rfl (fun j' g hj p hp => by rcases j' with _ | _ | _ | _ | _ | j' <;> first | exact hp | exact List.mem_cons_of_mem _ hp | exact List.mem_cons_of_mem _ (List.mem_cons_of_mem _ hp) | (exfalso; omega)) ⟨?o11_1_0, ⟨?o11_1_1, ⟨?o11_1_2, ⟨?o11_1_3, ⟨?o11_1_4, ⟨?o11_1_5, ⟨?o11_1_6, ⟨?o11_1_7, ⟨?o11_1_8, ⟨?o11_1_9, ⟨?o11_1_10, ⟨?o11_1_11, trivial⟩⟩⟩⟩⟩⟩⟩⟩⟩⟩⟩⟩ ⟨?e11_1_0, ⟨?e11_1_1, ⟨?e11_1_2, ⟨?e11_1_3, trivial⟩⟩⟩⟩ ⟨.old 0 35 _ rfl rfl, ⟨.old 1 34 _ rfl rfl, ⟨.old 2 1 _ rfl rfl, ⟨.old 3 2 _ rfl rfl, ⟨.old 4 8 _ rfl rfl, ⟨.old 5 36 _ rfl rfl, ⟨.old 6 10 _ rfl rfl, ⟨.old 7 12 _ rfl rfl, ⟨.eff 3 11 13 (fun (g : Value × Value × Nat) => (.pointer (some ⟨g.2.2, 0, none⟩))) rfl rfl (fun _ => rfl) (fun _ => True.intro), trivial⟩⟩⟩⟩⟩⟩⟩⟩⟩ ?n11_1
      case o11_1_0 => exact fun _ O' _ => ⟨rfl, fun _ _ _ hx hl _ => r_move rfl (hl.env 4 8 _ rfl rfl) hx⟩
      case o11_1_1 => exact fun _ O' _ => ⟨rfl, fun _ _ _ hx hl _ => r_nilCheck rfl (hl.dep 0 48 _ rfl rfl rfl rfl) hx⟩
      case o11_1_2 => exact fun _ O' _ => ⟨rfl, fun _ _ _ hx hl _ => r_field fld_66_0_0 rfl (hl.dep 1 49 _ rfl rfl rfl rfl) hx⟩
      case o11_1_3 => exact fun _ O' _ => ⟨rfl, fun _ _ _ hx hl _ => r_loadN (k := 3) agg_25_3 rfl (hl.dep 2 50 _ rfl rfl rfl rfl) (lb rfl) hx⟩
      case o11_1_4 => exact fun _ O' _ => ⟨rfl, fun _ _ _ hx hl _ => r_move rfl (hl.env 4 8 _ rfl rfl) hx⟩
      case o11_1_5 => exact fun _ O' _ => ⟨rfl, fun _ _ _ hx hl _ => r_nilCheck rfl (hl.dep 4 52 _ rfl rfl rfl rfl) hx⟩
      case o11_1_6 => exact fun _ O' _ => ⟨rfl, fun _ _ _ hx hl _ => r_field fld_66_1_3 rfl (hl.dep 5 53 _ rfl rfl rfl rfl) hx⟩
      case o11_1_7 => exact fun _ O' _ => ⟨rfl, fun _ _ _ hx hl _ => r_load1 one_44 rfl (hl.dep 6 54 _ rfl rfl rfl rfl) hx⟩
      case o11_1_8 => exact not_in_row rfl
      case o11_1_9 => exact not_in_row rfl
      case o11_1_10 => exact not_in_row rfl
      case o11_1_11 => exact not_in_row rfl
      case e11_1_0 => exact ⟨_, rfl, rfl, rfl, rfl, fun g _ w hk hx hl _ => does_mono (d_fn (O := []) (R := [OB.row vo 3 1 (out.map intC), OB.set keyI z2.1.1 z2.1.2, OB.set keyI z1.1.1 z1.1.2]) (p_CloneL hJ (xs := (usL d d.frames.length)) (by omega)) call_56 rfl hS hJ0 has_nil hk hx (relL_cons (hl.dep 7 55 _ rfl rfl rfl rfl) relL_nil)) fun v w' ⟨i, hp, hv⟩ => ⟨(i, g.2.1, g.2.2), rfl, fun k' hk' => absurd hk' (Nat.not_lt_zero _), fun _ => hv.lit, hp⟩⟩
      case e11_1_1 => exact ⟨_, rfl, rfl, rfl, rfl, fun g _ w hk hx hl hs => does_mono (d_buildW (cs := [strsC d.consts, strsC d.vars, frsC d.frames, .lit g.1]) hk (r_buildG2 (d := d) (v := g.1) buildG2_66 rfl (hl.dep 3 51 _ rfl rfl rfl rfl) (hs 0 8 _ 56 (by omega) rfl rfl rfl) (row_slice (hx.2.1 _ (mo 0 rfl))) hx)) fun v w' hp => ⟨(g.1, v, g.2.2), rfl, fun k' hk' => by rcases k' with _ | _ | _ | k' <;> first | rfl | omega, fun _ => rfl, hp⟩⟩
      case e11_1_2 => exact ⟨_, rfl, rfl, rfl, rfl, fun g _ w hk hx _ hs => does_mono (d_boxW (cs := [strsC d.consts, strsC d.vars, frsC d.frames, .lit g.1]) hJ rfl (hs 1 9 _ 57 (by omega) rfl rfl rfl) hk hx) fun v w' ⟨g', hv, hp⟩ => ⟨(g.1, g.2.1, g'), rfl, fun k' hk' => by rcases k' with _ | _ | _ | k' <;> first | rfl | omega, fun _ => hv, hp⟩⟩
      case e11_1_3 => exact ⟨_, rfl, rfl, rfl, rfl, fun g _ w hk hx _ hs => does_mono (d_assign (.inl rfl) (hs 2 10 _ 58 (by omega) rfl rfl rfl) hk hx) fun v w' hp => ⟨g, rfl, fun _ _ => rfl, fun _ => hp.1, hp.2⟩⟩
      clear a w h
      rintro ⟨z3, x4, b5⟩
      change ∀ a w, St All (SO S [OB.var b5 [strsC d.consts, strsC d.vars, frsC d.frames, .lit z3], OB.row z3 28 1 ((usL d d.frames.length).map ints1C), OB.row vo 3 1 (out.map intC), OB.set keyI z2.1.1 z2.1.2, OB.set keyI z1.1.1 z1.1.2]) w0 77 [(35, .int ((((rchL (usL d d.frames.length) f.toNat).length : Nat) : Int))), (34, .rd (intsC (((rchL (usL d d.frames.length) f.toNat))))), (1, .int (((f.toNat : Nat) : Int))), (2, .int (((t.toNat : Nat) : Int))), (8, .ptr [strsC d.consts, strsC d.vars, frsC d.frames, intssC (usL d d.frames.length)]), (36, .int (((k : Nat) : Int))), (10, .lit vo), (12, .int ((ge ((rchL (usL d d.frames.length) f.toNat)) k))), (13, .at b5 0)] (XO J S w0.heap.size [OB.var b5 [strsC d.consts, strsC d.vars, frsC d.frames, .lit z3], OB.row z3 28 1 ((usL d d.frames.length).map ints1C), OB.row vo 3 1 (out.map intC), OB.set keyI z2.1.1 z2.1.2, OB.set keyI z1.1.1 z1.1.2]) a w → _
      refine nx (tr_fact (fun a w h => len_le h 1 rfl) fun hl3 => k_seq (tr_text (sv tb rfl rfl rfl rfl (sq (.at b5 0) rfl rfl (lb rfl) (fun _ _ h => r_nilCheckV rfl (h.get 0 rfl) h.x) (sq (.at b5 3) rfl rfl (lb rfl) (fun _ _ h => r_fieldV fld_66_1_3 rfl (h.get 0 rfl) h.x) (sq (.lit z3) rfl rfl (lb rfl) (fun _ _ h => r_loadV1 (cs := [strsC d.consts, strsC d.vars, frsC d.frames, .lit z3]) one_44 rfl (own_now h.x (mo 0 rfl)) (h.get 0 rfl) rfl h.x) (sv tb rfl rfl rfl rfl (sq (.lit (rowAt z3 (((ge ((rchL (usL d d.frames.length) f.toNat)) k)).toNat * 1))) rfl rfl (lb rfl) (fun _ _ h => r_ownAddr (i := (ge ((rchL (usL d d.frames.length) f.toNat)) k)) elem_44_28_1 rfl (own_now h.x (mo 1 rfl)) (h.get 1 rfl) (h.get 0 rfl) (by first | omega | (simp; omega) | grind [ge_mem]) (by rw [List.length_map]; exact (by first | omega | (simp; omega) | grind [ge_mem])) h.x) ?_))))))))
      refine kw pm1 ?_
      refine sq_ownStore1 (c := intsC ([] : List Int)) (i := ((ge ((rchL (usL d d.frames.length) f.toNat)) k)).toNat) hJ hJ0 size_28_1 rfl rfl rfl (by rw [List.length_map]; exact (by first | omega | (simp; omega) | grind [ge_mem])) (fun a w h => ⟨(h.get 0 rfl), (nil_view (Rel.of_lit (Go.Value.slice none 0 0)))⟩) ?_
      rw [show ((usL d d.frames.length).map ints1C).set (((ge ((rchL (usL d d.frames.length) f.toNat)) k)).toNat) [intsC ([] : List Int)] = ((usL d d.frames.length).set (((ge ((rchL (usL d d.frames.length) f.toNat)) k)).toNat) ([] : List Int)).map ints1C from List.map_set.symm]
      refine sq_end ?_
      refine kw (lz [6, 7, 8, 9, 10, 11, 12, 13, 14] (env' := [(_, _), (_, _), (_, _), (_, _), (_, _), (_, _), (_, _), (_, _), (_, _)]) rfl) ?_
      refine kw pm1 ?_
      refine kw pm1 ?_
      refine kw (B := St All (SO S [OB.gr 28 b5 d ((z3, (usL d d.frames.length).set (((ge ((rchL (usL d d.frames.length) f.toNat)) k)).toNat) ([] : List Int))), OB.row vo 3 1 (out.map intC), OB.set keyI z2.1.1 z2.1.2, OB.set keyI z1.1.1 z1.1.2]) w0 77 [(35, .int ((((rchL (usL d d.frames.length) f.toNat).length : Nat) : Int))), (34, .rd (intsC (((rchL (usL d d.frames.length) f.toNat))))), (1, .int (((f.toNat : Nat) : Int))), (2, .int (((t.toNat : Nat) : Int))), (8, .ptr [strsC d.consts, strsC d.vars, frsC d.frames, intssC (usL d d.frames.length)]), (36, .int (((k : Nat) : Int))), (10, .lit vo), (12, .int ((ge ((rchL (usL d d.frames.length) f.toNat)) k))), (13, .at b5 0)] (XO J S w0.heap.size [OB.gr 28 b5 d ((z3, (usL d d.frames.length).set (((ge ((rchL (usL d d.frames.length) f.toNat)) k)).toNat) ([] : List Int))), OB.row vo 3 1 (out.map intC), OB.set keyI z2.1.1 z2.1.2, OB.set keyI z1.1.1 z1.1.2])) (fun h => st_pack h) ?_
      refine nx (k_seq ?_)
      refine tw (fun h => st_freezeG hS h (m := 8) (s := 13) rfl) ?_
      refine tr_text (sv tb rfl rfl rfl rfl (sv tb rfl rfl rfl rfl (sq_fn (O := []) (R := [OB.row vo 3 1 (out.map intC), OB.set keyI z2.1.1 z2.1.2, OB.set keyI z1.1.1 z1.1.2]) (p_needs hJ (d := d) (us := (((z3, (usL d d.frames.length).set (((ge ((rchL (usL d d.frames.length) f.toNat)) k)).toNat) ([] : List Int))).2)) (n := f.toNat) (by first | exact usL_down _ _ | exact downL_set (usL_down _ _) _) (by first | omega | (rw [List.length_set]; omega))) call_47 rfl rfl rfl (lb rfl) hS hJ0 has_nil (fun a w h => (relL_cons (h.get 1 rfl) (relL_cons (h.get 0 rfl) relL_nil))) fun z6 => ?_)))
      refine sv tb rfl rfl rfl rfl (sq (.bool (decide (((t.toNat : Nat) : Int) ∈ z6.1.2))) rfl rfl (lb rfl) (fun _ _ h => r_lookupS (Kd := keyI) (xs := z6.1.2) mapT_70_3_4 zeroF_4_set (((t.toNat : Nat) : Int)) rfl (own_now h.x (mo 0 rfl)) (h.get 1 rfl) (h.get 0 rfl) h.x) (sv (av := .bool (!(decide (((t.toNat : Nat) : Int) ∈ z6.1.2)))) tb rfl rfl rfl rfl (sq_end ?_)))
      refine kw (lz [0, 7, 8, 9, 10, 11, 12, 13, 14] (env' := [(_, _), (_, _), (_, _), (_, _), (_, _), (_, _), (_, _), (_, _), (_, _)]) rfl) ?_
      refine nx (tc 0 rfl rfl (fun hb5 => ?_) (fun hb5 => ?_))
      ·
       have e6 : mstP (usL d d.frames.length) f.toNat t.toNat (ge (rchL (usL d d.frames.length) f.toNat) k) = true := mstP_yes hb4 fun h => nd_t hb5 ((z6.2.iff _).2 h)
       refine tr_text (sv tb rfl rfl rfl rfl (sv tb rfl rfl rfl rfl (sq (.rd (intsC ([(ge ((rchL (usL d d.frames.length) f.toNat)) k)]))) rfl rfl (lb rfl) (fun _ _ h => r_build1 elem_28_3_1 zero_3 rfl (h.get 0 rfl) (xo_new hS _ h.keep h.x _ (Nat.le_refl _)) (jo hJ h.x)) ?_)))
       refine kw pm1 ?_
       refine sq_appendM (f := intC) (m := 2) (s := 71) out ([(ge ((rchL (usL d d.frames.length) f.toNat)) k)]) (fun _ => rfl) app_28_3 hJ hJ0 rfl rfl rfl (lb rfl) rfl rfl (fun a w h => (h.get 0 rfl)) (by have := rchL_len (usL d d.frames.length) f.toNat; simp; omega) (by have := rchL_len (usL d d.frames.length) f.toNat; simp; omega) fun v7 => ?_
       refine sv tb rfl rfl rfl rfl (sq_end ?_)
       refine kw (lz [0, 2, 6, 7, 8, 9, 10, 11] (env' := [(_, _), (_, _), (_, _), (_, _), (_, _), (_, _), (_, _), (_, _)]) rfl) ?_
       refine nx (tr_fact (fun a w h => len_le h 1 rfl) fun hl4 => rgo tb hJ [0, 2, 3, 4, 5, 6, 1001] [.int (((k + 1 : Nat) : Int)), _] [0] [(_, _), (_, _), (_, _), (_, _), (_, _), (_, _), (_, .int (((k + 1 : Nat) : Int)))] rfl rfl rfl rfl ⟨hAdd (by first | omega | (simp; omega) | grind [ge_mem]) rfl rfl rfl rfl rfl, trivial⟩ ?_)
       refine kw pm1 ?_
       refine kw st_drop ?_
       intro a w h; change ∃ j, _ ∧ _
       exact ⟨(k + 1, v7, out ++ ([(ge ((rchL (usL d d.frames.length) f.toNat)) k)])), ⟨⟨(show (k + 1) ≤ (rchL (usL d d.frames.length) f.toNat).length from by omega), (show (out ++ ([(ge ((rchL (usL d d.frames.length) f.toNat)) k)])) = ((rchL (usL d d.frames.length) f.toNat).take (k + 1)).filter (mstP (usL d d.frames.length) f.toNat t.toNat) from by rw [filter_take_succ (by omega), e6, ← f1_2]; simp), (show (out ++ ([(ge ((rchL (usL d d.frames.length) f.toNat)) k)])).length ≤ (k + 1) from by first | omega | (simp; omega))⟩, lz [1, 2, 3, 4, 5, 6, 0] rfl h⟩, (show (rchL (usL d d.frames.length) f.toNat).length - (k + 1) < (rchL (usL d d.frames.length) f.toNat).length - k from by first | omega | (simp; omega))⟩
      ·
       have e6 : mstP (usL d d.frames.length) f.toNat t.toNat (ge (rchL (usL d d.frames.length) f.toNat) k) = false := mstP_not hb4 ((z6.2.iff _).1 (nd_f hb5))
       refine tr_skip (nx (rgo tb hJ [1, 2, 3, 4, 5, 7, 1001] [.int (((k + 1 : Nat) : Int)), _] [0] [(_, _), (_, _), (_, _), (_, _), (_, _), (_, _), (_, .int (((k + 1 : Nat) : Int)))] rfl rfl rfl rfl ⟨hAdd (by first | omega | (simp; omega) | grind [ge_mem]) rfl rfl rfl rfl rfl, trivial⟩ ?_))
       refine kw st_drop ?_
       intro a w h; change ∃ j, _ ∧ _
       exact ⟨(k + 1, vo, out), ⟨⟨(show (k + 1) ≤ (rchL (usL d d.frames.length) f.toNat).length from by omega), (show out = ((rchL (usL d d.frames.length) f.toNat).take (k + 1)).filter (mstP (usL d d.frames.length) f.toNat t.toNat) from by rw [filter_take_succ (by omega), e6, ← f1_2]; simp), (show out.length ≤ (k + 1) from by first | omega | (simp; omega))⟩, lz [0, 1, 2, 3, 4, 6, 5] rfl h⟩, (show (rchL (usL d d.frames.length) f.toNat).length - (k + 1) < (rchL (usL d d.frames.length) f.toNat).length - k from by first | omega | (simp; omega))⟩
    ·
     try simp at hb3
     refine tr_exit (nx (k_seq (rgo tb hJ [1001, 1002] [_, _, _] [] [(_, .lit vo), (_, .int (0 : Int))] rfl rfl rfl rfl trivial (nx ?_))))
     refine tw (fun h => st_freeze hS h (m := 0) (s := 6) rfl) ?_
     refine tr_ret (fun a w h => leave2' (m := 0) (k := 1) rfl (st_disown h) rfl rfl (congrArg (fun z => AV.rd (intsC z)) (show out = (if mstE d f t = 0 then mstL (usL d d.frames.length) f.toNat t.toNat else []) from by first | exact c1.symm | exact c0.symm | (rw [if_neg c9]; done) | (rw [if_pos c0, f1_2, take_all (by omega)]; rfl))) (congrArg AV.int (show (0 : Int) = (mstE d f t) from by first | exact c1.symm | exact c0.symm | (rw [if_neg c9]; done) | (rw [if_pos c0, f1_2, take_all (by omega)]; rfl))))

end Go.Proofs.YtnpgmdffjemnbaaGreatDoor
namespace Go.Proofs.YtnpgmdffjemnbaaGreatDoor

def smFr (s : ByteArray) (ys : List ByteArray) : Fr := ⟨s, decide (((ys.length : Nat) : Int) > 0), [], [], [(⟨#[124, 45]⟩ : ByteArray), (⟨#[120]⟩ : ByteArray)], [], [], ys⟩
def smallD : Db := ⟨[(⟨#[124, 45]⟩ : ByteArray), (⟨#[120]⟩ : ByteArray)], [], [smFr ⟨#[97]⟩ [], smFr ⟨#[98]⟩ [], smFr ⟨#[116]⟩ [⟨#[97]⟩], smFr ⟨#[117]⟩ [⟨#[116]⟩, ⟨#[98]⟩]]⟩
theorem smChd : chdE smallD 3 = 0 := by kernel_rfl
theorem smRd : rdE smallD [3, 0] = 0 := by kernel_rfl
theorem smLen : smallD.frames.length = 4 := rfl
theorem smUs : usL smallD 4 = [[], [], [0], [1, 2]] := by kernel_rfl
theorem rch20 : Rch [[], [], [0], [1, 2]] 2 0 := .one (by decide)
theorem rch30 : Rch [[], [], [0], [1, 2]] 3 0 := .step _ 2 _ (by decide) rch20
theorem rch31 : Rch [[], [], [0], [1, 2]] 3 1 := .one (by decide)
theorem rch32 : Rch [[], [], [0], [1, 2]] 3 2 := .one (by decide)
theorem rch1 : Rch ([[], [], [0], [1, 2]].set 1 []) 3 0 := .step _ 2 _ (by decide) (.one (by decide))
theorem nrch_nil {us : List (List Int)} {a b : Int} (h : Rch us a b) (h0 : ge us a.toNat = []) : a = b := by
  cases h with
  | refl => rfl
  | step _ x _ hx k => rw [h0] at hx; cases hx
theorem rch2 : ¬ Rch ([[], [], [0], [1, 2]].set 2 []) 3 0 := fun h => by
  cases h with
  | step _ x _ hx hk =>
    have : x = 1 ∨ x = 2 := by simpa using (show x ∈ [1, 2] from hx)
    rcases this with rfl | rfl
    · exact absurd (nrch_nil hk rfl) (by decide)
    · exact absurd (nrch_nil hk rfl) (by decide)
theorem smNed : nedL (usL smallD smallD.frames.length) (3 : Int).toNat = [0, 1, 2] := by
  rw [smLen, smUs]
  unfold nedL
  rw [show (3 : Int).toNat = 3 from rfl, show List.range 3 = [0, 1, 2] from rfl]
  have h0 := rch30
  have h1 := rch31
  have h2 := rch32
  simp [List.filter, h0, h1, h2]
theorem smMst : mstL (usL smallD smallD.frames.length) (3 : Int).toNat (0 : Int).toNat = [2] := by
  have hn := smNed
  rw [smLen, smUs] at hn ⊢
  have h1 : mstP [[], [], [0], [1, 2]] 3 0 0 = false := mstP_no (by decide)
  have h2 : mstP [[], [], [0], [1, 2]] 3 0 1 = false := mstP_not (by decide) rch1
  have h3 : mstP [[], [], [0], [1, 2]] 3 0 2 = true := mstP_yes (by decide) rch2
  have h4 : mstP [[], [], [0], [1, 2]] 3 0 3 = false := mstP_no (by decide)
  unfold mstL rchL
  rw [hn]
  simp [List.filter, h1, h2, h3, h4]
theorem smMstE : mstE smallD 3 0 = 0 := by
  rw [mstE, smRd, smLen, smUs]
  have := rch30
  simp [this]
theorem smHw : ∀ f ∈ smallD.frames, f.wide.length * 32 ≤ 140737488351232 := by
  intro f hf
  have : f = smFr ⟨#[97]⟩ [] ∨ f = smFr ⟨#[98]⟩ [] ∨ f = smFr ⟨#[116]⟩ [⟨#[97]⟩] ∨ f = smFr ⟨#[117]⟩ [⟨#[116]⟩, ⟨#[98]⟩] := by simpa [smallD] using hf
  rcases this with rfl | rfl | rfl | rfl <;> exact Nat.zero_le _
/-- A database within the statements' bounds. -/
def fewD (d : Db) : Bool := decide (((d.frames.length : Nat) : Int) ≤ (30 : Int)) && !(d.frames.any fun f' => decide ((200 : Int) < ((f'.proof.length : Nat) : Int)))
end Go.Proofs.YtnpgmdffjemnbaaGreatDoor
set_option maxHeartbeats 8000000
set_option maxRecDepth 100000
namespace Go.Proofs.YtnpgmdffjemnbaaGreatDoor
open Go.RowKit

theorem w_small1 {J : World → Prop} (hJ : Stab J) (s : ByteArray) (ys : List ByteArray)  : Fn Tryz.prog J 70 [.str s, .rd (strsC ys)] (.agg (frC (smFr s ys))) := by
 refine fn_enter (N := 12) Tryz.func70 rfl rfl (lb rfl) fun S w0 hS hJ0 => ?_
 refine tw st_own ?_
 refine tr_fact (fun a w h => len_le h 1 rfl) fun hl1 => k_seq (tr_text (sq_alloc varC_59_sbllllll hJ rfl rfl rfl (lb rfl) fun b1 => ?_))
 refine sq_end (nx (k_seq (tr_text (sv tb rfl rfl rfl rfl (sv tb rfl rfl rfl rfl (sq (.int (((ys.length : Nat) : Int))) rfl rfl (lb rfl) (fun _ _ h => r_lenM unds_22_9 rfl (h.get 0 rfl) h.x) (sv (av := .bool (decide ((0 : Int) < ((ys.length : Nat) : Int)))) tb rfl rfl rfl rfl (sq (.rd (strsC (([(⟨#[124, 45]⟩ : ByteArray), (⟨#[120]⟩ : ByteArray)] : List ByteArray)))) rfl rfl (lb rfl) (fun a _ h => r_buildK (k := 2) (us := [a.eval (Go.Operand.const (Go.Value.string { data := #[124, 45] })), a.eval (Go.Operand.const (Go.Value.string { data := #[120] }))]) elem_22_9_1 zeroK_9_1 rfl (by simp) (rdL_cons (Rel.of_lit (Go.Value.string { data := #[124, 45] }) (lb rfl)) (rdL_cons (Rel.of_lit (Go.Value.string { data := #[120] }) (lb rfl)) rdL_nil)) rfl (by decide) (by decide) (xo_new hS _ h.keep h.x _ (Nat.le_refl _)) (jo hJ h.x)) (sv tb rfl rfl rfl rfl (sq (.agg (frC ((⟨s, decide ((0 : Int) < ((ys.length : Nat) : Int)), [], [], ([(⟨#[124, 45]⟩ : ByteArray), (⟨#[120]⟩ : ByteArray)] : List ByteArray), [], [], ys⟩ : Fr)))) rfl rfl (lb rfl) (fun _ _ h => r_buildFr (s := s) (b := (decide ((0 : Int) < ((ys.length : Nat) : Int)))) (xs := (([(⟨#[124, 45]⟩ : ByteArray), (⟨#[120]⟩ : ByteArray)] : List ByteArray))) (ys := ys) buildFr_59 rfl (h.get 5 rfl) (h.get 2 rfl) (h.get 1 rfl) (h.get 0 rfl) h.x) (sq_storeN (b := b1) (off := 0) (cs := [.lit (.string (⟨#[]⟩ : ByteArray)), .lit (.bool false), hysC ([] : List Hy), prsC ([] : List Pr), strsC ([] : List ByteArray), hysC ([] : List Hy), prsC ([] : List Pr), strsC ([] : List ByteArray)]) (es := [.lit (.string (((⟨s, decide ((0 : Int) < ((ys.length : Nat) : Int)), [], [], ([(⟨#[124, 45]⟩ : ByteArray), (⟨#[120]⟩ : ByteArray)] : List ByteArray), [], [], ys⟩ : Fr)).label)), .lit (.bool (((⟨s, decide ((0 : Int) < ((ys.length : Nat) : Int)), [], [], ([(⟨#[124, 45]⟩ : ByteArray), (⟨#[120]⟩ : ByteArray)] : List ByteArray), [], [], ys⟩ : Fr)).thm)), hysC (((⟨s, decide ((0 : Int) < ((ys.length : Nat) : Int)), [], [], ([(⟨#[124, 45]⟩ : ByteArray), (⟨#[120]⟩ : ByteArray)] : List ByteArray), [], [], ys⟩ : Fr)).hyps), prsC (((⟨s, decide ((0 : Int) < ((ys.length : Nat) : Int)), [], [], ([(⟨#[124, 45]⟩ : ByteArray), (⟨#[120]⟩ : ByteArray)] : List ByteArray), [], [], ys⟩ : Fr)).apart), strsC (((⟨s, decide ((0 : Int) < ((ys.length : Nat) : Int)), [], [], ([(⟨#[124, 45]⟩ : ByteArray), (⟨#[120]⟩ : ByteArray)] : List ByteArray), [], [], ys⟩ : Fr)).text), hysC (((⟨s, decide ((0 : Int) < ((ys.length : Nat) : Int)), [], [], ([(⟨#[124, 45]⟩ : ByteArray), (⟨#[120]⟩ : ByteArray)] : List ByteArray), [], [], ys⟩ : Fr)).dummies), prsC (((⟨s, decide ((0 : Int) < ((ys.length : Nat) : Int)), [], [], ([(⟨#[124, 45]⟩ : ByteArray), (⟨#[120]⟩ : ByteArray)] : List ByteArray), [], [], ys⟩ : Fr)).wide), strsC (((⟨s, decide ((0 : Int) < ((ys.length : Nat) : Int)), [], [], ([(⟨#[124, 45]⟩ : ByteArray), (⟨#[120]⟩ : ByteArray)] : List ByteArray), [], [], ys⟩ : Fr)).proof)]) (news := [.lit (.string (((⟨s, decide ((0 : Int) < ((ys.length : Nat) : Int)), [], [], ([(⟨#[124, 45]⟩ : ByteArray), (⟨#[120]⟩ : ByteArray)] : List ByteArray), [], [], ys⟩ : Fr)).label)), .lit (.bool (((⟨s, decide ((0 : Int) < ((ys.length : Nat) : Int)), [], [], ([(⟨#[124, 45]⟩ : ByteArray), (⟨#[120]⟩ : ByteArray)] : List ByteArray), [], [], ys⟩ : Fr)).thm)), hysC (((⟨s, decide ((0 : Int) < ((ys.length : Nat) : Int)), [], [], ([(⟨#[124, 45]⟩ : ByteArray), (⟨#[120]⟩ : ByteArray)] : List ByteArray), [], [], ys⟩ : Fr)).hyps), prsC (((⟨s, decide ((0 : Int) < ((ys.length : Nat) : Int)), [], [], ([(⟨#[124, 45]⟩ : ByteArray), (⟨#[120]⟩ : ByteArray)] : List ByteArray), [], [], ys⟩ : Fr)).apart), strsC (((⟨s, decide ((0 : Int) < ((ys.length : Nat) : Int)), [], [], ([(⟨#[124, 45]⟩ : ByteArray), (⟨#[120]⟩ : ByteArray)] : List ByteArray), [], [], ys⟩ : Fr)).text), hysC (((⟨s, decide ((0 : Int) < ((ys.length : Nat) : Int)), [], [], ([(⟨#[124, 45]⟩ : ByteArray), (⟨#[120]⟩ : ByteArray)] : List ByteArray), [], [], ys⟩ : Fr)).dummies), prsC (((⟨s, decide ((0 : Int) < ((ys.length : Nat) : Int)), [], [], ([(⟨#[124, 45]⟩ : ByteArray), (⟨#[120]⟩ : ByteArray)] : List ByteArray), [], [], ys⟩ : Fr)).wide), strsC (((⟨s, decide ((0 : Int) < ((ys.length : Nat) : Int)), [], [], ([(⟨#[124, 45]⟩ : ByteArray), (⟨#[120]⟩ : ByteArray)] : List ByteArray), [], [], ys⟩ : Fr)).proof)]) hJ hJ0 size_59_8 rfl rfl rfl (lb rfl) rfl (fun a w h => ⟨(h.get 7 rfl), (h.get 0 rfl)⟩) (sq_end ?_))))))))))))
 refine kw (lz [2, 7] (env' := [(_, _), (_, _)]) rfl) ?_
 refine nx (tr_fact (fun a w h => len_le h 0 rfl) fun hl2 => tr_ret (fun a w h => leaveC (cs := [.lit (.string (((⟨s, decide ((0 : Int) < ((ys.length : Nat) : Int)), [], [], ([(⟨#[124, 45]⟩ : ByteArray), (⟨#[120]⟩ : ByteArray)] : List ByteArray), [], [], ys⟩ : Fr)).label)), .lit (.bool (((⟨s, decide ((0 : Int) < ((ys.length : Nat) : Int)), [], [], ([(⟨#[124, 45]⟩ : ByteArray), (⟨#[120]⟩ : ByteArray)] : List ByteArray), [], [], ys⟩ : Fr)).thm)), hysC (((⟨s, decide ((0 : Int) < ((ys.length : Nat) : Int)), [], [], ([(⟨#[124, 45]⟩ : ByteArray), (⟨#[120]⟩ : ByteArray)] : List ByteArray), [], [], ys⟩ : Fr)).hyps), prsC (((⟨s, decide ((0 : Int) < ((ys.length : Nat) : Int)), [], [], ([(⟨#[124, 45]⟩ : ByteArray), (⟨#[120]⟩ : ByteArray)] : List ByteArray), [], [], ys⟩ : Fr)).apart), strsC (((⟨s, decide ((0 : Int) < ((ys.length : Nat) : Int)), [], [], ([(⟨#[124, 45]⟩ : ByteArray), (⟨#[120]⟩ : ByteArray)] : List ByteArray), [], [], ys⟩ : Fr)).text), hysC (((⟨s, decide ((0 : Int) < ((ys.length : Nat) : Int)), [], [], ([(⟨#[124, 45]⟩ : ByteArray), (⟨#[120]⟩ : ByteArray)] : List ByteArray), [], [], ys⟩ : Fr)).dummies), prsC (((⟨s, decide ((0 : Int) < ((ys.length : Nat) : Int)), [], [], ([(⟨#[124, 45]⟩ : ByteArray), (⟨#[120]⟩ : ByteArray)] : List ByteArray), [], [], ys⟩ : Fr)).wide), strsC (((⟨s, decide ((0 : Int) < ((ys.length : Nat) : Int)), [], [], ([(⟨#[124, 45]⟩ : ByteArray), (⟨#[120]⟩ : ByteArray)] : List ByteArray), [], [], ys⟩ : Fr)).proof)]) (m := 1) rfl agg_59_8 h rfl rfl (show [.lit (.string (((⟨s, decide ((0 : Int) < ((ys.length : Nat) : Int)), [], [], ([(⟨#[124, 45]⟩ : ByteArray), (⟨#[120]⟩ : ByteArray)] : List ByteArray), [], [], ys⟩ : Fr)).label)), .lit (.bool (((⟨s, decide ((0 : Int) < ((ys.length : Nat) : Int)), [], [], ([(⟨#[124, 45]⟩ : ByteArray), (⟨#[120]⟩ : ByteArray)] : List ByteArray), [], [], ys⟩ : Fr)).thm)), hysC (((⟨s, decide ((0 : Int) < ((ys.length : Nat) : Int)), [], [], ([(⟨#[124, 45]⟩ : ByteArray), (⟨#[120]⟩ : ByteArray)] : List ByteArray), [], [], ys⟩ : Fr)).hyps), prsC (((⟨s, decide ((0 : Int) < ((ys.length : Nat) : Int)), [], [], ([(⟨#[124, 45]⟩ : ByteArray), (⟨#[120]⟩ : ByteArray)] : List ByteArray), [], [], ys⟩ : Fr)).apart), strsC (((⟨s, decide ((0 : Int) < ((ys.length : Nat) : Int)), [], [], ([(⟨#[124, 45]⟩ : ByteArray), (⟨#[120]⟩ : ByteArray)] : List ByteArray), [], [], ys⟩ : Fr)).text), hysC (((⟨s, decide ((0 : Int) < ((ys.length : Nat) : Int)), [], [], ([(⟨#[124, 45]⟩ : ByteArray), (⟨#[120]⟩ : ByteArray)] : List ByteArray), [], [], ys⟩ : Fr)).dummies), prsC (((⟨s, decide ((0 : Int) < ((ys.length : Nat) : Int)), [], [], ([(⟨#[124, 45]⟩ : ByteArray), (⟨#[120]⟩ : ByteArray)] : List ByteArray), [], [], ys⟩ : Fr)).wide), strsC (((⟨s, decide ((0 : Int) < ((ys.length : Nat) : Int)), [], [], ([(⟨#[124, 45]⟩ : ByteArray), (⟨#[120]⟩ : ByteArray)] : List ByteArray), [], [], ys⟩ : Fr)).proof)] = [.lit (.string ((smFr s ys).label)), .lit (.bool ((smFr s ys).thm)), hysC ((smFr s ys).hyps), prsC ((smFr s ys).apart), strsC ((smFr s ys).text), hysC ((smFr s ys).dummies), prsC ((smFr s ys).wide), strsC ((smFr s ys).proof)] from rfl)))

theorem w_small {J : World → Prop} (hJ : Stab J)   : Fn Tryz.prog J 42 [] (.agg (dbC smallD)) := by
 refine fn_enter (N := 15) Tryz.func42 rfl rfl (lb rfl) fun S w0 hS hJ0 => ?_
 refine tw st_own ?_
 refine k_seq (tr_text (sq_alloc varC_25_lll hJ rfl rfl rfl (lb rfl) fun b1 => ?_))
 refine sq_end (nx (k_seq (rgo tb hJ [0, 1000] [_] [] [(_, _), (_, .fn 70 [])] rfl rfl rfl rfl trivial (nx (k_seq (tr_text (sq (.rd (strsC (([(⟨#[124, 45]⟩ : ByteArray), (⟨#[120]⟩ : ByteArray)] : List ByteArray)))) rfl rfl (lb rfl) (fun a _ h => r_buildK (k := 2) (us := [a.eval (Go.Operand.const (Go.Value.string { data := #[124, 45] })), a.eval (Go.Operand.const (Go.Value.string { data := #[120] }))]) elem_22_9_1 zeroK_9_1 rfl (by simp) (rdL_cons (Rel.of_lit (Go.Value.string { data := #[124, 45] }) (lb rfl)) (rdL_cons (Rel.of_lit (Go.Value.string { data := #[120] }) (lb rfl)) rdL_nil)) rfl (by decide) (by decide) (xo_new hS _ h.keep h.x _ (Nat.le_refl _)) (jo hJ h.x)) (sv tb rfl rfl rfl rfl (sq (.agg (frC ((smFr (⟨#[97]⟩ : ByteArray) ([] : List ByteArray))))) rfl rfl (lb rfl) (fun _ _ h => r_fnv ((w_small1 hJ (⟨#[97]⟩ : ByteArray) ([] : List ByteArray)).r) call_70 rfl (h.get 0 rfl) (xo_new hS _ h.keep h.x) (h.x.1) has_nil (relL_cons (Rel.of_lit (Go.Value.string { data := #[97] }) (lb rfl)) (relL_cons (nil_view (Rel.of_lit (Go.Value.slice none 0 0))) relL_nil)) (jo hJ h.x)) (sv tb rfl rfl rfl rfl (sq (.agg (frC ((smFr (⟨#[98]⟩ : ByteArray) ([] : List ByteArray))))) rfl rfl (lb rfl) (fun _ _ h => r_fnv ((w_small1 hJ (⟨#[98]⟩ : ByteArray) ([] : List ByteArray)).r) call_70 rfl (h.get 0 rfl) (xo_new hS _ h.keep h.x) (h.x.1) has_nil (relL_cons (Rel.of_lit (Go.Value.string { data := #[98] }) (lb rfl)) (relL_cons (nil_view (Rel.of_lit (Go.Value.slice none 0 0))) relL_nil)) (jo hJ h.x)) (sv tb rfl rfl rfl rfl ?_))))))))))))
 refine sq (.rd (strsC ([(⟨#[97]⟩ : ByteArray)]))) rfl rfl (lb rfl) (fun _ _ h => r_build1 elem_22_9_1 zero_9 rfl (Rel.of_lit (Go.Value.string { data := #[97] }) (lb rfl)) (xo_new hS _ h.keep h.x _ (Nat.le_refl _)) (jo hJ h.x)) (sq (.agg (frC ((smFr (⟨#[116]⟩ : ByteArray) ([(⟨#[97]⟩ : ByteArray)]))))) rfl rfl (lb rfl) (fun _ _ h => r_fnv ((w_small1 hJ (⟨#[116]⟩ : ByteArray) ([(⟨#[97]⟩ : ByteArray)])).r) call_70 rfl (h.get 1 rfl) (xo_new hS _ h.keep h.x) (h.x.1) has_nil (relL_cons (Rel.of_lit (Go.Value.string { data := #[116] }) (lb rfl)) (relL_cons (h.get 0 rfl) relL_nil)) (jo hJ h.x)) (sv tb rfl rfl rfl rfl (sq (.rd (strsC (([(⟨#[116]⟩ : ByteArray), (⟨#[98]⟩ : ByteArray)] : List ByteArray)))) rfl rfl (lb rfl) (fun a _ h => r_buildK (k := 2) (us := [a.eval (Go.Operand.const (Go.Value.string { data := #[116] })), a.eval (Go.Operand.const (Go.Value.string { data := #[98] }))]) elem_22_9_1 zeroK_9_1 rfl (by simp) (rdL_cons (Rel.of_lit (Go.Value.string { data := #[116] }) (lb rfl)) (rdL_cons (Rel.of_lit (Go.Value.string { data := #[98] }) (lb rfl)) rdL_nil)) rfl (by decide) (by decide) (xo_new hS _ h.keep h.x _ (Nat.le_refl _)) (jo hJ h.x)) (sq (.agg (frC ((smFr (⟨#[117]⟩ : ByteArray) (([(⟨#[116]⟩ : ByteArray), (⟨#[98]⟩ : ByteArray)] : List ByteArray)))))) rfl rfl (lb rfl) (fun _ _ h => r_fnv ((w_small1 hJ (⟨#[117]⟩ : ByteArray) (([(⟨#[116]⟩ : ByteArray), (⟨#[98]⟩ : ByteArray)] : List ByteArray))).r) call_70 rfl (h.get 1 rfl) (xo_new hS _ h.keep h.x) (h.x.1) has_nil (relL_cons (Rel.of_lit (Go.Value.string { data := #[117] }) (lb rfl)) (relL_cons (h.get 0 rfl) relL_nil)) (jo hJ h.x)) (sq (.rd (frsC ([(smFr (⟨#[97]⟩ : ByteArray) ([] : List ByteArray)), (smFr (⟨#[98]⟩ : ByteArray) ([] : List ByteArray)), (smFr (⟨#[116]⟩ : ByteArray) ([(⟨#[97]⟩ : ByteArray)])), (smFr (⟨#[117]⟩ : ByteArray) (([(⟨#[116]⟩ : ByteArray), (⟨#[98]⟩ : ByteArray)] : List ByteArray)))]))) rfl rfl (lb rfl) (fun _ _ h => r_buildFr4 elem_23_59_8 (fun w => by kernel_rfl) rfl (h.get 8 rfl) (h.get 6 rfl) (h.get 3 rfl) (h.get 0 rfl) (xo_new hS _ h.keep h.x _ (Nat.le_refl _)) (jo hJ h.x)) (sq (.agg (dbC ((⟨([(⟨#[124, 45]⟩ : ByteArray), (⟨#[120]⟩ : ByteArray)] : List ByteArray), [], [(smFr (⟨#[97]⟩ : ByteArray) ([] : List ByteArray)), (smFr (⟨#[98]⟩ : ByteArray) ([] : List ByteArray)), (smFr (⟨#[116]⟩ : ByteArray) ([(⟨#[97]⟩ : ByteArray)])), (smFr (⟨#[117]⟩ : ByteArray) (([(⟨#[116]⟩ : ByteArray), (⟨#[98]⟩ : ByteArray)] : List ByteArray)))]⟩ : Db)))) rfl rfl (lb rfl) (fun _ _ h => r_buildDb (xs := (([(⟨#[124, 45]⟩ : ByteArray), (⟨#[120]⟩ : ByteArray)] : List ByteArray))) (fs := ([(smFr (⟨#[97]⟩ : ByteArray) ([] : List ByteArray)), (smFr (⟨#[98]⟩ : ByteArray) ([] : List ByteArray)), (smFr (⟨#[116]⟩ : ByteArray) ([(⟨#[97]⟩ : ByteArray)])), (smFr (⟨#[117]⟩ : ByteArray) (([(⟨#[116]⟩ : ByteArray), (⟨#[98]⟩ : ByteArray)] : List ByteArray)))])) buildDb_25 rfl (h.get 11 rfl) (h.get 0 rfl) h.x) (sq_storeN (b := b1) (off := 0) (cs := [strsC ([] : List ByteArray), strsC ([] : List ByteArray), frsC ([] : List Fr)]) (es := [strsC (((⟨([(⟨#[124, 45]⟩ : ByteArray), (⟨#[120]⟩ : ByteArray)] : List ByteArray), [], [(smFr (⟨#[97]⟩ : ByteArray) ([] : List ByteArray)), (smFr (⟨#[98]⟩ : ByteArray) ([] : List ByteArray)), (smFr (⟨#[116]⟩ : ByteArray) ([(⟨#[97]⟩ : ByteArray)])), (smFr (⟨#[117]⟩ : ByteArray) (([(⟨#[116]⟩ : ByteArray), (⟨#[98]⟩ : ByteArray)] : List ByteArray)))]⟩ : Db)).consts), strsC (((⟨([(⟨#[124, 45]⟩ : ByteArray), (⟨#[120]⟩ : ByteArray)] : List ByteArray), [], [(smFr (⟨#[97]⟩ : ByteArray) ([] : List ByteArray)), (smFr (⟨#[98]⟩ : ByteArray) ([] : List ByteArray)), (smFr (⟨#[116]⟩ : ByteArray) ([(⟨#[97]⟩ : ByteArray)])), (smFr (⟨#[117]⟩ : ByteArray) (([(⟨#[116]⟩ : ByteArray), (⟨#[98]⟩ : ByteArray)] : List ByteArray)))]⟩ : Db)).vars), frsC (((⟨([(⟨#[124, 45]⟩ : ByteArray), (⟨#[120]⟩ : ByteArray)] : List ByteArray), [], [(smFr (⟨#[97]⟩ : ByteArray) ([] : List ByteArray)), (smFr (⟨#[98]⟩ : ByteArray) ([] : List ByteArray)), (smFr (⟨#[116]⟩ : ByteArray) ([(⟨#[97]⟩ : ByteArray)])), (smFr (⟨#[117]⟩ : ByteArray) (([(⟨#[116]⟩ : ByteArray), (⟨#[98]⟩ : ByteArray)] : List ByteArray)))]⟩ : Db)).frames)]) (news := [strsC (((⟨([(⟨#[124, 45]⟩ : ByteArray), (⟨#[120]⟩ : ByteArray)] : List ByteArray), [], [(smFr (⟨#[97]⟩ : ByteArray) ([] : List ByteArray)), (smFr (⟨#[98]⟩ : ByteArray) ([] : List ByteArray)), (smFr (⟨#[116]⟩ : ByteArray) ([(⟨#[97]⟩ : ByteArray)])), (smFr (⟨#[117]⟩ : ByteArray) (([(⟨#[116]⟩ : ByteArray), (⟨#[98]⟩ : ByteArray)] : List ByteArray)))]⟩ : Db)).consts), strsC (((⟨([(⟨#[124, 45]⟩ : ByteArray), (⟨#[120]⟩ : ByteArray)] : List ByteArray), [], [(smFr (⟨#[97]⟩ : ByteArray) ([] : List ByteArray)), (smFr (⟨#[98]⟩ : ByteArray) ([] : List ByteArray)), (smFr (⟨#[116]⟩ : ByteArray) ([(⟨#[97]⟩ : ByteArray)])), (smFr (⟨#[117]⟩ : ByteArray) (([(⟨#[116]⟩ : ByteArray), (⟨#[98]⟩ : ByteArray)] : List ByteArray)))]⟩ : Db)).vars), frsC (((⟨([(⟨#[124, 45]⟩ : ByteArray), (⟨#[120]⟩ : ByteArray)] : List ByteArray), [], [(smFr (⟨#[97]⟩ : ByteArray) ([] : List ByteArray)), (smFr (⟨#[98]⟩ : ByteArray) ([] : List ByteArray)), (smFr (⟨#[116]⟩ : ByteArray) ([(⟨#[97]⟩ : ByteArray)])), (smFr (⟨#[117]⟩ : ByteArray) (([(⟨#[116]⟩ : ByteArray), (⟨#[98]⟩ : ByteArray)] : List ByteArray)))]⟩ : Db)).frames)]) hJ hJ0 size_25_3 rfl rfl rfl (lb rfl) rfl (fun a w h => ⟨(h.get 13 rfl), (h.get 0 rfl)⟩) (sq_end ?_))))))))
 refine kw (lz [1, 3, 6, 12, 13] (env' := [(_, _), (_, _), (_, _), (_, _), (_, _)]) rfl) ?_
 refine nx (tr_fact (fun a w h => len_le h 0 rfl) fun hl1 => tr_fact (fun a w h => len_le h 1 rfl) fun hl2 => tr_fact (fun a w h => len_le h 2 rfl) fun hl3 => tr_fact (fun a w h => len_le h 3 rfl) fun hl4 => tr_ret (fun a w h => leaveC (cs := [strsC (((⟨([(⟨#[124, 45]⟩ : ByteArray), (⟨#[120]⟩ : ByteArray)] : List ByteArray), [], [(smFr (⟨#[97]⟩ : ByteArray) ([] : List ByteArray)), (smFr (⟨#[98]⟩ : ByteArray) ([] : List ByteArray)), (smFr (⟨#[116]⟩ : ByteArray) ([(⟨#[97]⟩ : ByteArray)])), (smFr (⟨#[117]⟩ : ByteArray) (([(⟨#[116]⟩ : ByteArray), (⟨#[98]⟩ : ByteArray)] : List ByteArray)))]⟩ : Db)).consts), strsC (((⟨([(⟨#[124, 45]⟩ : ByteArray), (⟨#[120]⟩ : ByteArray)] : List ByteArray), [], [(smFr (⟨#[97]⟩ : ByteArray) ([] : List ByteArray)), (smFr (⟨#[98]⟩ : ByteArray) ([] : List ByteArray)), (smFr (⟨#[116]⟩ : ByteArray) ([(⟨#[97]⟩ : ByteArray)])), (smFr (⟨#[117]⟩ : ByteArray) (([(⟨#[116]⟩ : ByteArray), (⟨#[98]⟩ : ByteArray)] : List ByteArray)))]⟩ : Db)).vars), frsC (((⟨([(⟨#[124, 45]⟩ : ByteArray), (⟨#[120]⟩ : ByteArray)] : List ByteArray), [], [(smFr (⟨#[97]⟩ : ByteArray) ([] : List ByteArray)), (smFr (⟨#[98]⟩ : ByteArray) ([] : List ByteArray)), (smFr (⟨#[116]⟩ : ByteArray) ([(⟨#[97]⟩ : ByteArray)])), (smFr (⟨#[117]⟩ : ByteArray) (([(⟨#[116]⟩ : ByteArray), (⟨#[98]⟩ : ByteArray)] : List ByteArray)))]⟩ : Db)).frames)]) (m := 4) rfl agg_25_3 h rfl rfl (show [strsC (((⟨([(⟨#[124, 45]⟩ : ByteArray), (⟨#[120]⟩ : ByteArray)] : List ByteArray), [], [(smFr (⟨#[97]⟩ : ByteArray) ([] : List ByteArray)), (smFr (⟨#[98]⟩ : ByteArray) ([] : List ByteArray)), (smFr (⟨#[116]⟩ : ByteArray) ([(⟨#[97]⟩ : ByteArray)])), (smFr (⟨#[117]⟩ : ByteArray) (([(⟨#[116]⟩ : ByteArray), (⟨#[98]⟩ : ByteArray)] : List ByteArray)))]⟩ : Db)).consts), strsC (((⟨([(⟨#[124, 45]⟩ : ByteArray), (⟨#[120]⟩ : ByteArray)] : List ByteArray), [], [(smFr (⟨#[97]⟩ : ByteArray) ([] : List ByteArray)), (smFr (⟨#[98]⟩ : ByteArray) ([] : List ByteArray)), (smFr (⟨#[116]⟩ : ByteArray) ([(⟨#[97]⟩ : ByteArray)])), (smFr (⟨#[117]⟩ : ByteArray) (([(⟨#[116]⟩ : ByteArray), (⟨#[98]⟩ : ByteArray)] : List ByteArray)))]⟩ : Db)).vars), frsC (((⟨([(⟨#[124, 45]⟩ : ByteArray), (⟨#[120]⟩ : ByteArray)] : List ByteArray), [], [(smFr (⟨#[97]⟩ : ByteArray) ([] : List ByteArray)), (smFr (⟨#[98]⟩ : ByteArray) ([] : List ByteArray)), (smFr (⟨#[116]⟩ : ByteArray) ([(⟨#[97]⟩ : ByteArray)])), (smFr (⟨#[117]⟩ : ByteArray) (([(⟨#[116]⟩ : ByteArray), (⟨#[98]⟩ : ByteArray)] : List ByteArray)))]⟩ : Db)).frames)] = [strsC smallD.consts, strsC smallD.vars, frsC smallD.frames] from rfl)))

theorem w_awake {J : World → Prop} (hJ : Stab J)  (hG : FormsJ J) : Fn Tryz.prog J 9 [] (.bool true) := by
 refine fn_enter (N := 33) Tryz.func9 rfl rfl (lb rfl) fun S w0 hS hJ0 => ?_
 refine tw st_own ?_
 refine k_seq (rgo tb hJ [] [_] [] [] rfl rfl rfl rfl trivial (nx (k_seq (tr_text (sq (.agg (dbC smallD)) rfl rfl (lb rfl) (fun _ _ h => r_fn (w_small hJ  ) call_42 rfl (xo_new hS _ h.keep h.x) (h.x.1) relL_nil (jo hJ h.x)) (sq_var (cs := dbC smallD) var_25_3 rfl rfl rfl (lb rfl) rfl rfl rfl (by decide) (m := 0) rfl rfl (fun a w h => xo_new hS _ h.keep h.x _ (Nat.le_refl _)) (fun a w h w' hk' => xo_stab hJ _ _ hk' h.x) (sq_end ?_)))))))
 refine kw (lz [0] (env' := [(_, _)]) rfl) ?_
 refine nx (k_seq (tr_text (sv (av := .agg (dbC smallD)) tb rfl rfl rfl rfl (sq_fn (O := []) (R := []) (p_Needs hJ (d := smallD) (i := (3 : Int)) (by exact smHw) (by exact hG)) call_15 rfl rfl rfl (lb rfl) hS hJ0 has_nil (fun a w h => (relL_cons (h.get 0 rfl) (relL_cons (Rel.of_lit (Go.Value.int Go.IntKind.i64 3)) relL_nil))) fun z1 => ?_))))
 refine sv tb rfl rfl rfl rfl (sv tb rfl rfl rfl rfl (sv tb rfl rfl rfl rfl (sv tb rfl rfl rfl rfl (sv tb rfl rfl rfl rfl (sq_end ?_)))))
 refine kw (lz [0, 1, 7] (env' := [(_, _), (_, _), (_, _)]) rfl) ?_
 refine nx (k_seq (rgo tb hJ [0, 1, 1003, 1005, 1006] [_, .tup [.rd (intsC ((if mstE smallD (3 : Int) (0 : Int) = 0 then mstL (usL smallD smallD.frames.length) (3 : Int).toNat (0 : Int).toNat else []))), .int (mstE smallD (3 : Int) (0 : Int))], _, _, _, _, _] [1] [(_, _), (_, _), (_, .rd (intsC ((if mstE smallD (3 : Int) (0 : Int) = 0 then mstL (usL smallD smallD.frames.length) (3 : Int).toNat (0 : Int).toNat else [])))), (_, .rd (intsC ((if mstE smallD (3 : Int) (0 : Int) = 0 then mstL (usL smallD smallD.frames.length) (3 : Int).toNat (0 : Int).toNat else [])))), (_, .int (mstE smallD (3 : Int) (0 : Int)))] rfl rfl rfl rfl ⟨hFo hS hJ (p_Must hJ (d := smallD) (f := (3 : Int)) (t := (0 : Int)) (by exact smHw) (by exact hG)) call_23 rfl rfl rfl rfl, trivial⟩ (nx (tr_fact (fun a w h => len_le h 2 rfl) fun hl1 => k_seq ?_))))
 refine tw (fun h => st_freeze hS h (m := 1) (s := 2) rfl) ?_
 refine rgo tb hJ [1016] [_, _, _, _, _, _, _, _, .rd (intsC (([(0 : Int), (1 : Int), (2 : Int)] : List Int))), .bool (decide ((((if chdE smallD (3 : Int) = 0 then nedL (usL smallD smallD.frames.length) (3 : Int).toNat else []))) = (([(0 : Int), (1 : Int), (2 : Int)] : List Int)))), _, _, _, .rd (intsC ([(2 : Int)])), .bool (decide (((if mstE smallD (3 : Int) (0 : Int) = 0 then mstL (usL smallD smallD.frames.length) (3 : Int).toNat (0 : Int).toNat else [])) = ([(2 : Int)]))), _, _] [8, 9, 13, 14] [(_, .bool ((((decide (chdE smallD (3 : Int) = (0 : Int))) && (decide (mstE smallD (3 : Int) (0 : Int) = (0 : Int)))) && (decide ((((if chdE smallD (3 : Int) = 0 then nedL (usL smallD smallD.frames.length) (3 : Int).toNat else []))) = (([(0 : Int), (1 : Int), (2 : Int)] : List Int))))) && (decide (((if mstE smallD (3 : Int) (0 : Int) = 0 then mstL (usL smallD smallD.frames.length) (3 : Int).toNat (0 : Int).toNat else [])) = ([(2 : Int)])))))] rfl rfl rfl rfl ⟨fun a _ hk hx _ _ => r_buildK (k := 3) (us := [a.eval (Go.Operand.const (Go.Value.int Go.IntKind.i64 0)), a.eval (Go.Operand.const (Go.Value.int Go.IntKind.i64 1)), a.eval (Go.Operand.const (Go.Value.int Go.IntKind.i64 2))]) elem_28_3_1 zeroK_3_1 rfl (by simp) (rdL_cons (Rel.of_lit (Go.Value.int Go.IntKind.i64 0)) (rdL_cons (Rel.of_lit (Go.Value.int Go.IntKind.i64 1)) (rdL_cons (Rel.of_lit (Go.Value.int Go.IntKind.i64 2)) rdL_nil))) rfl (by decide) (by decide) (xo_new hS _ hk hx _ (Nat.le_refl _)) (jo hJ hx), fun _ _ hk hx hl hc => r_fn (p_EqualI hJ (xs := (((if chdE smallD (3 : Int) = 0 then nedL (usL smallD smallD.frames.length) (3 : Int).toNat else [])))) (ys := (([(0 : Int), (1 : Int), (2 : Int)] : List Int))) ) call_14 rfl (xo_new hS _ hk hx) (hx.1) (relL_cons (hl.dep 7 24 _ rfl rfl rfl hc) (relL_cons (hl.dep 8 25 _ rfl rfl rfl hc) relL_nil)) (jo hJ hx), fun _ _ hk hx _ _ => r_build1 elem_28_3_1 zero_3 rfl (Rel.of_lit (Go.Value.int Go.IntKind.i64 2)) (xo_new hS _ hk hx _ (Nat.le_refl _)) (jo hJ hx), fun _ _ hk hx hl hc => r_fn (p_EqualI hJ (xs := ((if mstE smallD (3 : Int) (0 : Int) = 0 then mstL (usL smallD smallD.frames.length) (3 : Int).toNat (0 : Int).toNat else []))) (ys := ([(2 : Int)])) ) call_14 rfl (xo_new hS _ hk hx) (hx.1) (relL_cons (hl.dep 12 29 _ rfl rfl rfl hc) (relL_cons (hl.dep 13 30 _ rfl rfl rfl hc) relL_nil)) (jo hJ hx), trivial⟩ (nx (tr_ret (fun a w h => leave1' (m := 0) rfl (st_disown h) rfl (congrArg AV.bool (show ((((decide (chdE smallD (3 : Int) = (0 : Int))) && (decide (mstE smallD (3 : Int) (0 : Int) = (0 : Int)))) && (decide ((((if chdE smallD (3 : Int) = 0 then nedL (usL smallD smallD.frames.length) (3 : Int).toNat else []))) = (([(0 : Int), (1 : Int), (2 : Int)] : List Int))))) && (decide (((if mstE smallD (3 : Int) (0 : Int) = 0 then mstL (usL smallD smallD.frames.length) (3 : Int).toNat (0 : Int).toNat else [])) = ([(2 : Int)])))) = true from by rw [if_pos smChd, if_pos smMstE, smNed, smMst, smChd, smMstE]; simp)))))

theorem w_Few1 {J : World → Prop} (hJ : Stab J) (f : Fr)  : Fn Tryz.prog J 41 [.agg (frC f)] (.bool (decide ((200 : Int) < ((f.proof.length : Nat) : Int)))) := by
 refine fn_enter (N := 7) Tryz.func41 rfl rfl (lb rfl) fun S w0 hS hJ0 => ?_
 clear hJ0
 refine k_seq (rg tb hJ [1000] [_, _] [0] [(_, .ptr (frC f))] rfl rfl rfl rfl ⟨fun _ _ hk hx hl _ => r_box rfl (hl.env 0 0 _ rfl rfl) (hS _ hk.size) (js hJ hx), trivial⟩ (nx (k_seq (rg tb hJ [1001, 1004] [_, _, .int (((f.proof.length : Nat) : Int)), _, _] [2] [(_, .rd (strsC f.proof)), (_, .bool (decide ((200 : Int) < ((f.proof.length : Nat) : Int))))] rfl rfl rfl rfl ⟨hLen unds_22_9 rfl rfl rfl rfl, trivial⟩ (nx (tr_fact (fun a w h => len_le h 0 rfl) fun hl1 => tr_ret (fun a w h => leave1' (m := 1) rfl h rfl rfl)))))))

theorem w_Few {J : World → Prop} (hJ : Stab J) (d : Db)  : Fn Tryz.prog J 8 [.agg (dbC d)] (.bool (fewD d)) := by
 refine fn_enter (N := 13) Tryz.func8 rfl rfl (lb rfl) fun S w0 hS hJ0 => ?_
 clear hJ0
 refine k_seq (rg tb hJ [1000] [_, _] [0] [(_, .ptr (dbC d))] rfl rfl rfl rfl ⟨fun _ _ hk hx hl _ => r_box rfl (hl.env 0 0 _ rfl rfl) (hS _ hk.size) (js hJ hx), trivial⟩ (nx (k_seq (rg tb hJ [1001, 1010] [_, _, .int (((d.frames.length : Nat) : Int)), _, _, _, _, .bool (d.frames.any (fun (f' : Fr) => decide ((200 : Int) < ((f'.proof.length : Nat) : Int)))), _, _, _] [2, 7] [(_, .rd (frsC d.frames)), (_, .bool ((decide (((d.frames.length : Nat) : Int) ≤ (30 : Int))) && (!(d.frames.any (fun (f' : Fr) => decide ((200 : Int) < ((f'.proof.length : Nat) : Int)))))))] rfl rfl rfl rfl ⟨hLen unds_23_59 rfl rfl rfl rfl, fun _ _ hk hx hl hc => r_fnR (p_ContainsFuncF hJ (xs := d.frames) (f := 41) (caps := []) (Os := []) (p := (fun (f' : Fr) => decide ((200 : Int) < ((f'.proof.length : Nat) : Int)))) (fun q' => (w_Few1 hJ q').rr) (call_41)) call_40 rfl (nm hS hk) (hx) has_nil (relL_cons (hl.dep 6 9 _ rfl rfl rfl hc) (relL_cons (rel_func 41) relL_nil)) (js hJ hx), trivial⟩ (nx (tr_fact (fun a w h => len_le h 0 rfl) fun hl1 => tr_ret (fun a w h => leave1' (m := 1) rfl h rfl (congrArg AV.bool (show ((decide (((d.frames.length : Nat) : Int) ≤ (30 : Int))) && (!(d.frames.any (fun (f' : Fr) => decide ((200 : Int) < ((f'.proof.length : Nat) : Int)))))) = (fewD d) from rfl)))))))))

end Go.Proofs.YtnpgmdffjemnbaaGreatDoor
namespace Go.Proofs.YtnpgmdffjemnbaaGreatDoor

theorem chdE_in {d : Db} {i : Int} (h0 : chkE d = 0) (h1 : 0 ≤ i) (h2 : i < d.frames.length) : chdE d i = 0 := by
  rw [chdE]
  simp [h0]
  omega
/-- A database without an error, within the statements' bounds. -/
def rightD (d : Db) : Bool := fewD d && decide (chkE d = 0)
theorem rightD_chk {d : Db} (h : rightD d = true) : chkE d = 0 := by
  simp [rightD] at h; exact h.2
theorem rightD_len {d : Db} (h : rightD d = true) : d.frames.length ≤ 30 := by
  simp [rightD, fewD] at h; omega
end Go.Proofs.YtnpgmdffjemnbaaGreatDoor
set_option maxHeartbeats 8000000
set_option maxRecDepth 100000
namespace Go.Proofs.YtnpgmdffjemnbaaGreatDoor
open Go.RowKit

theorem w_right {J : World → Prop} (hJ : Stab J) (d : Db) (hw : ∀ f ∈ d.frames, f.wide.length * 32 ≤ 140737488351232) (hG : FormsJ J) : Fn Tryz.prog J 21 [.agg (dbC d)] (.bool (rightD d)) := by
 refine fn_enter (N := 10) Tryz.func21 rfl rfl (lb rfl) fun S w0 hS hJ0 => ?_
 refine tw st_own ?_
 refine k_seq (rgo tb hJ [1000] [_, _] [0] [(_, .ptr (dbC d))] rfl rfl rfl rfl ⟨fun _ _ hk hx hl _ => r_box rfl (hl.env 0 0 _ rfl rfl) (xo_new hS _ hk hx _ (Nat.le_refl _)) (jo hJ hx), trivial⟩ (nx (k_seq (rgo tb hJ [1007] [_, .bool (fewD d), _, _, .int (chkE d), _, _, _] [1, 4] [(_, .bool ((fewD d) && (decide (chkE d = (0 : Int)))))] rfl rfl rfl rfl ⟨hFo hS hJ (w_Few hJ (d := d) ) call_8 rfl rfl rfl rfl, fun _ _ hk hx hl hc => r_fn (p_Check hJ (d := d) (by have hc' : (((fewD d) == true)) = true := hc; (try simp at hc'); (exact hw)) (by have hc' : (((fewD d) == true)) = true := hc; (try simp at hc'); (exact hG))) call_54 rfl (xo_new hS _ hk hx) (hx.1) (relL_cons (hl.dep 3 6 _ rfl rfl rfl hc) relL_nil) (jo hJ hx), trivial⟩ (nx (tr_ret (fun a w h => leave1' (m := 0) rfl (st_disown h) rfl (congrArg AV.bool (show ((fewD d) && (decide (chkE d = (0 : Int)))) = (rightD d) from rfl)))))))))

end Go.Proofs.YtnpgmdffjemnbaaGreatDoor
