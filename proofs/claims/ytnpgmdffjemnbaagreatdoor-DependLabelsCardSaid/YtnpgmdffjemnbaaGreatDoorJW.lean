/-
  CONTRACTS: slices.Sorted(maps.Keys(..)) at a set of numbers.
  PLAIN LAW: what a proof names; what each assertion uses, as the program finds it.
  CONTRACTS of the program: who uses what.
  PLAIN LAW: what can be reached.
  CONTRACTS of the program: what is needed.
  PLAIN LAW: what is needed, in order; depths.
  CONTRACTS of the program: uses, users, depths.
  CONTRACTS of the program: needs, axioms, depth.
  PLAIN LAW: what is needed without one of them, as the reference marks it.
  PLAIN LAW: what is on every chain, as the program finds it.
  CONTRACTS of the program: what is on every chain.
  THE LAW's SMALL DATABASE: what it is, and what is said of it.
  CONTRACTS of the law: the small database, awake, few.
  CONTRACTS: needs, axioms, depths by the reference.
  AN ORDER BY PRIORITIES: the numbers of given labels, the rest behind them, the first that is ready again and again.
  CONTRACTS of the program: an order by priorities.
  CONTRACTS: an order by priorities by the reference.
-/
import Derived.Test.YtnpgmdffjemnbaaGreatDoorJJ
import Derived.Test.YtnpgmdffjemnbaaGreatDoorJV
import Derived.Test.YtnpgmdffjemnbaaGreatDoorJS
import Derived.WalkKit
import Derived.OwnWalkIn
import Derived.TacticsInMore
import Derived.Test.YtnpgmdffjemnbaaGreatDoorJU
import Derived.Test.YtnpgmdffjemnbaaGreatDoorJK
import Derived.Test.YtnpgmdffjemnbaaGreatDoorJL
import Derived.Test.YtnpgmdffjemnbaaGreatDoorJP
namespace Go.Proofs.YtnpgmdffjemnbaaGreatDoor
open Go.RowKit Go.Maps Go.Sort Go.Shelf

def Y0 (xs : List Int) : List Int := xs.mergeSort fun x y => decide (x ≤ y)
theorem sortsA (m : Nat) : AnyZI.SortsIn Tryz.prog Tryz.sortedA_ren Fence.wide m :=
  ⟨fun blk off cap ss W hH hblk hsz => callsIn_wide.2 (AnyM.slices_Sort_int Tryz.sortA blk off cap ss W hH hblk hsz),
   fun p cap W => callsIn_wide.2 (AnyM.slices_Sort_int_none Tryz.sortA p cap W)⟩

set_option maxHeartbeats 2000000 in
set_option maxRecDepth 100000 in
theorem Zgv {H : Type} (b nn : Nat) (D0 : DataW H) (R : Value → Option (DataW H × List MemPlace)) (w : World) (hown : w.ownsMap Tryz.prog 3 R b nn D0) (hmax : Maps.size D0 ≤ maxLen) (hbytes : Maps.size D0 * 8 ≤ 140737488355328) :
    Calls Tryz.prog 48 #[.map (some b)] w fun e w' => ∃ (v : Value) (ss : List Int), e = .returned v ∧ ss.Perm (intKeys D0) ∧
      w'.ownsRow w.heap.size 3 1 v ss.length ((ss.mergeSort (fun x y => decide (x ≤ y))).map encZ) ∧ (v = .slice none 0 0 ↔ ss = []) ∧ Below w.heap.size w w' := by
  refine (callsIn_wide (n := 6)).1 ?_
  have hbl := hown.lt
  have hseq : SeqGives Fence.wide 2 Tryz.prog 85 #[.pointer (some ⟨w.heap.size, 0, none⟩)] encZ (fun ss => ss.Perm (intKeys D0)) (Maps.size D0) (w.alloc (.cells #[.map (some b)] 70)) :=
    AnyZI.keys_gives (ρ := Tryz.keysA_ren) { Tryz.keysA with } Fence.wide _ trivial rfl (by omega) w.heap.size b nn D0 _ (by simp) (by simp) (by
      obtain ⟨es, clock, hb, Ft, hs, hD⟩ := hown
      exact ⟨es, clock, (Below.heap_alloc _ _ b hbl).trans hb, Ft, hs, hD⟩)
  have cK : ∀ mb W, CallsIn Fence.wide 5 Tryz.prog 74 #[.map mb] W fun e w' => e = .returned (.func (.func 85) #[] #[.pointer (some ⟨W.heap.size, 0, none⟩)]) ∧ w' = W.alloc (.cells #[.map mb] 70) := fun mb W => AnyZI.keys_in Tryz.keysA Fence.wide 5 trivial rfl mb W
  have cS := AnyZI.sorted_in Tryz.sortedA Fence.wide 5 trivial trivial trivial trivial rfl (by omega) (sortsA _) (enters_of Tryz.func84 (by kernel_rfl) rfl) 85 #[.pointer (some ⟨w.heap.size, 0, none⟩)] trivial (enters_of Tryz.func85 (by kernel_rfl) rfl) _ _ hmax hbytes _ hseq
  change CallsIn _ _ Tryz.prog 73 _ _ _ at cS
  have hfK : Fence.wide.fn 74 := trivial
  have hfS : Fence.wide.fn 73 := trivial
  refine callsIn_of_wp Tryz.func48 rfl trivial ?_ rfl
  simp only [Tryz.ntmps48, List.size_toArray, List.length_cons, List.length_nil, Nat.reduceAdd, Nat.reduceSub, Array.replicate_succ, Array.replicate_zero, List.push_toArray, List.append_toArray, List.nil_append, List.cons_append]
  gi_wp2_with (first
    | (gi_at_call 74; refine (cK _ _).mono ?_; rintro e w' ⟨rfl, rfl⟩)
    | (gi_at_call 73; refine cS.mono ?_; rintro e w' ⟨v, ss, rfl, hS, hrow, hnil, hb⟩))
  go_ret
  exact ⟨v, ss, rfl, hS, ownsRow_base_a hrow (by simp), hnil, ((Below.refl _ w).alloc (Nat.le_refl _) _).trans (hb.mono (by simp))⟩

theorem Zgy {w : World} {M : Nat} {xs : List Int} {S : Nat → Prop} {lo : Nat} (hi : (OB.set keyI M xs).inv lo S w) (hx : ∀ x ∈ xs, (Lit.int .i64 x).wf = true) (hl : xs.length ≤ maxLen) :
    ∃ D0 : DataW Unit, w.ownsMap Tryz.prog 3 (plainElem Tryz.prog 4) M xs.length D0 ∧ (intKeys D0).Perm xs ∧ Maps.size D0 = xs.length := by
  obtain ⟨_, Lv, ⟨es, clock, hm, hE, hN, hB, hC⟩, hR⟩ := hi
  have key : ∀ (xs : List Int) (Lv : List (Int × Value)), RelM S w (fun b : Bool => AV.bool b) (xs.map fun x => (x, true)) Lv → Lv = xs.map fun x => (x, .bool true) := by
    intro xs
    induction xs with
    | nil => intro Lv h; cases Lv with | nil => rfl | cons _ _ => exact h.elim
    | cons x xs ih =>
      intro Lv h
      cases Lv with
      | nil => exact h.elim
      | cons q Lv =>
        obtain ⟨h1, h2, h3⟩ := h
        rw [ih Lv h3, List.map_cons]
        obtain ⟨a, b⟩ := q
        simp only at h1 h2
        rw [h1, h2.lit]
  have hLv := key xs Lv hR
  subst hLv
  have hE' : es.toList.map (fun e => (e.key, e.val)) = xs.map fun x => (Value.int .i64 x, Value.bool true) := by
    rw [hE, List.map_map]; rfl
  have hkeys : es.toList.map (·.key) = xs.map fun x => Value.int .i64 x := by
    have := congrArg (List.map Prod.fst) hE'
    simpa [Function.comp_def] using this
  have hnd : xs.Nodup := by simpa [Function.comp_def] using hN
  have hsz : es.size = xs.length := by
    have := congrArg List.length hE'
    simpa using this
  have hrd : ∀ e ∈ es.toList, ∃ x ∈ xs, e.key = .int .i64 x ∧ e.val = .bool true := fun e he => by
    have : (e.key, e.val) ∈ es.toList.map (fun e => (e.key, e.val)) := List.mem_map_of_mem he
    rw [hE'] at this
    obtain ⟨x, hx, hxe⟩ := List.mem_map.1 this
    simp only [Prod.mk.injEq] at hxe
    exact ⟨x, hx, hxe.1.symm, hxe.2.symm⟩
  have hone : ∀ e ∈ es.toList, ∀ x, x ∈ xs → e.key = .int .i64 x → e.val = .bool true → Go.WideElems.rd (H := Unit) Tryz.prog 3 (plainElem Tryz.prog 4) e = some (.int .i64 x, .lit (.bool true)) := fun e _ x hxx h1 h2 => by
    unfold Go.WideElems.rd
    rw [h1, h2, Maps.keyOf_int_mk Tryz.underlying3 (hx x hxx), plainElem_bool Tryz.underlying4]
    rfl
  have hmap : es.toList.map (Go.WideElems.rg (H := Unit) Tryz.prog 3 (plainElem Tryz.prog 4)) = xs.map fun x => (Lit.int .i64 x, DataW.lit (.bool true)) := by
    have e1 : es.toList.map (Go.WideElems.rg (H := Unit) Tryz.prog 3 (plainElem Tryz.prog 4)) = (es.toList.map (fun e => (e.key, e.val))).map fun p => (match p.1 with | .int _ x => Lit.int .i64 x | _ => .bool false, DataW.lit (.bool true)) := by
      rw [List.map_map]
      refine List.map_congr_left fun e he => ?_
      obtain ⟨x, hxx, h1, h2⟩ := hrd e he
      unfold Go.WideElems.rg
      rw [hone e he x hxx h1 h2]
      simp [h1]
    rw [e1, hE', List.map_map]
    rfl
  refine ⟨.map ((es.toList.map (Go.WideElems.rg Tryz.prog 3 (plainElem Tryz.prog 4))).foldr DataW.insert []), ⟨es, clock, hm, ⟨by rw [hsz]; exact hl, ⟨hC, ?_, ?_⟩, fun e he => ?_⟩, Nat.le_of_eq hsz, rfl⟩, ?_, ?_⟩
  · exact hB.imp fun h => Nat.ne_of_lt h
  · rw [hkeys]
    exact (List.pairwise_map.2 (hnd.imp fun hne e => hne (by simpa using e)))
  · obtain ⟨x, hxx, h1, h2⟩ := hrd e he
    exact ⟨_, hone e he x hxx h1 h2⟩
  · have hp := Go.WideShapes.sorted_perm (es.toList.map (Go.WideElems.rg (H := Unit) Tryz.prog 3 (plainElem Tryz.prog 4)))
    have := hp.map fun p => Go.intOf p.1
    refine this.trans ?_
    rw [hmap, List.map_map]
    exact List.Perm.of_eq (by rw [show ((fun p : Lit × DataW Unit => Go.intOf p.1) ∘ fun x => (Lit.int .i64 x, DataW.lit (.bool true))) = id from rfl, List.map_id])
  · have hp := (Go.WideShapes.sorted_perm (es.toList.map (Go.WideElems.rg (H := Unit) Tryz.prog 3 (plainElem Tryz.prog 4)))).length_eq
    have : Maps.size (DataW.map ((es.toList.map (Go.WideElems.rg (H := Unit) Tryz.prog 3 (plainElem Tryz.prog 4))).foldr DataW.insert [])) = ((es.toList.map (Go.WideElems.rg (H := Unit) Tryz.prog 3 (plainElem Tryz.prog 4))).foldr DataW.insert []).length := rfl
    rw [this, hp, hmap, List.length_map]

theorem ZgV {J : World → Prop} (hJ : Stab J) (M : Nat) (xs : List Int) (hx : ∀ x ∈ xs, 0 ≤ x ∧ x < 1000) (hl : xs.length ≤ 1000) : FnR Tryz.prog J 48 [OB.set keyI M xs] [.lit (.map (some M))] (.rd (ZJ (Y0 xs))) := by
  intro S w vs hS hJ0 hH ha
  simp only [RelL] at ha
  obtain ⟨u, us, rfl, h1, rfl⟩ := ha
  rw [h1.lit]
  obtain ⟨lo, hi⟩ := hH _ (List.mem_singleton.2 rfl)
  obtain ⟨D0, hown, hp, hsz⟩ := Zgy hi (fun x hxx => by have := hx x hxx; simp [Lit.wf, IntKind.min, IntKind.max, IntKind.bits, IntKind.signed]; omega) (by unfold maxLen; omega)
  refine (Zgv M xs.length D0 _ w hown (by rw [hsz]; unfold maxLen; omega) (by rw [hsz]; omega)).mono fun e w' ⟨v, ss, he, hS', hrow, _, hb⟩ => ?_
  have hk : Keeps All w w' := (Keeps.of_below hb).sub fun k hk _ => hk
  have e0 : ss.mergeSort (fun x y => decide (x ≤ y)) = Y0 xs := mergeSort_of_perm_i (hS'.trans hp)
  rw [e0] at hrow
  have hlen : (Y0 xs).length = ss.length := by rw [← e0, List.length_mergeSort]
  refine ⟨v, he, ?_, hk, hJ w w' hk hJ0⟩
  have hinv : (OB.row v 3 1 ((Y0 xs).map Xa)).inv w.heap.size S w' := ⟨(Y0 xs).map encZ, by rw [List.length_map, hlen]; exact hrow, ?_, fun r hr => by obtain ⟨x, _, rfl⟩ := List.mem_map.1 hr; rfl⟩
  · exact ZgB (fun k hk => hS k ((OB.row v 3 1 ((Y0 xs).map Xa)).lt hinv k hk).1) hinv
  · generalize Y0 xs = l
    induction l with
    | nil => trivial
    | cons x l ih => exact ⟨.lit _ True.intro, ih⟩
end Go.Proofs.YtnpgmdffjemnbaaGreatDoor
namespace Go.Proofs.YtnpgmdffjemnbaaGreatDoor

def isC (s : ByteArray) (x : ByteArray) : Bool := decide (s = x)
theorem Zju {l : List ByteArray} (h0 : 0 < l.length) (h1 : ge l 0 = ⟨#[40]⟩) : X9 l = (l.drop 1).takeWhile fun s => !decide (s = ⟨#[41]⟩) := by
  rw [X9, if_pos (by simp [h0, h1])]
theorem ZmT {α : Type} {p : α → Bool} : ∀ {xs : List α}, (∀ x ∈ xs, p x = true) → xs.takeWhile p = xs
  | [], _ => rfl
  | x :: xs, h => by rw [List.takeWhile_cons_of_pos (h x (by simp)), ZmT fun y hy => h y (by simp [hy])]
theorem tw_hit {xs : List ByteArray} {c : ByteArray} (h : 0 ≤ YS (isC c) xs) : xs.take (YS (isC c) xs).toNat = xs.takeWhile fun s => !decide (s = c) := by
  obtain ⟨_, h3, h4, h5⟩ := YZ (p := isC c) (xs := xs) (by omega)
  refine QN (Nat.le_of_lt h3) (fun j hj => ?_) fun ⟨_, h⟩ => ?_
  · have := h5 j hj
    simp only [isC, decide_eq_false_iff_not] at this
    simpa using fun e => this e.symm
  · simp only [isC, decide_eq_true_eq] at h4
    rw [Bool.not_eq_true', decide_eq_false_iff_not] at h
    exact h h4.symm
theorem Znu {xs : List ByteArray} {c : ByteArray} (h : ¬ 0 ≤ YS (isC c) xs) : xs = xs.takeWhile fun s => !decide (s = c) := by
  have h2 : YS (isC c) xs = -1 := Classical.byContradiction fun hn => h (YZ hn).1
  symm
  refine ZmT fun x hx => ?_
  unfold YS at h2
  cases hf : xs.findIdx? (isC c) with
  | some i => rw [hf] at h2; simp at h2
  | none =>
    rw [List.findIdx?_eq_none_iff] at hf
    have := hf _ hx
    simp only [isC, decide_eq_false_iff_not] at this
    simpa using fun e => this e.symm
theorem ZdG {l : List ByteArray} (h0 : 0 < l.length) (h1 : ge l 0 = ⟨#[40]⟩) (h : 0 ≤ YS (isC ⟨#[41]⟩) (l.drop 1)) : (l.drop 1).take (YS (isC ⟨#[41]⟩) (l.drop 1)).toNat = X9 l := by rw [Zju h0 h1, tw_hit h]
theorem Zce {l : List ByteArray} (h0 : 0 < l.length) (h1 : ge l 0 = ⟨#[40]⟩) (h : ¬ 0 ≤ YS (isC ⟨#[41]⟩) (l.drop 1)) : l.drop 1 = X9 l := by rw [Zju h0 h1]; exact Znu h

def AtI (d : Db) (k : Nat) (L : List (ByteArray × Int)) : Prop := ∀ s j, Zy L s = some j ↔ ∃ p, p < k ∧ j = (p : Int) ∧ (ge d.frames p).label = s
def ZmP (d : Db) (k : Nat) (ws : List ByteArray) (xs : List Int) : Prop := xs.Nodup ∧ ∀ x, x ∈ xs ↔ ∃ p, p < k ∧ x = (p : Int) ∧ (ge d.frames p).label ∈ ws
theorem ZkL (d : Db) (k : Nat) : ZmP d k [] [] := ⟨.nil, fun x => by simp⟩
theorem Zdc {xs : List Int} {k : Int} (h : xs.Nodup) : (Y5 xs k).Nodup := by
  unfold Y5
  split
  · exact h
  · rename_i hk
    rw [List.nodup_append]
    exact ⟨h, by simp, fun x hx y hy e => by rw [List.mem_singleton.1 hy] at e; subst e; exact hk hx⟩
theorem ZgA {d : Db} {k : Nat} {L : List (ByteArray × Int)} {ws : List ByteArray} {xs : List Int} {w : ByteArray} (hL : AtI d k L) (h : ZmP d k ws xs) (hs : (Zy L w).isSome = true) (hd : ∀ p q, p < k → q < k → (ge d.frames p).label = (ge d.frames q).label → p = q) :
    ZmP d k (ws ++ [w]) (Y5 xs ((Zy L w).getD default)) := by
  obtain ⟨j, hj⟩ := Option.isSome_iff_exists.1 hs
  rw [hj, Option.getD_some]
  obtain ⟨p, h1, h2, h3⟩ := (hL w j).1 hj
  refine ⟨Zdc h.1, fun x => ?_⟩
  rw [mem_addS, h.2 x]
  constructor
  · rintro (⟨q, g1, g2, g3⟩ | rfl)
    · exact ⟨q, g1, g2, by simp [g3]⟩
    · exact ⟨p, h1, h2, by simp [h3]⟩
  · rintro ⟨q, g1, g2, g3⟩
    rcases List.mem_append.1 g3 with g3 | g3
    · exact .inl ⟨q, g1, g2, g3⟩
    · right
      rw [g2, h2, hd q p g1 h1 (by rw [h3]; exact List.mem_singleton.1 g3)]
theorem Zes {d : Db} {k : Nat} {L : List (ByteArray × Int)} {ws : List ByteArray} {xs : List Int} {w : ByteArray} (hL : AtI d k L) (h : ZmP d k ws xs) (hs : (Zy L w).isSome = false) : ZmP d k (ws ++ [w]) xs := by
  refine ⟨h.1, fun x => ?_⟩
  rw [h.2 x]
  constructor
  · rintro ⟨q, g1, g2, g3⟩; exact ⟨q, g1, g2, by simp [g3]⟩
  · rintro ⟨q, g1, g2, g3⟩
    rcases List.mem_append.1 g3 with g3 | g3
    · exact ⟨q, g1, g2, g3⟩
    · exfalso
      have := (hL w (q : Int)).2 ⟨q, g1, rfl, List.mem_singleton.1 g3⟩
      rw [this] at hs
      cases hs
theorem ZiA (d : Db) (ws : List ByteArray) (k : Nat) : (QK d ws k).Pairwise (· < ·) := by
  unfold QK
  rw [List.pairwise_map]
  refine List.Pairwise.imp (R := (· < ·)) (fun {a b} h => by omega) ?_
  exact List.pairwise_lt_range.filter _
theorem Zdv {xs ys : List Int} (h1 : xs.Nodup) (h2 : ys.Pairwise (· < ·)) (h : ∀ x, x ∈ xs ↔ x ∈ ys) : Y0 xs = ys := by
  have hn : ys.Nodup := h2.imp fun h => by omega
  have hp : xs.Perm ys := (List.perm_ext_iff_of_nodup h1 hn).2 h
  refine (mergeSort_of_perm_i hp).trans ?_
  exact List.mergeSort_of_pairwise (h2.imp fun h => by simp [leI]; omega)
theorem ZaL : ∀ {xs ys : List Int}, xs.Nodup → (∀ x ∈ xs, x ∈ ys) → xs.length ≤ ys.length
  | [], _, _, _ => by simp
  | x :: xs, ys, h, hs => by
    have h1 := List.nodup_cons.1 h
    have h2 := ZaL (xs := xs) (ys := ys.erase x) h1.2 fun z hz => by
      have hne : z ≠ x := fun e => h1.1 (e ▸ hz)
      exact (List.mem_erase_of_ne hne).2 (hs z (by simp [hz]))
    have h3 := List.length_erase_of_mem (hs x (by simp))
    have h4 : 0 < ys.length := List.length_pos_of_mem (hs x (by simp))
    simp only [List.length_cons]
    omega
theorem Zgz {d : Db} {k : Nat} {ws : List ByteArray} {xs : List Int} (h : ZmP d k ws xs) : (∀ x ∈ xs, 0 ≤ x ∧ x < k) ∧ xs.length ≤ k := by
  have h1 : ∀ x ∈ xs, 0 ≤ x ∧ x < k := fun x hx => by obtain ⟨p, g1, g2, _⟩ := (h.2 x).1 hx; omega
  refine ⟨h1, ?_⟩
  have h4 := ZaL h.1 (ys := (List.range k).map fun (p : Nat) => (p : Int)) fun x hx => by
    have := h1 x hx
    rw [List.mem_map]
    exact ⟨x.toNat, by rw [List.mem_range]; omega, by omega⟩
  simpa using h4
theorem Zj5 {d : Db} (h : Xk d = 0) : ∀ k, k < d.frames.length → frE d k = 0 := by
  unfold Xk at h
  split at h
  · simp at h
  · split at h
    · rename_i h1; simp [h] at h1
    · exact Zab h
theorem Zn2 {d : Db} {k : Nat} (h : frE d k = 0) : frL d k (ge d.frames k).label = false := by
  unfold frE ZaY at h
  by_cases h1 : (!Zbn (ge d.frames k).label) = true
  · rw [if_pos h1] at h; exact absurd h (by decide)
  rw [if_neg h1] at h
  by_cases h2 : ((frL d k (ge d.frames k).label || hyL d k (ge d.frames k).label) || ZaE d (ge d.frames k).label) = true
  · rw [if_pos h2] at h; exact absurd h (by decide)
  simp only [Bool.or_eq_true, not_or, Bool.not_eq_true] at h2
  exact h2.1.1
theorem Zn1 {d : Db} {k : Nat} (h : frE d k = 0) : (ge d.frames k).thm = false → (ge d.frames k).proof = [] := fun ht => by
  refine Classical.byContradiction fun hn => ?_
  have hp : 0 < (ge d.frames k).proof.length := List.length_pos_iff.2 hn
  unfold frE ZaY at h
  by_cases h1 : (!Zbn (ge d.frames k).label) = true
  · rw [if_pos h1] at h; exact absurd h (by decide)
  rw [if_neg h1] at h
  by_cases h2 : ((frL d k (ge d.frames k).label || hyL d k (ge d.frames k).label) || ZaE d (ge d.frames k).label) = true
  · rw [if_pos h2] at h; exact absurd h (by decide)
  rw [if_neg h2] at h
  by_cases h3 : (decide ((40 : Int) < (((ge d.frames k).hyps.length : Nat) : Int)) || decide ((40 : Int) < (((ge d.frames k).dummies.length : Nat) : Int))) = true
  · rw [if_pos h3] at h; exact absurd h (by decide)
  rw [if_neg h3] at h
  by_cases h4 : (!decide (Zkt d k = 0)) = true
  · rw [if_pos h4] at h; simp [h] at h4
  rw [if_neg h4] at h
  by_cases h5 : (decide ((((ge d.frames k).text.length : Nat) : Int) = 0) || decide (200 < (((ge d.frames k).text.length : Nat) : Int))) = true
  · rw [if_pos h5] at h; exact absurd h (by decide)
  rw [if_neg h5] at h
  by_cases h6 : (!decide (QY d (ge d.frames k).text = 0)) = true
  · rw [if_pos h6] at h; simp [h] at h6
  rw [if_neg h6] at h
  by_cases h7 : (!Zbt d (ge d.frames k)) = true
  · rw [if_pos h7] at h; exact absurd h (by decide)
  rw [if_neg h7, if_pos (by rw [ht, decide_eq_true (show (0 : Int) < (((ge d.frames k).proof.length : Nat) : Int) by omega)]; rfl)] at h
  exact absurd h (by decide)
theorem Zng {d : Db} (h : Xk d = 0) {p q : Nat} (hpq : p < q) (hq : q < d.frames.length) : (ge d.frames p).label ≠ (ge d.frames q).label := fun e => by
  have := Zn2 (Zj5 h q hq)
  unfold frL at this
  rw [List.any_eq_false] at this
  refine this (ge d.frames p) ?_ (by simp [e])
  have e2 : ge (d.frames.take q) p = ge d.frames p := by simp [ge, List.getD_eq_getElem?_getD, hpq]
  rw [← e2]
  exact Zg (by rw [List.length_take]; omega)
theorem ZfT {d : Db} (h : Xk d = 0) {p q : Nat} (hp : p < d.frames.length) (hq : q < d.frames.length) (e : (ge d.frames p).label = (ge d.frames q).label) : p = q := by
  rcases Nat.lt_trichotomy p q with h1 | h1 | h1
  · exact absurd e (Zng h h1 hq)
  · exact h1
  · exact absurd e.symm (Zng h h1 hp)
theorem ZmL (d : Db) : AtI d 0 [] := fun s j => by simp [XN]
theorem ZmM {d : Db} (h : Xk d = 0) {k : Nat} (hk : k < d.frames.length) {L : List (ByteArray × Int)} (hL : AtI d k L) : AtI d (k + 1) (QH L (ge d.frames k).label (k : Int)) := fun s j => by
  rw [Xs]
  by_cases e : s = (ge d.frames k).label
  · rw [if_pos e]
    constructor
    · intro hj
      exact ⟨k, by omega, by simpa using hj.symm, e.symm⟩
    · rintro ⟨p, h1, h2, h3⟩
      have : p = k := ZfT h (by omega) hk (by rw [h3, e])
      rw [h2, this]
  · rw [if_neg e, hL s j]
    constructor
    · rintro ⟨p, h1, h2, h3⟩; exact ⟨p, by omega, h2, h3⟩
    · rintro ⟨p, h1, h2, h3⟩
      refine ⟨p, ?_, h2, h3⟩
      rcases Nat.lt_or_ge p k with h4 | h4
      · exact h4
      · have : p = k := by omega
        subst this
        exact absurd h3.symm e
theorem ZkC {d : Db} (h : Xk d = 0) {k : Nat} (hk : k < d.frames.length) {xs : List Int} (hx : ZmP d k (X9 (ge d.frames k).proof) xs) : Y0 xs = ZT d k := by
  unfold ZT
  by_cases ht : (ge d.frames k).thm = true
  · rw [if_pos ht]
    refine Zdv hx.1 (ZiA _ _ _) fun x => ?_
    rw [hx.2 x, QK, List.mem_map]
    constructor
    · rintro ⟨p, h1, h2, h3⟩
      exact ⟨p, by rw [List.mem_filter, List.mem_range]; exact ⟨h1, by simpa using h3⟩, h2.symm⟩
    · rintro ⟨p, h1, h2⟩
      rw [List.mem_filter, List.mem_range] at h1
      exact ⟨p, h1.1, h2.symm, by simpa using h1.2⟩
  · rw [if_neg ht]
    have hp := Zn1 (Zj5 h k hk) (by simpa using ht)
    have : xs = [] := by
      refine List.eq_nil_iff_forall_not_mem.2 fun x hx' => ?_
      obtain ⟨p, _, _, h3⟩ := (hx.2 x).1 hx'
      rw [hp] at h3
      simp [X9] at h3
    rw [this]; simp [Y0]
def usL (d : Db) (k : Nat) : List (List Int) := (List.range k).map fun i => ZT d i
theorem ZkE (d : Db) (k : Nat) : usL d (k + 1) = usL d k ++ [ZT d k] := by rw [usL, List.range_succ, List.map_append]; rfl
theorem Xl (d : Db) (k : Nat) : (usL d k).length = k := by simp [usL]
theorem ZcV {d : Db} {n k : Nat} (h : k < n) : ge (usL d n) k = ZT d k := by
  rw [Xz (by rw [Xl]; exact h)]
  simp [usL]
def rdE (d : Db) (ns : List Int) : Int := if !decide (Xk d = 0) then Xk d else if ns.any fun i => decide (i < 0) || decide (((d.frames.length : Nat) : Int) ≤ i) then 3 else 0
theorem Zb1 (d : Db) (i : Int) : rdE d [i] = Zif d i := by simp [rdE, Zif]
theorem Yc (d : Db) : rdE d [] = Xk d := by
  unfold rdE
  split
  · rfl
  · rename_i h
    simp at h
    simp [h]
end Go.Proofs.YtnpgmdffjemnbaaGreatDoor
set_option maxHeartbeats 8000000
set_option maxRecDepth 100000
namespace Go.Proofs.YtnpgmdffjemnbaaGreatDoor
open Go.RowKit

theorem Zlc {J : World → Prop} (hJ : Stab J) (xs : List ByteArray) (s : ByteArray)  : Fn Tryz.prog J 82 [.rd (Zf xs), .str s] (.int (YS (isC s) xs)) := by
 refine Zn (N := 19) Tryz.func82 rfl rfl (lb rfl) fun S w0 hS hJ0 => ?_
 clear hJ0
 refine ln 0 fun hl1 => ?_
 refine qs tb hJ [0,1] [_] [_,_] ?_
 refine Zd (hqs tb hJ [0,1,1001,1002] [_,.int (xs.length : Nat),_] [1] [_,_,_,_] rfl ⟨ZZ Zr, trivial⟩ ?_)
 refine Zb (lp (ι := Nat) (fun k => (k ≤ xs.length) ∧ (∀ j, j < k → isC s (ge xs j) = false)) (fun k => [(8, .int (k : Nat))]) (fun k => xs.length - k) [0,1,2,3] [_,_,_] 0 ⟨Nat.zero_le _, fun j hj => by omega⟩ ?_)
 rintro k ⟨f1_1, f1_2⟩
 refine qs tb hJ [0,1,2,3,1000] [_] [_,_,_,_,_] ?_
 refine cjS 4 (fun hb1 => ?_) fun hb1 => ?_
 try simp at hb1
 refine Za (nx (Zd (Zb (qs tb hJ [0,1,2,3,1001] [_,_] [_,_,_,_,_] ?_))))
 refine hqs tb hJ [0,1,2,3,4,1005] [_,_,_,.ptr [.lit (.string (ge xs k))],_,_] [3] [_,_,_,_,_,_] rfl ⟨iIx Zh, trivial⟩ ?_
 refine cj 5 (fun hb2 => ?_) fun hb2 => ?_
 try simp at hb2
 refine qs tb hJ [1001] [_,_] [_] ?_
 exact Ze (rtn (m := 0) rfl rfl (eI (by first | exact (Yl hb1 (by simpa [isC] using hb2) f1_2).symm | exact (Z5 fun j hj => f1_2 j (by omega)).symm)))
 try simp at hb2
 refine Za (nx (hqp tb hJ [0,1,2,1001] [.int (k + 1 : Nat),_] [0] [_,_,_,_] rfl ⟨Z2, trivial⟩ ?_))
 exact lpE (k + 1) [0,1,2,3] ⟨by omega, ZH f1_2 (by simpa [isC] using hb2)⟩
 try simp at hb1
 refine Zl (nx (qs tb hJ [1000] [_] [_] ?_))
 exact Ze (rtn (m := 0) rfl rfl (eI (by first | exact (Yl hb1 (by simpa [isC] using hb2) f1_2).symm | exact (Z5 fun j hj => f1_2 j (by omega)).symm)))
theorem ZnK {J : World → Prop} (hJ : Stab J) (l : List ByteArray)  : Fn Tryz.prog J 71 [.rd (Zf l)] (.rd (Zf (X9 l))) := by
 refine Zn (N := 25) Tryz.func71 rfl rfl (lb rfl) fun S w0 hS hJ0 => ?_
 clear hJ0
 refine ln 0 fun hl1 => ?_
 refine qs tb hJ [0] [_] [_] ?_
 refine Zd (hqs tb hJ [0,1008] [_,.int (l.length : Nat),_,_,_,.ptr [.lit (.string (ge l 0))],_,_,_] [1,5] [_,_] rfl ⟨ZZ Zr, gIx (k := 0) Zh (hk := fun (hc' : ((decide ((l.length : Int) = (0 : Int))) == false) = true) => by (try simp at hc'); first | omega | (simp; omega) | grind [Zg]), trivial⟩ ?_)
 refine cj 1 (fun hb1 => ?_) fun hb1 => ?_
 refine qs tb hJ [1001] [_,_] [_] ?_
 exact Ze (rtn (m := 0) rfl rfl (congrArg (fun z => AV.rd (Zf z)) (show l = (X9 l) from by first | exact Ql (fun h0 h1 => by rw [h1, decide_eq_false (by omega)] at hb1; exact absurd hb1 (by decide)) | exact ZdG e1.1 e1.2 (of_decide_eq_true hb2) | exact Zce e1.1 e1.2 (of_decide_eq_false hb2))))
 have e1 : 0 < l.length ∧ ge l 0 = ⟨#[40]⟩ := by simp only [Bool.or_eq_false_iff, decide_eq_false_iff_not, Bool.not_eq_false', decide_eq_true_eq] at hb1; exact ⟨by omega, hb1.2⟩
 refine Za (nx (hqs tb hJ [1001,1002] [_,.rd (Zf (l.drop 1)),_] [1] [_,_] rfl ⟨fun _ _ _ hx hl _ => YR (ys := l.drop 1) (lo := 1) (hi := l.length) (by rw [List.take_length]) Zh (fun _ => rfl) rfl (hl.dep 0 15 _ rfl rfl rfl rfl) (Rel.of_lit (Go.Value.int Go.IntKind.i64 1)) rfl (by omega) (by omega) hx, trivial⟩ ?_))
 refine ln 0 fun hl2 => ?_
 refine Zd (hqs tb hJ [1,1002] [_,.int (YS (isC (⟨#[41]⟩ : ByteArray)) (l.drop 1)),_] [1] [_,_] rfl ⟨iFn hS hJ (Zlc hJ (xs := (l.drop 1)) (s := (⟨#[41]⟩ : ByteArray)) ) Zom, trivial⟩ ?_)
 refine qs tb hJ [0,1,1001] [_,_] [_,_,_] ?_
 refine cj 2 (fun hb2 => ?_) fun hb2 => ?_
 refine tw (sa 1 rfl (congrArg AV.int (show YS (isC (⟨#[41]⟩ : ByteArray)) (l.drop 1) = (((YS (isC ⟨#[41]⟩) (l.drop 1)).toNat : Nat) : Int) from by have := of_decide_eq_true hb2; omega))) ?_
 refine hqs tb hJ [1002,1003] [_,_,.rd (Zf ((l.drop 1).take ((YS (isC ⟨#[41]⟩) (l.drop 1)).toNat))),_] [2] [_,_] rfl ⟨fun _ _ _ hx hl _ => YR (ys := (l.drop 1).take ((YS (isC ⟨#[41]⟩) (l.drop 1)).toNat)) (lo := 0) (hi := (YS (isC ⟨#[41]⟩) (l.drop 1)).toNat) List.drop_zero Zh (fun _ => rfl) rfl (hl.dep 0 21 _ rfl rfl rfl rfl) rfl (hl.dep 1 22 _ rfl rfl rfl rfl) (by have := (YZ (p := isC ⟨#[41]⟩) (xs := l.drop 1) (by have := of_decide_eq_true hb2; omega)).2.1; omega) (by have := (YZ (p := isC ⟨#[41]⟩) (xs := l.drop 1) (by have := of_decide_eq_true hb2; omega)).2.1; omega) hx, trivial⟩ ?_
 refine ln 0 fun hl3 => ?_
 exact Ze (rtn (m := 1) rfl rfl (congrArg (fun z => AV.rd (Zf z)) (show ((l.drop 1).take ((YS (isC ⟨#[41]⟩) (l.drop 1)).toNat)) = (X9 l) from by first | exact Ql (fun h0 h1 => by rw [h1, decide_eq_false (by omega)] at hb1; exact absurd hb1 (by decide)) | exact ZdG e1.1 e1.2 (of_decide_eq_true hb2) | exact Zce e1.1 e1.2 (of_decide_eq_false hb2))))
 refine Za (nx (qs tb hJ [1001] [_,_] [_] ?_))
 exact Ze (rtn (m := 0) rfl rfl (congrArg (fun z => AV.rd (Zf z)) (show (l.drop 1) = (X9 l) from by first | exact Ql (fun h0 h1 => by rw [h1, decide_eq_false (by omega)] at hb1; exact absurd hb1 (by decide)) | exact ZdG e1.1 e1.2 (of_decide_eq_true hb2) | exact Zce e1.1 e1.2 (of_decide_eq_false hb2))))
theorem ZeB {J : World → Prop} (hJ : Stab J) (d : Db) (ns : List Int) (hw : ∀ f ∈ d.frames, f.wide.length * 32 ≤ 140737488351232) (hG : XK J) : Fn Tryz.prog J 43 [.agg (dbC d), .rd (ZJ ns)] (.tup [gAV (rdE d ns) [Zf d.consts, Zf d.vars, Yv d.frames, ZG (usL d d.frames.length)], .int (rdE d ns)]) := by
 refine Zn (N := 87) Tryz.func43 rfl rfl (lb rfl) fun S w0 hS hJ0 => ?_
 refine tw Yb ?_
 refine ln 1 fun hl1 => ?_
 refine ZC tb hJ [1,1000] [.ptr (dbC d),_,_] [0] [_,_] rfl ⟨fun _ _ hk hx hl _ => Yk rfl (hl.env 0 0 _ rfl rfl) (Zo hS _ hk hx _ (Nat.le_refl _)) (jo hJ hx), trivial⟩ ?_
 refine Zd (ZC tb hJ [0,1,1002] [_,.int (Xk d),_] [1] [_,_,_] rfl ⟨iFo hS hJ (ZnS hJ (d := d) (hw) (hG)) Zoy, trivial⟩ ?_)
 refine qso tb hJ [0,1,2,1001] [_,_] [_,_,_,_] ?_
 refine cj 3 (fun hb1 => ?_) fun hb1 => ?_
 have e9 : rdE d ns = Xk d := by rw [rdE, if_pos hb1]
 have e8 : ¬ rdE d ns = 0 := by rw [e9]; exact Q8 hb1
 refine qso tb hJ [1001,1002] [_,_,_] [_,_] ?_
 exact Ze (fun a w h => Ye (m := 0) (k := 1) rfl (ZK h) rfl rfl (show .rd (.lit (Go.Value.pointer none)) = gAV (rdE d ns) [Zf d.consts, Zf d.vars, Yv d.frames, ZG (usL d d.frames.length)] from by first | exact e9.symm | exact (Zdg e8).symm | (rw [Zap e9, f2_2, show k = d.frames.length by omega])) (eI (by first | exact e9.symm | exact (Zdg e8).symm | (rw [Zap e9, f2_2, show k = d.frames.length by omega]))))
 have e1 : Xk d = 0 := Zcd hb1
 have e2 := Xt e1
 refine Za (nx (Zd (ZC tb hJ [1,1000,1001,1002] [_,.int (ns.length : Nat),_] [1] [_,_,_,_] rfl ⟨ZZ Ym, trivial⟩ ?_)))
 refine Zb (lpo (ι := Nat) (fun k => (k ≤ ns.length) ∧ (((ns.take k).any fun i => decide (i < 0) || decide ((d.frames.length : Int) ≤ i)) = false)) (fun _ => []) (fun k => [(25, .int (k : Nat))]) (fun k => ns.length - k) [0,1,2,3] [_,_,_] 0 ⟨Nat.zero_le _, rfl⟩ ?_)
 rintro k ⟨f1_1, f1_2⟩
 refine qso tb hJ [0,1,2,3,1000] [_] [_,_,_,_,_] ?_
 refine cjS 4 (fun hb2 => ?_) fun hb2 => ?_
 try simp at hb2
 refine Za (nx (Zd (Zb (ZC tb hJ [0,1,2,3,1002] [.ptr [.lit (.int .i64 (ge ns k))],_,_] [0] [_,_,_,_,_] rfl ⟨iIx Zq, trivial⟩ ?_))))
 refine ZC tb hJ [0,1,2,3,1008] [_,_,_,_,_,_,.int (d.frames.length : Nat),_,_] [6] [_,_,_,_,_] rfl ⟨ZZ Z7, trivial⟩ ?_
 refine cj 4 (fun hb3 => ?_) fun hb3 => ?_
 try simp at hb3
 have e9 : rdE d ns = 3 := by rw [rdE, if_neg (by rw [e1]; decide), if_pos (X0 (k := k) (by omega) (by simpa using hb3))]
 have e8 : ¬ rdE d ns = 0 := by rw [e9]; decide
 refine qso tb hJ [1000,1001] [_,_] [_,_] ?_
 exact Ze (fun a w h => Ye (m := 0) (k := 1) rfl (ZK h) rfl rfl (show .rd (.lit (Go.Value.pointer none)) = gAV (rdE d ns) [Zf d.consts, Zf d.vars, Yv d.frames, ZG (usL d d.frames.length)] from by first | exact e9.symm | exact (Zdg e8).symm | (rw [Zap e9, f2_2, show k = d.frames.length by omega])) (eI (by first | exact e9.symm | exact (Zdg e8).symm | (rw [Zap e9, f2_2, show k = d.frames.length by omega]))))
 try simp at hb3
 refine Za (nx (Yj tb hJ [0,1,2,1001] [.int (k + 1 : Nat),_] [0] [_,_,_,_] rfl ⟨Z2, trivial⟩ ?_))
 exact Yr (k + 1) [0,1,2,3] ⟨by omega, Xx (by omega) f1_2 (by simpa using hb3)⟩
 try simp at hb2
 have e9 : rdE d ns = 0 := by rw [rdE, if_neg (by rw [e1]; decide), Xw f1_2 (by omega)]; rfl
 refine Zl (nx (Zd (ZN (snK 1 tb rfl ?_))))
 refine sq (.agg [Zf d.consts, Zf d.vars, Yv d.frames, .lit (Value.slice none 0 0)]) rfl rfl (lb rfl) (fun _ _ h => ZkZ (d := d) Zkm rfl (h.get 0 rfl) h.x) ?_
 refine ZiL (cs := [Zf d.consts, Zf d.vars, Yv d.frames, .lit (Value.slice none 0 0)]) hJ rfl rfl rfl (lb rfl) (fun a w h => (h.get 0 rfl)) fun b1 => ?_
 refine snK 1 tb rfl ?_
 refine seK [0,4] [_,_] rfl ?_
 refine kw (Yo 28 1 hJ) ?_
 refine kw pm1 ?_
 refine kw pm1 ?_
 refine kw (B := St All (SO S [OB.gr 28 b1 d ((Value.slice none 0 0), ([] : List (List Int)))]) w0 87 [(9, .at b1 0), (2, .ptr (dbC d))] (XO J S w0.heap.size [OB.gr 28 b1 d ((Value.slice none 0 0), ([] : List (List Int)))])) (fun h => ZfA h) ?_
 refine nx (tsq ?_)
 refine Zep keyS (fun z' : Int => AV.int z') hJ rfl rfl rfl (lb rfl) fun m2 => ?_
 refine snK 1 tb rfl ?_
 refine seK [0,2,3] [_,_,_] rfl ?_
 refine nx (Zd (ZC tb hJ [0,1,1001,1002,1003] [_,_,.int (d.frames.length : Nat),_] [2] [_,_,_,_,_] rfl ⟨ZZ Z7, trivial⟩ ?_))
 refine ln 2 fun hl2 => ?_
 refine Zb (lpo (ι := Nat × (Value × List (List Int)) × (List (ByteArray × Int))) (fun (k, q, at') => (k ≤ d.frames.length) ∧ (q.2 = usL d k) ∧ (AtI d k at')) (fun (_, q, at') => [OB.mI m2 (at'), OB.gr 28 b1 d q]) (fun (k, _, _) => [(46, .int (k : Nat))]) (fun (k, _, _) => d.frames.length - k) [0,1,2,3,4] [_,_,_,_] (0, ((Value.slice none 0 0), ([] : List (List Int))), ([] : List (ByteArray × Int))) ⟨Nat.zero_le _, rfl, ZmL d⟩ ?_)
 rintro ⟨k, q, at'⟩ ⟨f2_1, f2_2, f2_3⟩
 refine qso tb hJ [0,1,2,3,4,1000] [_] [_,_,_,_,_,_] ?_
 refine cjS 5 (fun hb4 => ?_) fun hb4 => ?_
 try simp at hb4
 refine Za (nx (Zd (Zb (tsq ?_))))
 refine snK 1 tb rfl ?_
 refine sq (.ptr (frC (ge d.frames k))) rfl rfl (lb rfl) (fun _ _ h => Z0 (i := (k : Int)) ZD rfl (h.get 3 rfl) (h.get 5 rfl) (Int.natCast_nonneg _) (Yh (xs := d.frames) (k := k) (by first | omega | (simp; omega) | grind [Zg])) rfl h.x) ?_
 refine snK 1 tb rfl ?_
 refine YK QD hJ rfl rfl rfl (lb rfl) fun b3 => ?_
 refine snK 1 tb rfl ?_
 refine YU (b := b3) (off := 0) (cs := [.lit (.string (⟨#[]⟩ : ByteArray)), .lit (.bool false), YC ([] : List Hy), YI ([] : List Pr), Zf ([] : List ByteArray), YC ([] : List Hy), YI ([] : List Pr), Zf ([] : List ByteArray)]) (es := [.lit (.string ((ge d.frames k).label)), .lit (.bool ((ge d.frames k).thm)), YC ((ge d.frames k).hyps), YI ((ge d.frames k).apart), Zf ((ge d.frames k).text), YC ((ge d.frames k).dummies), YI ((ge d.frames k).wide), Zf ((ge d.frames k).proof)]) (news := [.lit (.string ((ge d.frames k).label)), .lit (.bool ((ge d.frames k).thm)), YC ((ge d.frames k).hyps), YI ((ge d.frames k).apart), Zf ((ge d.frames k).text), YC ((ge d.frames k).dummies), YI ((ge d.frames k).wide), Zf ((ge d.frames k).proof)]) hJ hJ0 Zer rfl rfl rfl (lb rfl) rfl (fun a w h => ⟨(h.get 1 rfl), (h.get 2 rfl)⟩) ?_
 refine kw (fun h => YO hS h (m := 1) (s := 12) rfl) ?_
 refine seK [0,1,5,6,7,8,9] [_,_,_,_,_,_,_] rfl ?_
 refine nx (tsq ?_)
 refine Qq keyI hJ rfl rfl rfl (lb rfl) fun m4 => ?_
 refine snK 1 tb rfl ?_
 refine seK [0,2,3,4,5,6,7,8] [_,_,_,_,_,_,_,_] rfl ?_
 refine nx (Zd (ZC tb hJ [0,1,2,3,4,5,6,7,1001,1002,1003,1004] [_,_,.rd (Zf (X9 ((ge d.frames k).proof))),.int ((X9 ((ge d.frames k).proof)).length : Nat),_] [2,3] [_,_,_,_,_,_,_,_,_,_,_,_] rfl ⟨iFo hS hJ (ZnK hJ (l := ((ge d.frames k).proof)) ) Zot, ZZ Zr, trivial⟩ ?_))
 refine ln 8 fun hl3 => ?_
 refine ln 9 fun hl4 => ?_
 refine Zb (lpo (ι := Nat × (List Int)) (fun (n, xs) => (n ≤ (X9 (ge d.frames k).proof).length) ∧ (ZmP d k ((X9 (ge d.frames k).proof).take n) xs)) (fun (_, xs) => [OB.set keyI m4 xs, OB.mI m2 (at'), OB.gr 28 b1 d q]) (fun (n, _) => [(56, .int (n : Nat))]) (fun (n, _) => (X9 (ge d.frames k).proof).length - n) [0,1,2,3,4,5,6,7,9,10,11] [_,_,_,_,_,_,_,_,_,_] (0, ([] : List Int)) ⟨Nat.zero_le _, ZkL d k⟩ ?_)
 rintro ⟨n, xs⟩ ⟨f3_1, f3_2⟩
 refine qso tb hJ [0,1,2,3,4,5,6,7,8,9,10,1000] [_] [_,_,_,_,_,_,_,_,_,_,_,_] ?_
 refine cjS 11 (fun hb5 => ?_) fun hb5 => ?_
 try simp at hb5
 refine Za (nx (Zd (Zb (ZC tb hJ [0,1,2,3,4,5,6,7,8,9,10,1002] [.ptr [.lit (.string (ge (X9 ((ge d.frames k).proof)) n))],_,_] [0] [_,_,_,_,_,_,_,_,_,_,_,_] rfl ⟨iIx Zh, trivial⟩ ?_))))
 refine ZC tb hJ [0,1,2,3,4,5,6,7,8,9,10,1006,1007] [_,_,.tup [.int ((Zy (at') (ge (X9 ((ge d.frames k).proof)) n)).getD default), .bool ((Zy (at') (ge (X9 ((ge d.frames k).proof)) n)).isSome)],_,_,_,_,_] [2] [_,_,_,_,_,_,_,_,_,_,_,_,_] rfl ⟨fun _ _ _ hx hl _ => XV (Kd := keyS) (f := (fun z' : Int => AV.int z')) (L := (at')) Zcf Zft (ge (X9 ((ge d.frames k).proof)) n) rfl (Zw hx (mo 1 rfl)) (hl.dep 0 61 _ rfl rfl rfl rfl) (hl.dep 1 62 _ rfl rfl rfl rfl) hx, trivial⟩ ?_
 refine qso tb hJ [0,1,2,3,4,5,6,7,8,9,10,11,1000] [_] [_,_,_,_,_,_,_,_,_,_,_,_,_] ?_
 refine cj 12 (fun hb6 => ?_) fun hb6 => ?_
 try simp at hb6
 refine ZN (snK 2 tb rfl ?_)
 refine Zaq Yw hJ hJ0 ((Zy (at') (ge (X9 ((ge d.frames k).proof)) n)).getD default) rfl rfl (.inl rfl) (fun a w h => ⟨(h.get 1 rfl), (h.get 0 rfl), (Rel.of_lit (Go.Value.bool true))⟩) ?_
 refine seK [2,3,4,5,6,7,8,9,10,11,12] [_,_,_,_,_,_,_,_,_,_,_] rfl ?_
 refine nx (Yj tb hJ [0,1,2,3,4,5,6,7,8,9,1001] [.int (n + 1 : Nat),_] [0] [_,_,_,_,_,_,_,_,_,_,_] rfl ⟨Z2, trivial⟩ ?_)
 exact Yr (n + 1, Y5 xs ((Zy (at') (ge (X9 ((ge d.frames k).proof)) n)).getD default)) [0,1,2,3,4,5,6,7,8,9,10] ⟨by omega, by rw [ZI (by omega)]; first | exact ZgA f2_3 f3_2 hb6 (fun p q' hp hq => ZfT e1 (by omega) (by omega)) | exact Zes f2_3 f3_2 (by simpa using hb6)⟩
 try simp at hb6
 refine Za (nx (Yj tb hJ [0,1,2,3,4,5,6,7,8,9,1001] [.int (n + 1 : Nat),_] [0] [_,_,_,_,_,_,_,_,_,_,_] rfl ⟨Z2, trivial⟩ ?_))
 exact Yr (n + 1, xs) [0,1,2,3,4,5,6,7,8,9,10] ⟨by omega, by rw [ZI (by omega)]; first | exact ZgA f2_3 f3_2 hb6 (fun p q' hp hq => ZfT e1 (by omega) (by omega)) | exact Zes f2_3 f3_2 (by simpa using hb6)⟩
 try simp at hb5
 have e5 : ZmP d k (X9 (ge d.frames k).proof) xs := by have := f3_2; rwa [Zu (by omega)] at this
 refine Zl (nx (Zd (tw pm2 ?_)))
 refine tw (B := St All (SO S [OB.row q.1 28 1 (q.2.map Yu), OB.var b1 [Zf d.consts, Zf d.vars, Yv d.frames, .lit q.1], OB.set keyI m4 xs, OB.mI m2 (at')]) w0 87 [(13, .lit (.map (some m4))), (12, .ptr (frC (ge d.frames k))), (11, .int (k : Nat)), (10, .lit (.map (some m2))), (9, .at b1 0), (44, .rd (Yv d.frames)), (45, .int (d.frames.length : Nat)), (46, .int (k : Nat)), (54, .rd (Zf (X9 ((ge d.frames k).proof)))), (55, .int ((X9 ((ge d.frames k).proof)).length : Nat)), (56, .int (n : Nat)), (57, .bool (decide ((n : Int) < (((X9 ((ge d.frames k).proof)).length : Nat) : Int))))] (XO J S w0.heap.size [OB.row q.1 28 1 (q.2.map Yu), OB.var b1 [Zf d.consts, Zf d.vars, Yv d.frames, .lit q.1], OB.set keyI m4 xs, OB.mI m2 (at')])) (fun h => ZiG h) ?_
 refine fun a w h => Qi [OB.var b1 [Zf d.consts, Zf d.vars, Yv d.frames, .lit q.1], OB.set keyI m4 xs, OB.mI m2 (at')] (γ := Value) (fun ix' => ([.at b1 0, .at b1 0, .at b1 0, .at b1 3, .lit q.1, .lit (.map (some m4)), .rd (ZJ (Y0 xs)), .rd (ZG ([(Y0 xs)])), .any, .at b1 0, .at b1 3, .any] : List AV).getD ix' .any) (fun ix' => ([true, true, true, true, true, true, true, true, true, true, true, true] : List Bool).getD ix' true) [(12, fun (g : Value) => .ptr (frC (ge d.frames k))), (11, fun (g : Value) => .int (k : Nat)), (10, fun (g : Value) => .lit (.map (some m2))), (9, fun (g : Value) => .at b1 0), (44, fun (g : Value) => .rd (Yv d.frames)), (45, fun (g : Value) => .int (d.frames.length : Nat)), (46, fun (g : Value) => .int (k : Nat))] (fun (j' : Nat) (g : Value) => match j' with | 0 => [OB.row q.1 28 1 (q.2.map Yu), OB.var b1 [Zf d.consts, Zf d.vars, Yv d.frames, .lit q.1], OB.set keyI m4 xs, OB.mI m2 (at')] | 1 => [OB.row g 28 1 ((q.2 ++ ([(Y0 xs)])).map Yu), OB.var b1 [Zf d.consts, Zf d.vars, Yv d.frames, .lit q.1], OB.set keyI m4 xs, OB.mI m2 (at')] | _ => [OB.row g 28 1 ((q.2 ++ ([(Y0 xs)])).map Yu), OB.var b1 [Zf d.consts, Zf d.vars, Yv d.frames, .lit g], OB.set keyI m4 xs, OB.mI m2 (at')]) (fun (k' : Nat) (g : Value) => match k' with | 0 => g | 1 => undef | _ => undef) [8, 11] 1 (.slice none 0 0) (fun _ => rfl) h hJ YJ rfl rfl rfl rfl rfl rfl (fun j' g hj p hp => by rcases j' with _ | _ | _ | j' <;> first | exact hp | exact List.mem_cons_of_mem _ hp | exact List.mem_cons_of_mem _ (List.mem_cons_of_mem _ hp) | (exfalso; omega)) ⟨?o23_1_0, ⟨?o23_1_1, ⟨?o23_1_2, ⟨?o23_1_3, ⟨?o23_1_4, ⟨?o23_1_5, ⟨?o23_1_6, ⟨?o23_1_7, ⟨?o23_1_8, ⟨?o23_1_9, ⟨?o23_1_10, ⟨?o23_1_11, trivial⟩⟩⟩⟩⟩⟩⟩⟩⟩⟩⟩⟩ ⟨?e23_1_0, ⟨?e23_1_1, trivial⟩⟩ ⟨.old 1 12 _ rfl rfl, ⟨.old 2 11 _ rfl rfl, ⟨.old 3 10 _ rfl rfl, ⟨.old 4 9 _ rfl rfl, ⟨.old 5 44 _ rfl rfl, ⟨.old 6 45 _ rfl rfl, ⟨.old 7 46 _ rfl rfl, trivial⟩⟩⟩⟩⟩⟩⟩ ?n23_1
 case o23_1_0 => exact fun _ O' _ => ⟨rfl, fun _ _ _ hx hl _ => Yd rfl (hl.env 4 9 _ rfl rfl) hx⟩
 case o23_1_1 => exact fun _ O' _ => ⟨rfl, fun _ _ _ hx hl _ => Yd rfl (hl.env 4 9 _ rfl rfl) hx⟩
 case o23_1_2 => exact fun _ O' _ => ⟨rfl, fun _ _ _ hx hl _ => Zar rfl (hl.dep 1 71 _ rfl rfl rfl rfl) hx⟩
 case o23_1_3 => exact fun _ O' _ => ⟨rfl, fun _ _ _ hx hl _ => ZaH Q9 rfl (hl.dep 2 72 _ rfl rfl rfl rfl) hx⟩
 case o23_1_4 => exact fun _ O' hO' => ⟨rfl, fun _ _ _ hx hl _ => XD (cs := [Zf d.consts, Zf d.vars, Yv d.frames, .lit q.1]) Zjp rfl (Zw hx (hO' _ (mo 0 rfl))) (hl.dep 3 73 _ rfl rfl rfl rfl) rfl hx⟩
 case o23_1_5 => exact fun _ O' _ => ⟨rfl, fun _ _ _ hx hl _ => Yd rfl (hl.env 0 13 _ rfl rfl) hx⟩
 case o23_1_6 => exact fun _ O' hO' => ⟨rfl, fun _ _ hk hx hl _ => Xy (ZgV hJ (M := m4) (xs := xs) (fun x hx => by have := (Zgz e5).1 x hx; omega) (by have := (Zgz e5).2; omega)) Zf8 rfl (Zo hS _ hk hx) (hx.1) (ZU (Zw hx (hO' _ (mo 1 rfl))) ZE) (Zc (hl.dep 5 75 _ rfl rfl rfl rfl) Zi) (jo hJ hx)⟩
 case o23_1_7 => exact fun _ O' _ => ⟨rfl, fun _ _ hk hx hl _ => ZV XI Znp rfl (hl.dep 6 76 _ rfl rfl rfl rfl) (Zo hS _ hk hx _ (Nat.le_refl _)) (jo hJ hx)⟩
 case o23_1_8 => exact Zk rfl
 case o23_1_9 => exact fun _ O' _ => ⟨rfl, fun _ _ _ hx hl _ => Zar rfl (hl.dep 0 70 _ rfl rfl rfl rfl) hx⟩
 case o23_1_10 => exact fun _ O' _ => ⟨rfl, fun _ _ _ hx hl _ => ZaH Q9 rfl (hl.dep 9 79 _ rfl rfl rfl rfl) hx⟩
 case o23_1_11 => exact Zk rfl
 case e23_1_0 => exact ⟨_, rfl, rfl, rfl, rfl, fun _ _ w hk hx hl _ => Zx (XQ (f := Yu) q.2 ([(Y0 xs)]) (fun _ => rfl) Zfj hJ hJ0 rfl hk hx (hl.dep 4 74 _ rfl rfl rfl rfl).lit (hl.dep 7 77 _ rfl rfl rfl rfl) (by rw [f2_2, Xl]; simp; omega) (by rw [f2_2, Xl]; simp; omega)) fun v w' hp => ⟨v, rfl, fun k' hk' => absurd hk' (Nat.not_lt_zero _), fun _ => rfl, hp⟩⟩
 case e23_1_1 => exact ⟨_, rfl, rfl, rfl, rfl, fun g _ w hk hx hl hs => Zx (ZlR (off := 3) (cs := [Zf d.consts, Zf d.vars, Yv d.frames, .lit q.1]) (es := [Zf d.consts, Zf d.vars, Yv d.frames, .lit g]) (c := .lit g) hJ hJ0 ZiP rfl hk hx (hl.dep 10 80 _ rfl rfl rfl rfl) (by rw [(hs 0 8 _ 78 (by omega) rfl rfl rfl)]; exact Rel.of_lit _ (Qr (hx.2.1 _ (mo 0 rfl)))) (lb rfl) rfl) fun v w' hp => ⟨g, rfl, fun _ _ => rfl, fun e => (by cases e), hp⟩⟩
 clear a w h
 intro v5
 change ∀ a w, St All (SO S [OB.row v5 28 1 ((q.2 ++ ([(Y0 xs)])).map Yu), OB.var b1 [Zf d.consts, Zf d.vars, Yv d.frames, .lit v5], OB.set keyI m4 xs, OB.mI m2 (at')]) w0 87 [(12, .ptr (frC (ge d.frames k))), (11, .int (k : Nat)), (10, .lit (.map (some m2))), (9, .at b1 0), (44, .rd (Yv d.frames)), (45, .int (d.frames.length : Nat)), (46, .int (k : Nat))] (XO J S w0.heap.size [OB.row v5 28 1 ((q.2 ++ ([(Y0 xs)])).map Yu), OB.var b1 [Zf d.consts, Zf d.vars, Yv d.frames, .lit v5], OB.set keyI m4 xs, OB.mI m2 (at')]) a w → _
 refine kw pm1 ?_
 refine kw pm1 ?_
 refine kw (B := St All (SO S [OB.gr 28 b1 d (v5, q.2 ++ ([(Y0 xs)])), OB.set keyI m4 xs, OB.mI m2 (at')]) w0 87 [(12, .ptr (frC (ge d.frames k))), (11, .int (k : Nat)), (10, .lit (.map (some m2))), (9, .at b1 0), (44, .rd (Yv d.frames)), (45, .int (d.frames.length : Nat)), (46, .int (k : Nat))] (XO J S w0.heap.size [OB.gr 28 b1 d (v5, q.2 ++ ([(Y0 xs)])), OB.set keyI m4 xs, OB.mI m2 (at')])) (fun h => ZfA h) ?_
 refine nx (ZN (snK 4 tb rfl ?_))
 refine kw pm2 ?_
 refine ZiI (f := (fun z' : Int => AV.int z')) Zcf hJ hJ0 ((ge d.frames k).label) (k : Int) rfl rfl (.inl rfl) (fun a w h => ⟨(h.get 3 rfl), (h.get 1 rfl), (h.get 0 rfl)⟩) ?_
 refine seK [6,7,8,9,10] [_,_,_,_,_] rfl ?_
 refine nx (Yj tb hJ [0,1,2,3,1001] [.int (k + 1 : Nat),_] [0] [_,_,_,_,_] rfl ⟨Z2, trivial⟩ ?_)
 refine kw pm2 ?_
 refine kw Yp ?_
 exact Yr (k + 1, (v5, q.2 ++ ([(Y0 xs)])), QH (at') ((ge d.frames k).label) (k : Int)) [0,1,2,3,4] ⟨by omega, by rw [ZkE, ← f2_2, ← ZkC e1 (by omega) e5], ZmM e1 (by omega) f2_3⟩
 try simp at hb4
 refine Zl (nx (tw pm1 ?_))
 refine tw (fun h => ZcZ hS h (m := 1) (s := 9) rfl) ?_
 refine qso tb hJ [1001,1002] [_,_,_] [_,_] ?_
 exact Ze (fun a w h => Ye (m := 0) (k := 1) rfl (ZK h) rfl rfl (show .ptr [Zf d.consts, Zf d.vars, Yv d.frames, ZG q.2] = gAV (rdE d ns) [Zf d.consts, Zf d.vars, Yv d.frames, ZG (usL d d.frames.length)] from by first | exact e9.symm | exact (Zdg e8).symm | (rw [Zap e9, f2_2, show k = d.frames.length by omega])) (eI (by first | exact e9.symm | exact (Zdg e8).symm | (rw [Zap e9, f2_2, show k = d.frames.length by omega]))))
end Go.Proofs.YtnpgmdffjemnbaaGreatDoor
namespace Go.Proofs.YtnpgmdffjemnbaaGreatDoor

inductive Rch (us : List (List Int)) : Int → Int → Prop where
  | refl (i : Int) : Rch us i i
  | step (i x y : Int) (h : x ∈ ge us i.toNat) (k : Rch us x y) : Rch us i y
theorem Rch.trans {us : List (List Int)} {a b c : Int} (h : Rch us a b) (k : Rch us b c) : Rch us a c := by
  induction h with
  | refl => exact k
  | step i x y hx _ ih => exact .step i x _ hx (ih k)
theorem Rch.one {us : List (List Int)} {a b : Int} (h : b ∈ ge us a.toNat) : Rch us a b := .step a b b h (.refl b)
def Xh (us : List (List Int)) : Prop := ∀ i, ∀ x ∈ ge us i, 0 ≤ x ∧ x < (i : Int)
theorem Rch.le {us : List (List Int)} (hd : Xh us) {a b : Int} (h : Rch us a b) (ha : 0 ≤ a) : 0 ≤ b ∧ b ≤ a := by
  induction h with
  | refl => exact ⟨ha, Int.le_refl _⟩
  | step i x y hx _ ih =>
    have := hd _ x hx
    have := ih this.1
    omega
structure VIS (us : List (List Int)) (n : Nat) (xs ys : List Int) : Prop where
  sub : ∀ x ∈ xs, x ∈ ys
  self : (n : Int) ∈ ys
  nod : xs.Nodup → ys.Nodup
  new : ∀ y ∈ ys, y ∈ xs ∨ (Rch us n y ∧ ∀ z ∈ ge us y.toNat, z ∈ ys)
structure VIK (us : List (List Int)) (n : Nat) (xs : List Int) (k : Nat) (ys : List Int) : Prop where
  sub : ∀ x ∈ xs, x ∈ ys
  self : (n : Int) ∈ ys
  nod : xs.Nodup → ys.Nodup
  done : ∀ j, j < k → ge (ge us n) j ∈ ys
  new : ∀ y ∈ ys, y ∈ xs ∨ y = (n : Int) ∨ (Rch us n y ∧ ∀ z ∈ ge us y.toNat, z ∈ ys)
theorem VIS.old {us : List (List Int)} {n : Nat} {xs : List Int} (h : (n : Int) ∈ xs) : VIS us n xs xs := ⟨fun _ h => h, h, fun h => h, fun _ h => .inl h⟩
theorem VIK.start (us : List (List Int)) (n : Nat) (xs : List Int) : VIK us n xs 0 (Y5 xs (n : Int)) :=
  ⟨fun _ hx => mem_addS.2 (.inl hx), mem_addS.2 (.inr rfl), Zdc, fun _ hj => absurd hj (Nat.not_lt_zero _), fun _ hy => (mem_addS.1 hy).imp id .inl⟩
theorem VIK.next {us : List (List Int)} {n : Nat} {xs ys zs : List Int} {k m : Nat} (h : VIK us n xs k ys) (hk : k < (ge us n).length) (hm : (m : Int) = ge (ge us n) k) (hz : VIS us m ys zs) : VIK us n xs (k + 1) zs where
  sub := fun x hx => hz.sub x (h.sub x hx)
  self := hz.sub _ h.self
  nod := fun hn => hz.nod (h.nod hn)
  done := fun j hj => by
    by_cases e : j = k
    · rw [e, ← hm]; exact hz.self
    · exact hz.sub _ (h.done j (by omega))
  new := fun y hy => by
    rcases hz.new y hy with h1 | ⟨h1, h2⟩
    · rcases h.new y h1 with h3 | h3 | ⟨h3, h4⟩
      · exact .inl h3
      · exact .inr (.inl h3)
      · exact .inr (.inr ⟨h3, fun z hzz => hz.sub z (h4 z hzz)⟩)
    · refine .inr (.inr ⟨.step _ _ _ ?_ h1, h2⟩)
      rw [hm]
      exact Zg hk
theorem VIK.fin {us : List (List Int)} {n : Nat} {xs ys : List Int} {k : Nat} (h : VIK us n xs k ys) (hk : (ge us n).length ≤ k) : VIS us n xs ys where
  sub := h.sub
  self := h.self
  nod := h.nod
  new := fun y hy => by
    rcases h.new y hy with h3 | h3 | h3
    · exact .inl h3
    · subst h3
      refine .inr ⟨.refl _, fun z hz => ?_⟩
      rw [Int.toNat_natCast] at hz
      obtain ⟨j, hj, rfl⟩ := Y6 hz
      exact h.done j (by omega)
    · exact .inr h3
structure IsReach (us : List (List Int)) (n : Nat) (ys : List Int) : Prop where
  nod : ys.Nodup
  iff : ∀ y, y ∈ ys ↔ Rch us n y
theorem VIS.reach {us : List (List Int)} {n : Nat} {ys : List Int} (h : VIS us n [] ys) : IsReach us n ys := by
  have hn : ∀ y ∈ ys, Rch us n y ∧ ∀ z ∈ ge us y.toNat, z ∈ ys := fun y hy => (h.new y hy).resolve_left (by simp)
  refine ⟨h.nod .nil, fun y => ⟨fun hy => (hn y hy).1, fun hy => ?_⟩⟩
  have key : ∀ a b, Rch us a b → a ∈ ys → b ∈ ys := by
    intro a b hab
    induction hab with
    | refl => exact id
    | step i x y hx _ ih => exact fun hi => ih ((hn i hi).2 x hx)
  exact key _ _ hy h.self
theorem ZQ (d : Db) (n : Nat) : Xh (usL d n) := fun i x hx => by
  rcases Nat.lt_or_ge i n with h | h
  · rw [ZcV h, ZT] at hx
    split at hx
    · exact Zgp hx
    · simp at hx
  · rw [ge, List.getD_eq_getElem?_getD, List.getElem?_eq_none (by rw [Xl]; exact h)] at hx
    simp [default] at hx
end Go.Proofs.YtnpgmdffjemnbaaGreatDoor
set_option maxHeartbeats 8000000
set_option maxRecDepth 100000
namespace Go.Proofs.YtnpgmdffjemnbaaGreatDoor
open Go.RowKit

theorem Zji {J : World → Prop} (hJ : Stab J) (M : Nat) (bs : Nat) (bg : Nat) (bv : Nat) (d : Db) (us : List (List Int)) (n : Nat) (xs : List Int) (hd : Xh us) (hn : n < us.length) (ih : ∀ (m' : Nat) (xs' : List Int), m' < n → FnM (ι := { q' : List Int // VIS us m' xs' q' }) Tryz.prog J 72 [] [.int (m' : Nat), .at bs 0, .at bg 0, .at bv 0] [OB.set keyI M (xs'), OB.var bs [.lit (.map (some M))], OB.var bg [.ptr [Zf d.consts, Zf d.vars, Yv d.frames, ZG us]], OB.var bv [.lit (.func (.func 72) #[] #[.pointer (some ⟨bs, 0, none⟩), .pointer (some ⟨bg, 0, none⟩), .pointer (some ⟨bv, 0, none⟩)])]] (fun _ => .tup []) (fun i' => [OB.set keyI M (i'.1), OB.var bs [.lit (.map (some M))], OB.var bg [.ptr [Zf d.consts, Zf d.vars, Yv d.frames, ZG us]], OB.var bv [.lit (.func (.func 72) #[] #[.pointer (some ⟨bs, 0, none⟩), .pointer (some ⟨bg, 0, none⟩), .pointer (some ⟨bv, 0, none⟩)])]])) : FnM (ι := { q' : List Int // VIS us n xs q' }) Tryz.prog J 72 [] [.int (n : Nat), .at bs 0, .at bg 0, .at bv 0] [OB.set keyI M xs, OB.var bs [.lit (.map (some M))], OB.var bg [.ptr [Zf d.consts, Zf d.vars, Yv d.frames, ZG us]], OB.var bv [.lit (.func (.func 72) #[] #[.pointer (some ⟨bs, 0, none⟩), .pointer (some ⟨bg, 0, none⟩), .pointer (some ⟨bv, 0, none⟩)])]] (fun _ => .tup []) (fun i' => [OB.set keyI M (i'.1), OB.var bs [.lit (.map (some M))], OB.var bg [.ptr [Zf d.consts, Zf d.vars, Yv d.frames, ZG us]], OB.var bv [.lit (.func (.func 72) #[] #[.pointer (some ⟨bs, 0, none⟩), .pointer (some ⟨bg, 0, none⟩), .pointer (some ⟨bv, 0, none⟩)])]]) := by
 refine Yx (N := 28) Tryz.func72 rfl rfl (lb rfl) fun S w0 R hS hJ0 hH => ?_
 refine Xe (B := St All (SO S (OB.set keyI M xs :: OB.var bs [.lit (.map (some M))] :: OB.var bg [.ptr [Zf d.consts, Zf d.vars, Yv d.frames, ZG us]] :: OB.var bv [.lit (.func (.func 72) #[] #[.pointer (some ⟨bs, 0, none⟩), .pointer (some ⟨bg, 0, none⟩), .pointer (some ⟨bv, 0, none⟩)])] :: R)) w0 28 [(0, .int (n : Nat)), (1, .at bs 0), (2, .at bg 0), (3, .at bv 0)] (XO J S w0.heap.size (OB.set keyI M xs :: OB.var bs [.lit (.map (some M))] :: OB.var bg [.ptr [Zf d.consts, Zf d.vars, Yv d.frames, ZG us]] :: OB.var bv [.lit (.func (.func 72) #[] #[.pointer (some ⟨bs, 0, none⟩), .pointer (some ⟨bg, 0, none⟩), .pointer (some ⟨bv, 0, none⟩)])] :: R))) ?_ fun a w h => h
 refine Zd (ZC tb hJ [0,1,2,3,1002] [.lit (.map (some M)),_,.bool (decide ((n : Int) ∈ xs))] [0,2] [_,_,_,_,_] rfl ⟨fun _ _ _ hx hl _ => XD (cs := [.lit (.map (some M))]) ZgY rfl (Zw hx (mo 1 rfl)) (hl.env 1 1 _ rfl rfl) rfl hx, fun _ _ _ hx hl _ => Z4 (Kd := keyI) (xs := xs) Yw ZL (n : Int) rfl (Zw hx (mo 0 rfl)) (hl.dep 0 7 _ rfl rfl rfl rfl) (hl.dep 1 8 _ rfl rfl rfl rfl) hx, trivial⟩ ?_)
 refine cj 4 (fun hb1 => ?_) fun hb1 => ?_
 try simp at hb1
 exact Ze (fun a w h => ZdL  ⟨(xs), by first | exact VIS.old hb1 | exact f1_2.fin (by omega)⟩ rfl h rfl)
 try simp at hb1
 refine Za (nx (tsq ?_))
 refine sq (.lit (.map (some M))) rfl rfl (lb rfl) (fun _ _ h => XD (cs := [.lit (.map (some M))]) ZgY rfl (Zw h.x (mo 1 rfl)) (h.get 1 rfl) rfl h.x) ?_
 refine snK 1 tb rfl ?_
 refine Zaq Yw hJ hJ0 (n : Int) rfl rfl (.inl rfl) (fun a w h => ⟨(h.get 1 rfl), (h.get 0 rfl), (Rel.of_lit (Go.Value.bool true))⟩) ?_
 refine seK [2,4,5] [_,_,_] rfl ?_
 refine nx (ZC tb hJ [2,1003,1006,1007,1008] [.ptr [Zf d.consts, Zf d.vars, Yv d.frames, ZG us],_,_,_,_,.ptr [ZJ (ge us n)],_,.int ((ge us n).length : Nat),_] [0,5,7] [_,_,_,_,_] rfl ⟨fun _ _ _ hx hl _ => Zi1 (cs := [.ptr [Zf d.consts, Zf d.vars, Yv d.frames, ZG us]]) one_62 rfl (Zw hx (mo 2 rfl)) (hl.env 1 2 _ rfl rfl) rfl hx, iIx XI, ZZ Ym, trivial⟩ ?_)
 refine ln 1 fun hl1 => ?_
 refine ln 2 fun hl2 => ?_
 refine Zb (lpo (ι := Nat × (List Int)) (fun (k, ys) => (k ≤ (ge us n).length) ∧ (VIK us n xs k ys)) (fun (_, ys) => (OB.set keyI M ys :: OB.var bs [.lit (.map (some M))] :: OB.var bg [.ptr [Zf d.consts, Zf d.vars, Yv d.frames, ZG us]] :: OB.var bv [.lit (.func (.func 72) #[] #[.pointer (some ⟨bs, 0, none⟩), .pointer (some ⟨bg, 0, none⟩), .pointer (some ⟨bv, 0, none⟩)])] :: R)) (fun (k, _) => [(20, .int (k : Nat))]) (fun (k, _) => (ge us n).length - k) [0,2,3,4] [_,_,_] (0, Y5 xs (n : Int)) ⟨Nat.zero_le _, VIK.start us n xs⟩ ?_)
 rintro ⟨k, ys⟩ ⟨f1_1, f1_2⟩
 refine qso tb hJ [0,1,2,3,1000] [_] [_,_,_,_,_] ?_
 refine cjS 4 (fun hb2 => ?_) fun hb2 => ?_
 try simp at hb2
 refine Za (nx (Zd (Zb (ZC tb hJ [0,1,2,3,1002] [.ptr [.lit (.int .i64 (ge (ge us n) k))],_,_] [0] [_,_,_,_,_] rfl ⟨iIx Zq, trivial⟩ ?_))))
 refine tw (sa 4 rfl (congrArg AV.int (show (ge (ge us n) k) = (((ge (ge us n) k).toNat : Nat) : Int) from by have := hd n _ (Zg (xs := ge us n) (k := k) (by omega)); omega))) ?_
 refine ZN (sq (.lit (.func (.func 72) #[] #[.pointer (some ⟨bs, 0, none⟩), .pointer (some ⟨bg, 0, none⟩), .pointer (some ⟨bv, 0, none⟩)])) rfl rfl (lb rfl) (fun _ _ h => XD (cs := [.lit (.func (.func 72) #[] #[.pointer (some ⟨bs, 0, none⟩), .pointer (some ⟨bg, 0, none⟩), .pointer (some ⟨bv, 0, none⟩)])]) Znc rfl (Zw h.x (mo 3 rfl)) (h.get 0 rfl) rfl h.x) ?_)
 refine snK 1 tb rfl ?_
 refine ZmX (O := [OB.set keyI M ys, OB.var bs [.lit (.map (some M))], OB.var bg [.ptr [Zf d.consts, Zf d.vars, Yv d.frames, ZG us]], OB.var bv [.lit (.func (.func 72) #[] #[.pointer (some ⟨bs, 0, none⟩), .pointer (some ⟨bg, 0, none⟩), .pointer (some ⟨bv, 0, none⟩)])]]) (R := (R)) [.int ((ge (ge us n) k).toNat : Nat)] [.pointer (some ⟨bs, 0, none⟩), .pointer (some ⟨bg, 0, none⟩), .pointer (some ⟨bv, 0, none⟩)] [.at bs 0, .at bg 0, .at bv 0] (ih  (m' := ((ge (ge us n) k).toNat)) (xs' := ys) (by have := hd n _ (Zg (xs := ge us n) (k := k) (by omega)); omega)) Zkb rfl rfl rfl (lb rfl) hS hJ0 ZE (fun a w h => (h.get 1 rfl).lit) (fun a w h => (Zc (h.get 0 rfl) Zi)) (fun w => (Zc (Rel.of_lit (.pointer (some ⟨bs, 0, none⟩))) (Zc (Rel.of_lit (.pointer (some ⟨bg, 0, none⟩))) (Zc (Rel.of_lit (.pointer (some ⟨bv, 0, none⟩))) Zi)))) fun z1 => ?_
 refine seK [3,4,5,6] [_,_,_,_] rfl ?_
 refine nx (Yj tb hJ [0,1,2,1001] [.int (k + 1 : Nat),_] [0] [_,_,_,_] rfl ⟨Z2, trivial⟩ ?_)
 exact Yr (k + 1, z1.1) [0,1,2,3] ⟨by omega, f1_2.next (by omega) (by have := hd n _ (Zg (xs := ge us n) (k := k) (by omega)); omega) z1.2⟩
 try simp at hb2
 exact Zl (fun a w h => ZdL  ⟨(ys), by first | exact VIS.old hb1 | exact f1_2.fin (by omega)⟩ rfl h rfl)
theorem Zk2 {J : World → Prop} (hJ : Stab J) (M bs bg bv : Nat) (d : Db) (us : List (List Int)) (hd : Xh us) : ∀ (n : Nat) (xs : List Int), n < us.length → FnM (ι := { q' : List Int // VIS us n xs q' }) Tryz.prog J 72 [] [.int (n : Nat), .at bs 0, .at bg 0, .at bv 0] [OB.set keyI M xs, OB.var bs [.lit (.map (some M))], OB.var bg [.ptr [Zf d.consts, Zf d.vars, Yv d.frames, ZG us]], OB.var bv [.lit (.func (.func 72) #[] #[.pointer (some ⟨bs, 0, none⟩), .pointer (some ⟨bg, 0, none⟩), .pointer (some ⟨bv, 0, none⟩)])]] (fun _ => .tup []) (fun i' => [OB.set keyI M (i'.1), OB.var bs [.lit (.map (some M))], OB.var bg [.ptr [Zf d.consts, Zf d.vars, Yv d.frames, ZG us]], OB.var bv [.lit (.func (.func 72) #[] #[.pointer (some ⟨bs, 0, none⟩), .pointer (some ⟨bg, 0, none⟩), .pointer (some ⟨bv, 0, none⟩)])]]) := by
  intro n
  induction n using Nat.strongRecOn with
  | ind n ih =>
    intro xs hn
    exact Zji hJ M bs bg bv d us n xs hd hn fun m' xs' hlt => ih m' hlt xs' (by omega)

theorem Zb3 {J : World → Prop} (hJ : Stab J) (d : Db) (us : List (List Int)) (n : Nat) (hd : Xh us) (hn : n < us.length) : FnM (ι := { q' : Nat × List Int // IsReach us n q'.2 }) Tryz.prog J 47 [] [.ptr [Zf d.consts, Zf d.vars, Yv d.frames, ZG us], .int (n : Nat)] [] (fun i' => .lit (.map (some (i'.1.1)))) (fun i' => [OB.set keyI (i'.1.1) (i'.1.2)]) := by
 refine Yx (N := 13) Tryz.func47 rfl rfl (lb rfl) fun S w0 R hS hJ0 hH => ?_
 refine Xe (B := St All (SO S (R)) w0 13 [(0, .ptr [Zf d.consts, Zf d.vars, Yv d.frames, ZG us]), (1, .int (n : Nat))] (XO J S w0.heap.size (R))) ?_ fun a w h => h
 refine tsq ?_
 refine Znz (c := .ptr [Zf d.consts, Zf d.vars, Yv d.frames, ZG us]) hJ rfl rfl rfl (lb rfl) (fun a w h => (ptr_rd.2 (h.get 0 rfl))) fun b1 => ?_
 refine sq (.rd (.lit (Go.Value.map none))) rfl rfl (lb rfl) (fun _ _ h => Qs rfl (Rel.of_lit (Go.Value.map none)) h.x) ?_
 refine seK [1,3] [_,_] rfl ?_
 refine nx (tsq ?_)
 refine Qq keyI hJ rfl rfl rfl (lb rfl) fun m2 => ?_
 refine YK Zef hJ rfl rfl rfl (lb rfl) fun b3 => ?_
 refine Xn (b := b3) (off := 0) (cs := [.lit (.map none)]) (es := [.lit (.map (some m2))]) hJ hJ0 Zeq rfl rfl rfl (lb rfl) rfl (fun a w h => ⟨(h.get 0 rfl), (h.get 1 rfl)⟩) ?_
 refine seK [0,2,3] [_,_,_] rfl ?_
 refine nx (tsq ?_)
 refine YK Ziy hJ rfl rfl rfl (lb rfl) fun b4 => ?_
 refine seK [0,1,2,3] [_,_,_,_] rfl ?_
 refine nx (tsq ?_)
 refine sq (.lit (.func (.func 72) #[] #[.pointer (some ⟨b3, 0, none⟩), .pointer (some ⟨b1, 0, none⟩), .pointer (some ⟨b4, 0, none⟩)])) rfl rfl (lb rfl) (fun _ _ h => Zi0 (caps := [(Go.Operand.tmp 5), (Go.Operand.tmp 2), (Go.Operand.tmp 6)]) rfl (map_cons (h.get 1 rfl).lit (map_cons (h.get 2 rfl).lit (map_cons (h.get 0 rfl).lit map_nil))) h.x) ?_
 refine Xn (b := b4) (off := 0) (cs := [.lit .nilFunc]) (es := [.lit (.func (.func 72) #[] #[.pointer (some ⟨b3, 0, none⟩), .pointer (some ⟨b1, 0, none⟩), .pointer (some ⟨b4, 0, none⟩)])]) hJ hJ0 ZiN rfl rfl rfl (lb rfl) rfl (fun a w h => ⟨(h.get 1 rfl), (h.get 0 rfl)⟩) ?_
 refine seK [1,2,4] [_,_,_] rfl ?_
 refine nx (tsq ?_)
 refine sq (.lit (.func (.func 72) #[] #[.pointer (some ⟨b3, 0, none⟩), .pointer (some ⟨b1, 0, none⟩), .pointer (some ⟨b4, 0, none⟩)])) rfl rfl (lb rfl) (fun _ _ h => XD (cs := [.lit (.func (.func 72) #[] #[.pointer (some ⟨b3, 0, none⟩), .pointer (some ⟨b1, 0, none⟩), .pointer (some ⟨b4, 0, none⟩)])]) Znc rfl (Zw h.x (mo 0 rfl)) (h.get 0 rfl) rfl h.x) ?_
 refine snK 1 tb rfl ?_
 refine kw pm3 ?_
 refine kw pm2 ?_
 refine kw pm3 ?_
 refine ZmX (O := [OB.set keyI m2 ([] : List Int), OB.var b3 [.lit (.map (some m2))], OB.var b1 [.ptr [Zf d.consts, Zf d.vars, Yv d.frames, ZG us]], OB.var b4 [.lit (.func (.func 72) #[] #[.pointer (some ⟨b3, 0, none⟩), .pointer (some ⟨b1, 0, none⟩), .pointer (some ⟨b4, 0, none⟩)])]]) (R := (R)) [.int (n : Nat)] [.pointer (some ⟨b3, 0, none⟩), .pointer (some ⟨b1, 0, none⟩), .pointer (some ⟨b4, 0, none⟩)] [.at b3 0, .at b1 0, .at b4 0] (Zk2 hJ (M := m2) (bs := b3) (bg := b1) (bv := b4) (d := d) (us := us) (n := n) (xs := ([] : List Int)) (hd) (hn)) Zkb rfl rfl rfl (lb rfl) hS hJ0 ZE (fun a w h => (h.get 1 rfl).lit) (fun a w h => (Zc (h.get 0 rfl) Zi)) (fun w => (Zc (Rel.of_lit (.pointer (some ⟨b3, 0, none⟩))) (Zc (Rel.of_lit (.pointer (some ⟨b1, 0, none⟩))) (Zc (Rel.of_lit (.pointer (some ⟨b4, 0, none⟩))) Zi)))) fun z5 => ?_
 refine seK [4] [_] rfl ?_
 refine nx (ZC tb hJ [1001] [.lit (.map (some m2)),_] [0] [_] rfl ⟨fun _ _ _ hx hl _ => XD (cs := [.lit (.map (some m2))]) ZgY rfl (Zw hx (mo 1 rfl)) (hl.env 0 5 _ rfl rfl) rfl hx, trivial⟩ ?_)
 refine tw pm1 ?_
 refine tw Yp ?_
 refine tw pm1 ?_
 refine tw Yp ?_
 refine tw pm1 ?_
 refine tw Yp ?_
 exact Ze (fun a w h => Ya  (m := 0) ⟨(m2, z5.1), z5.2.reach⟩ rfl h rfl rfl)
end Go.Proofs.YtnpgmdffjemnbaaGreatDoor
namespace Go.Proofs.YtnpgmdffjemnbaaGreatDoor

def isN (n : Int) (x : Int) : Bool := decide (n = x)
theorem ZoW (n : Int) (xs : List Int) : xs.any (isN n) = decide (n ∈ xs) := by
  rw [Bool.eq_iff_iff, List.any_eq_true, decide_eq_true_eq]
  exact ⟨fun ⟨x, hx, h⟩ => by rw [of_decide_eq_true h]; exact hx, fun h => ⟨n, h, decide_eq_true rfl⟩⟩
open Classical in
noncomputable def ZeN (us : List (List Int)) (n : Nat) : List Int := ((List.range n).filter fun (p : Nat) => decide (Rch us n (p : Int))).map fun (p : Nat) => (p : Int)
open Classical in
theorem nedL_mem {us : List (List Int)} {n : Nat} {x : Int} : x ∈ ZeN us n ↔ 0 ≤ x ∧ x < n ∧ Rch us n x := by
  unfold ZeN
  rw [List.mem_map]
  constructor
  · rintro ⟨p, hp, rfl⟩
    rw [List.mem_filter, List.mem_range, decide_eq_true_eq] at hp
    exact ⟨by omega, by omega, hp.2⟩
  · rintro ⟨h1, h2, h3⟩
    refine ⟨x.toNat, ?_, by omega⟩
    rw [List.mem_filter, List.mem_range, decide_eq_true_eq, show ((x.toNat : Nat) : Int) = x by omega]
    exact ⟨by omega, h3⟩
open Classical in
theorem Zg1 (us : List (List Int)) (n : Nat) : (ZeN us n).Pairwise (· < ·) := by
  unfold ZeN
  rw [List.pairwise_map]
  refine List.Pairwise.imp (R := (· < ·)) (fun {a b} h => by omega) ?_
  exact List.pairwise_lt_range.filter _
open Classical in
theorem Zlr (us : List (List Int)) (n : Nat) : (ZeN us n).length ≤ n := by
  rw [ZeN, List.length_map]
  exact Nat.le_trans (List.length_filter_le _ _) (by simp)
theorem Zdy {us : List (List Int)} {n : Nat} {ys : List Int} (h : IsReach us n ys) (hd : Xh us) : ∀ x ∈ ys, 0 ≤ x ∧ x ≤ n := fun x hx => ((h.iff x).1 hx).le hd (by omega)
theorem Zew {us : List (List Int)} {n : Nat} {ys : List Int} (h : IsReach us n ys) (hd : Xh us) : ys.length ≤ n + 1 := by
  have := ZaL h.nod (ys := (List.range (n + 1)).map fun (p : Nat) => (p : Int)) fun x hx => by
    have := Zdy h hd x hx
    rw [List.mem_map]
    exact ⟨x.toNat, by rw [List.mem_range]; omega, by omega⟩
  simpa using this
theorem Zev {us : List (List Int)} {n : Nat} {ys : List Int} (h : IsReach us n ys) (hd : Xh us) : Y0 (ys.erase (n : Int)) = ZeN us n := by
  refine Zdv (h.nod.erase _) (Zg1 us n) fun x => ?_
  rw [h.nod.mem_erase_iff, h.iff, nedL_mem]
  constructor
  · rintro ⟨h1, h2⟩
    have := h2.le hd (by omega)
    exact ⟨this.1, by omega, h2⟩
  · rintro ⟨h1, h2, h3⟩
    exact ⟨by omega, h3⟩
end Go.Proofs.YtnpgmdffjemnbaaGreatDoor
set_option maxHeartbeats 8000000
set_option maxRecDepth 100000
namespace Go.Proofs.YtnpgmdffjemnbaaGreatDoor
open Go.RowKit

theorem Zld {J : World → Prop} (hJ : Stab J) (xs : List Int) (n : Int)  : Fn Tryz.prog J 26 [.rd (ZJ xs), .int n] (.int (YS (isN n) xs)) := by
 refine Zn (N := 19) Tryz.func26 rfl rfl (lb rfl) fun S w0 hS hJ0 => ?_
 clear hJ0
 refine ln 0 fun hl1 => ?_
 refine qs tb hJ [0,1] [_] [_,_] ?_
 refine Zd (hqs tb hJ [0,1,1001,1002] [_,.int (xs.length : Nat),_] [1] [_,_,_,_] rfl ⟨ZZ Ym, trivial⟩ ?_)
 refine Zb (lp (ι := Nat) (fun k => (k ≤ xs.length) ∧ (∀ j, j < k → isN n (ge xs j) = false)) (fun k => [(8, .int (k : Nat))]) (fun k => xs.length - k) [0,1,2,3] [_,_,_] 0 ⟨Nat.zero_le _, fun j hj => by omega⟩ ?_)
 rintro k ⟨f1_1, f1_2⟩
 refine qs tb hJ [0,1,2,3,1000] [_] [_,_,_,_,_] ?_
 refine cjS 4 (fun hb1 => ?_) fun hb1 => ?_
 try simp at hb1
 refine Za (nx (Zd (Zb (qs tb hJ [0,1,2,3,1001] [_,_] [_,_,_,_,_] ?_))))
 refine hqs tb hJ [0,1,2,3,4,1005] [_,_,_,.ptr [.lit (.int .i64 (ge xs k))],_,_] [3] [_,_,_,_,_,_] rfl ⟨iIx Zq, trivial⟩ ?_
 refine cj 5 (fun hb2 => ?_) fun hb2 => ?_
 try simp at hb2
 refine qs tb hJ [1001] [_,_] [_] ?_
 exact Ze (rtn (m := 0) rfl rfl (eI (by first | exact (Yl hb1 (by simpa [isN] using hb2) f1_2).symm | exact (Z5 fun j hj => f1_2 j (by omega)).symm)))
 try simp at hb2
 refine Za (nx (hqp tb hJ [0,1,2,1001] [.int (k + 1 : Nat),_] [0] [_,_,_,_] rfl ⟨Z2, trivial⟩ ?_))
 exact lpE (k + 1) [0,1,2,3] ⟨by omega, ZH f1_2 (by simpa [isN] using hb2)⟩
 try simp at hb1
 refine Zl (nx (qs tb hJ [1000] [_] [_] ?_))
 exact Ze (rtn (m := 0) rfl rfl (eI (by first | exact (Yl hb1 (by simpa [isN] using hb2) f1_2).symm | exact (Z5 fun j hj => f1_2 j (by omega)).symm)))
theorem Zb6 {J : World → Prop} (hJ : Stab J) (xs : List Int) (n : Int)  : Fn Tryz.prog J 24 [.rd (ZJ xs), .int n] (.bool (decide (n ∈ xs))) := by
 refine Zn (N := 9) Tryz.func24 rfl rfl (lb rfl) fun S w0 hS hJ0 => ?_
 clear hJ0
 refine ln 0 fun hl1 => ?_
 refine qs tb hJ [0,1] [_] [_,_] ?_
 refine hqs tb hJ [1004] [_,_,.int (YS (isN n) xs),_,_] [2] [_] rfl ⟨iFn hS hJ (Zld hJ (xs := xs) (n := n) ) ZoK, trivial⟩ ?_
 exact Ze (rtn (m := 0) rfl rfl (eB (by rw [Qb, ZoW])))
end Go.Proofs.YtnpgmdffjemnbaaGreatDoor
set_option maxHeartbeats 8000000
set_option maxRecDepth 100000
namespace Go.Proofs.YtnpgmdffjemnbaaGreatDoor
open Go.RowKit

theorem Zjh {J : World → Prop} (hJ : Stab J) (M : Nat) (xs : List Int) (hx : ∀ x ∈ xs, 0 ≤ x ∧ x < 1000) (hl : xs.length ≤ 1000) : FnM (ι := Value) Tryz.prog J 48 [] [.lit (.map (some M))] [OB.set keyI M xs] (fun i' => .lit i') (fun i' => [OB.row i' 3 1 ((Y0 xs).map Xa), OB.set keyI M xs]) := by
  intro S w0 R w vs hS hJ0 _ hk0 hxo ha
  simp only [RelL] at ha
  obtain ⟨u, us, rfl, h1, rfl⟩ := ha
  rw [h1.lit]
  have hi := hxo.2.1 (OB.set keyI M xs) (by simp)
  obtain ⟨D0, hown, hp, hsz⟩ := Zgy hi (fun x hxx => by have := hx x hxx; simp [Lit.wf, IntKind.min, IntKind.max, IntKind.bits, IntKind.signed]; omega) (by unfold maxLen; omega)
  refine (Zgv M xs.length D0 _ w hown (by rw [hsz]; unfold maxLen; omega) (by rw [hsz]; omega)).mono fun e w' ⟨v, ss, he, hS', hrow, _, hb⟩ => ?_
  have hk : Keeps All w w' := (Keeps.of_below hb).sub fun k hk _ => hk
  have e0 : ss.mergeSort (fun x y => decide (x ≤ y)) = Y0 xs := mergeSort_of_perm_i (hS'.trans hp)
  rw [e0] at hrow
  have hlen : (Y0 xs).length = ss.length := by rw [← e0, List.length_mergeSort]
  have hcells : ∀ (S : Nat → Prop) (w : World) (l : List Int), RdL S w ((l.map Xa).flatten) (l.map encZ) := by
    intro S w l
    induction l with
    | nil => trivial
    | cons x l ih => exact ⟨.lit _ True.intro, ih⟩
  have hinv : ∀ lo S, lo ≤ w.heap.size → (OB.row v 3 1 ((Y0 xs).map Xa)).inv lo S w' := fun lo S hlo => ⟨(Y0 xs).map encZ, by rw [List.length_map, hlen]; exact ownsRow_base_a hrow hlo, hcells S w' _, fun r hr => by obtain ⟨x, _, rfl⟩ := List.mem_map.1 hr; rfl⟩
  have hadd := Xm (o := OB.row v 3 1 ((Y0 xs).map Xa)) hJ hk0 hxo hk (fun k hb => ((OB.row v 3 1 ((Y0 xs).map Xa)).lt (hinv w.heap.size All (Nat.le_refl _)) k hb).1) (hinv _ _ hk0.size)
  exact ⟨v, v, he, Rel.of_lit _ (Qr (hinv w.heap.size All (Nat.le_refl _))), hadd.1, hadd.2.1⟩

theorem ZnO {J : World → Prop} (hJ : Stab J) (d : Db) (i : Int) (hw : ∀ f ∈ d.frames, f.wide.length * 32 ≤ 140737488351232) (hG : XK J) : FnM (ι := Value) Tryz.prog J 15 [] [.agg (dbC d), .int i] [] (fun i' => .tup [.lit (i'), .int (Zif d i)]) (fun i' => [OB.row i' 3 1 ((if Zif d i = 0 then ZeN (usL d d.frames.length) i.toNat else []).map Xa)]) := by
 refine Yx (N := 26) Tryz.func15 rfl rfl (lb rfl) fun S w0 R hS hJ0 hH => ?_
 refine Xe (B := St All (SO S (R)) w0 26 [(0, .agg (dbC d)), (1, .int i)] (XO J S w0.heap.size (R))) ?_ fun a w h => h
 refine ZC tb hJ [1,1000] [.ptr (dbC d),_,_] [0] [_,_] rfl ⟨fun _ _ hk hx hl _ => Yk rfl (hl.env 0 0 _ rfl rfl) (Zo hS _ hk hx _ (Nat.le_refl _)) (jo hJ hx), trivial⟩ ?_
 refine ZC tb hJ [0,1002,1007,1008] [_,_,.rd (ZJ ([i])),.tup [gAV (rdE d ([i])) [Zf d.consts, Zf d.vars, Yv d.frames, ZG (usL d d.frames.length)], .int (rdE d ([i]))],_,_,_,_,_] [2,3] [_,_,_,_] rfl ⟨fun _ _ hk hx hl _ => ZV Zq XT rfl (hl.dep 1 11 _ rfl rfl rfl rfl) (Zo hS _ hk hx _ (Nat.le_refl _)) (jo hJ hx), iFo hS hJ (ZeB hJ (d := d) (ns := ([i])) (hw) (hG)) Zcy, trivial⟩ ?_
 refine ln 1 fun hl1 => ?_
 refine Zd (qso tb hJ [0,2,3,1001] [_,_] [_,_,_,_] ?_)
 refine cj 3 (fun hb1 => ?_) fun hb1 => ?_
 have c1 : ¬ Zif d i = 0 := by rw [← Zb1]; exact Q8 hb1
 refine qso tb hJ [1001,1002] [_,_,_] [_,_] ?_
 refine tw (Yo 3 1 hJ) ?_
 refine tw (ob0 (congrArg (fun z' => OB.row (.slice none 0 0) 3 1 ((z').map Xa)) (show ([] : List Int) = (if Zif d i = 0 then ZeN (usL d d.frames.length) i.toNat else []) from by first | (rw [if_neg c1]; done) | (rw [if_pos c0]; exact Zev z1.2 (ZQ _ _))))) ?_
 exact Ze (fun a w h => ZjD  (m := 0) (k := 1) (.slice none 0 0) rfl h rfl rfl (tup2 rfl (eI (by first | exact Zb1 d i | exact c0.symm))))
 have c0 : Zif d i = 0 := by rw [← Zb1]; exact Zcd hb1
 have c2 := Zie c0
 have c3 := Xt c2.1
 refine tw (sa 1 rfl (show (gAV (rdE d ([i])) [Zf d.consts, Zf d.vars, Yv d.frames, ZG (usL d d.frames.length)] : AV) = .ptr [Zf d.consts, Zf d.vars, Yv d.frames, ZG (usL d d.frames.length)] from Zap (by rw [Zb1]; exact c0))) ?_
 refine Za (nx (tw (sa 0 rfl (congrArg AV.int (show i = (i.toNat : Int) from by omega))) ?_))
 refine tsq ?_
 refine snK 2 tb rfl ?_
 refine Zag (O := []) (R := (R)) (Zb3 hJ (d := d) (us := (usL d d.frames.length)) (n := i.toNat) (ZQ _ _) (by rw [Xl]; omega)) Zcx rfl rfl rfl (lb rfl) hS hJ0 ZE (fun a w h => (Zc (h.get 1 rfl) (Zc (h.get 0 rfl) Zi))) fun z1 => ?_
 refine snK 1 tb rfl ?_
 refine seK [0,4] [_,_] rfl ?_
 refine nx (tsq ?_)
 refine snK 2 tb rfl ?_
 refine Zny Yw hJ hJ0 (i.toNat : Int) rfl rfl (fun a w h => ⟨(h.get 1 rfl), (h.get 0 rfl)⟩) rfl ?_
 refine seK [2] [_] rfl ?_
 refine nx (tsq ?_)
 refine snK 1 tb rfl ?_
 refine Zag (O := [OB.set keyI z1.1.1 (z1.1.2.erase (i.toNat : Int))]) (R := (R)) (Zjh hJ (M := z1.1.1) (xs := (z1.1.2.erase (i.toNat : Int))) (fun x hx => by have := Zdy z1.2 (ZQ _ _) x (List.mem_of_mem_erase hx); omega) (by have := Zew z1.2 (ZQ _ _); have := List.length_erase_le (a := (i.toNat : Int)) (l := z1.1.2); omega)) Zf8 rfl rfl rfl (lb rfl) hS hJ0 ZE (fun a w h => (Zc (h.get 0 rfl) Zi)) fun z2 => ?_
 refine snK 2 tb rfl ?_
 refine seK [0,1] [_,_] rfl ?_
 refine nx (tw pm1 ?_)
 refine tw Yp ?_
 refine tw (ob0 (congrArg (fun z' => OB.row z2 3 1 ((z').map Xa)) (show (Y0 (z1.1.2.erase (i.toNat : Int))) = (if Zif d i = 0 then ZeN (usL d d.frames.length) i.toNat else []) from by first | (rw [if_neg c1]; done) | (rw [if_pos c0]; exact Zev z1.2 (ZQ _ _))))) ?_
 exact Ze (fun a w h => ZjD  (m := 1) (k := 0) z2 rfl h rfl rfl (tup2 rfl (eI (by first | exact Zb1 d i | exact c0.symm))))
theorem ZdB {J : World → Prop} (hJ : Stab J) (xs : List Int) (f : FuncId) (caps : List AV) (Os : List OB) (p : Int → Bool) (hf : ∀ q' ∈ xs, FnR Tryz.prog J f Os ([.int q'] ++ caps) (.bool (p q'))) (hk0 : Zj Tryz.prog f) : FnR Tryz.prog J 58 Os [.rd (ZJ xs), .fn f caps] (.int (YS p xs)) := by
 refine Z1 (N := 19) Tryz.func58 rfl rfl (lb rfl) fun S w0 hS hJ0 hH => ?_
 clear hJ0
 refine ln 0 fun hl1 => ?_
 refine qs tb hJ [0,1] [_] [_,_] ?_
 refine Zd (hqs tb hJ [0,1,1001,1002] [_,.int (xs.length : Nat),_] [1] [_,_,_,_] rfl ⟨ZZ Ym, trivial⟩ ?_)
 refine Zb (lp (ι := Nat) (fun k => (k ≤ xs.length) ∧ (∀ j, j < k → p (ge xs j) = false)) (fun k => [(8, .int (k : Nat))]) (fun k => xs.length - k) [0,1,2,3] [_,_,_] 0 ⟨Nat.zero_le _, fun j hj => by omega⟩ ?_)
 rintro k ⟨f1_1, f1_2⟩
 refine qs tb hJ [0,1,2,3,1000] [_] [_,_,_,_,_] ?_
 refine cjS 4 (fun hb1 => ?_) fun hb1 => ?_
 try simp at hb1
 refine Za (nx (Zd (Zb (qs tb hJ [0,1,2,3,1001] [_,_] [_,_,_,_,_] ?_))))
 refine hqs tb hJ [0,1,2,3,4,1005] [_,_,_,.ptr [.lit (.int .i64 (ge xs k))],_,.bool (p (ge xs k))] [3,5] [_,_,_,_,_,_] rfl ⟨iIx Zq, fun _ _ hk hx hl _ => Zah (hf (ge xs k) (Zg (by omega))) hk0 rfl (hl.dep 0 11 _ rfl rfl rfl rfl) (nm hS hk) (hx) (fun _ ho => Yq hH hk ho) (Zc (hl.dep 4 15 _ rfl rfl rfl rfl) Zi) (js hJ hx), trivial⟩ ?_
 refine cj 5 (fun hb2 => ?_) fun hb2 => ?_
 try simp at hb2
 refine qs tb hJ [1001] [_,_] [_] ?_
 exact Ze (rtn (m := 0) rfl rfl (eI (by first | exact (Yl hb1 hb2 f1_2).symm | exact (Z5 fun j hj => f1_2 j (by omega)).symm)))
 try simp at hb2
 refine Za (nx (hqp tb hJ [0,1,2,1001] [.int (k + 1 : Nat),_] [0] [_,_,_,_] rfl ⟨Z2, trivial⟩ ?_))
 exact lpE (k + 1) [0,1,2,3] ⟨by omega, ZH f1_2 hb2⟩
 try simp at hb1
 refine Zl (nx (qs tb hJ [1000] [_] [_] ?_))
 exact Ze (rtn (m := 0) rfl rfl (eI (by first | exact (Yl hb1 hb2 f1_2).symm | exact (Z5 fun j hj => f1_2 j (by omega)).symm)))
end Go.Proofs.YtnpgmdffjemnbaaGreatDoor
namespace Go.Proofs.YtnpgmdffjemnbaaGreatDoor

inductive RchW (us : List (List Int)) (wo : Int) (a : Int) : Int → Prop where
  | refl : RchW us wo a a
  | snoc (r b : Int) (h : RchW us wo a r) (h1 : r ≠ wo) (h2 : b ∈ ge us r.toNat) (h3 : b ≠ wo) : RchW us wo a b
theorem RchW.le {us : List (List Int)} (hd : Xh us) {wo a b : Int} (h : RchW us wo a b) (ha : 0 ≤ a) : 0 ≤ b ∧ b ≤ a := by
  induction h with
  | refl => exact ⟨ha, Int.le_refl _⟩
  | snoc r b _ _ h2 _ ih =>
    have := hd _ b h2
    omega
theorem RchW.all {us : List (List Int)} (hd : Xh us) {a b : Int} (ha : 0 ≤ a) : RchW us (-1) a b ↔ Rch us a b := by
  constructor
  · intro h
    induction h with
    | refl => exact .refl _
    | snoc r b _ _ h2 _ ih => exact ih.trans (.one h2)
  · intro h
    have key : ∀ x y, Rch us x y → RchW us (-1) a x → RchW us (-1) a y := by
      intro x y hxy
      induction hxy with
      | refl => exact id
      | step i x y hx _ ih => exact fun hi => ih (.snoc _ _ hi (by have := hi.le hd ha; omega) hx (by have := hd _ x hx; omega))
    exact key _ _ h .refl
def MkI (us : List (List Int)) (wo : Int) (i q : Nat) (mk : List Bool) : Prop := ∀ p, p < mk.length → (ge mk p = true ↔ (p = i ∨ ∃ r : Nat, q ≤ r ∧ RchW us wo i r ∧ (r : Int) ≠ wo ∧ (p : Int) ∈ ge us r ∧ (p : Int) ≠ wo))
def MkJ (us : List (List Int)) (wo : Int) (i k j : Nat) (mk : List Bool) : Prop := ∀ p, p < mk.length → (ge mk p = true ↔ (p = i ∨ (∃ r : Nat, k < r ∧ RchW us wo i r ∧ (r : Int) ≠ wo ∧ (p : Int) ∈ ge us r ∧ (p : Int) ≠ wo) ∨ ∃ j', j' < j ∧ (p : Int) = ge (ge us k) j' ∧ (p : Int) ≠ wo))
section
variable {us : List (List Int)} {wo : Int} {i q : Nat} {mk : List Bool}
theorem Zlu {n : Nat} (hd : Xh us) (hi : i < n) : MkI us wo i (i + 1) ((List.replicate n false).set i true) := fun p hp => by
  rw [ZeZ (by simpa using hi)]
  by_cases e : p = i
  · simp [e]
  · rw [if_neg e]
    have : ge (List.replicate n false) p = false := by
      rw [ge, List.getD_eq_getElem?_getD, List.getElem?_replicate]
      split <;> rfl
    rw [this]
    constructor
    · intro h; cases h
    · rintro (h | ⟨r, h1, h2, _⟩)
      · exact absurd h e
      · have := h2.le hd (by omega); omega
theorem Zne (hd : Xh us) (h : MkI us wo i q mk) (hq : 0 < q) (hl : q - 1 < mk.length) : ge mk (q - 1) = true ↔ RchW us wo i ((q - 1 : Nat) : Int) := by
  rw [h (q - 1) hl]
  constructor
  · rintro (h | ⟨r, _, h2, h3, h4, h5⟩)
    · rw [h]; exact .refl
    · exact .snoc _ _ h2 h3 (by rw [Int.toNat_natCast]; exact h4) h5
  · intro h
    generalize hb : ((q - 1 : Nat) : Int) = b at h
    cases h with
    | refl => exact .inl (by omega)
    | snoc r _ h1 h2 h3 h4 =>
      have hr := h1.le hd (by omega)
      have hx := hd _ _ h3
      refine .inr ⟨r.toNat, by omega, by rw [show ((r.toNat : Nat) : Int) = r by omega]; exact h1, by rw [show ((r.toNat : Nat) : Int) = r by omega]; exact h2, h3, h4⟩
theorem Zg6 (hd : Xh us) (h : MkI us wo i q mk) (hq : 0 < q) (hl : q - 1 < mk.length) (hs : ge mk (q - 1) = false ∨ ((q - 1 : Nat) : Int) = wo) : MkI us wo i (q - 1) mk := fun p hp => by
  rw [h p hp]
  refine or_congr Iff.rfl ⟨?_, ?_⟩
  · rintro ⟨r, h1, h2⟩; exact ⟨r, by omega, h2⟩
  · rintro ⟨r, h1, h2, h3, h4⟩
    refine ⟨r, ?_, h2, h3, h4⟩
    rcases Nat.lt_or_ge r q with hlt | hge
    · exfalso
      have : r = q - 1 := by omega
      subst this
      rcases hs with hs | hs
      · have := (Zne hd h hq hl).2 h2
        rw [hs] at this; cases this
      · exact h3 hs
    · exact hge
theorem Zlt (h : MkI us wo i q mk) (hq : 0 < q) : MkJ us wo i (q - 1) 0 mk := fun p hp => by
  rw [h p hp]
  refine or_congr Iff.rfl ⟨?_, ?_⟩
  · rintro ⟨r, h1, h2⟩; exact .inl ⟨r, by omega, h2⟩
  · rintro (⟨r, h1, h2⟩ | ⟨j, hj, _⟩)
    · exact ⟨r, by omega, h2⟩
    · omega
theorem Zjv {k j : Nat} (h : MkJ us wo i k j mk) (h0 : 0 ≤ ge (ge us k) j) (hl : (ge (ge us k) j).toNat < mk.length) (hw : ge (ge us k) j ≠ wo) : MkJ us wo i k (j + 1) (mk.set (ge (ge us k) j).toNat true) := fun p hp => by
  rw [List.length_set] at hp
  rw [ZeZ hl]
  by_cases e : p = (ge (ge us k) j).toNat
  · rw [if_pos e]
    simp only [true_iff]
    exact .inr (.inr ⟨j, by omega, by omega, by omega⟩)
  · rw [if_neg e, h p hp]
    refine or_congr Iff.rfl (or_congr Iff.rfl ⟨?_, ?_⟩)
    · rintro ⟨j', h1, h2⟩; exact ⟨j', by omega, h2⟩
    · rintro ⟨j', h1, h2, h3⟩
      refine ⟨j', ?_, h2, h3⟩
      rcases Nat.lt_or_ge j' j with h4 | h4
      · exact h4
      · have : j' = j := by omega
        subst this
        omega
theorem Zg5 {k j : Nat} (h : MkJ us wo i k j mk) (hw : ge (ge us k) j = wo) : MkJ us wo i k (j + 1) mk := fun p hp => by
  rw [h p hp]
  refine or_congr Iff.rfl (or_congr Iff.rfl ⟨?_, ?_⟩)
  · rintro ⟨j', h1, h2⟩; exact ⟨j', by omega, h2⟩
  · rintro ⟨j', h1, h2, h3⟩
    refine ⟨j', ?_, h2, h3⟩
    rcases Nat.lt_or_ge j' j with h4 | h4
    · exact h4
    · have : j' = j := by omega
      subst this
      exact absurd (h2.trans hw) h3
theorem Zjw {j : Nat} (hd : Xh us) {mk0 : List Bool} (h0 : MkI us wo i q mk0) (hm : ge mk0 (q - 1) = true) (hl0 : q - 1 < mk0.length) (hw : ((q - 1 : Nat) : Int) ≠ wo) (hq : 0 < q) (h : MkJ us wo i (q - 1) j mk) (hj : (ge us (q - 1)).length ≤ j) (hj2 : j ≤ (ge us (q - 1)).length) : MkI us wo i (q - 1) mk := fun p hp => by
  rw [h p hp]
  refine or_congr Iff.rfl ⟨?_, ?_⟩
  · rintro (⟨r, h1, h2⟩ | ⟨j', h1, h2, h3⟩)
    · exact ⟨r, by omega, h2⟩
    · refine ⟨q - 1, Nat.le_refl _, (Zne hd h0 hq hl0).1 hm, hw, ?_, h3⟩
      rw [h2]
      exact Zg (by omega)
  · rintro ⟨r, h1, h2, h3, h4, h5⟩
    rcases Nat.lt_or_ge (q - 1) r with h6 | h6
    · exact .inl ⟨r, h6, h2, h3, h4, h5⟩
    · have : r = q - 1 := by omega
      subst this
      obtain ⟨j', hj', e⟩ := Y6 h4
      exact .inr ⟨j', by omega, e.symm, h5⟩
end
open Classical in
noncomputable def ZhV (us : List (List Int)) (wo : Int) (i : Nat) : List Int := ((List.range i).filter fun (p : Nat) => decide (RchW us wo i (p : Int))).map fun (p : Nat) => (p : Int)
open Classical in
theorem Zlp {us : List (List Int)} (hd : Xh us) (i : Nat) : ZhV us (-1) i = ZeN us i := by
  unfold ZhV ZeN
  congr 1
  refine List.filter_congr fun p _ => ?_
  rw [Bool.eq_iff_iff, decide_eq_true_eq, decide_eq_true_eq]
  exact RchW.all hd (by omega)
noncomputable def ZnU (us : List (List Int)) (wo : Int) (i m : Nat) : List Int := by
  classical
  exact ((List.range m).filter fun (p : Nat) => decide (RchW us wo i (p : Int))).map fun (p : Nat) => (p : Int)
theorem Zlq (us : List (List Int)) (wo : Int) (i : Nat) : ZnU us wo i i = ZhV us wo i := rfl
theorem ZeM {us : List (List Int)} {wo : Int} {i m : Nat} {b : Bool} (h : b = true ↔ RchW us wo i (m : Int)) : ZnU us wo i (m + 1) = ZnU us wo i m ++ (if b then [(m : Int)] else []) := by
  classical
  unfold ZnU
  rw [List.range_succ, List.filter_append, List.map_append]
  by_cases hr : RchW us wo i (m : Int)
  · simp [hr, h.2 hr]
  · have : b = false := by
      cases hb : b with
      | false => rfl
      | true => exact absurd (h.1 hb) hr
    simp [hr, this]
theorem ZdF (us : List (List Int)) (wo : Int) (i m : Nat) : (ZnU us wo i m).length ≤ m := by
  classical
  unfold ZnU
  rw [List.length_map]
  exact Nat.le_trans (List.length_filter_le _ _) (by simp)
theorem Zjx {us : List (List Int)} {wo : Int} {i m : Nat} {mk : List Bool} (hd : Xh us) (h : MkI us wo i 0 mk) (hm : m < mk.length) : ge mk m = true ↔ RchW us wo i (m : Int) := by
  rw [h m hm]
  constructor
  · rintro (h | ⟨r, _, h2, h3, h4, h5⟩)
    · rw [h]; exact .refl
    · exact .snoc _ _ h2 h3 (by rw [Int.toNat_natCast]; exact h4) h5
  · intro h
    generalize hb : (m : Int) = b at h
    cases h with
    | refl => exact .inl (by omega)
    | snoc r _ h1 h2 h3 h4 =>
      have hr := h1.le hd (by omega)
      refine .inr ⟨r.toNat, Nat.zero_le _, by rw [show ((r.toNat : Nat) : Int) = r by omega]; exact h1, by rw [show ((r.toNat : Nat) : Int) = r by omega]; exact h2, h3, h4⟩
end Go.Proofs.YtnpgmdffjemnbaaGreatDoor
namespace Go.Proofs.YtnpgmdffjemnbaaGreatDoor

noncomputable def QE (us : List (List Int)) (n : Nat) : List Int := ZeN us n ++ [(n : Int)]
theorem Zex {us : List (List Int)} {n : Nat} {ys : List Int} (h : IsReach us n ys) (hd : Xh us) : Y0 ys = QE us n := by
  refine Zdv h.nod ?_ fun x => ?_
  · unfold QE
    rw [List.pairwise_append]
    exact ⟨Zg1 us n, by simp, fun a ha b hb => by rw [List.mem_singleton.1 hb]; exact (nedL_mem.1 ha).2.1⟩
  · rw [h.iff, QE, List.mem_append, nedL_mem, List.mem_singleton]
    constructor
    · intro hx
      have := hx.le hd (by omega)
      by_cases e : x = n
      · exact .inr e
      · exact .inl ⟨this.1, by omega, hx⟩
    · rintro (⟨_, _, h3⟩ | rfl)
      · exact h3
      · exact .refl _
theorem ZgM (us : List (List Int)) (n : Nat) : (QE us n).length ≤ n + 1 := by
  have := Zlr us n
  simp [QE]; omega
theorem ZkR {us : List (List Int)} {n : Nat} {x : Int} (h : x ∈ QE us n) : 0 ≤ x ∧ x ≤ n := by
  rcases List.mem_append.1 h with h | h
  · have := nedL_mem.1 h; omega
  · rw [List.mem_singleton.1 h]; omega
theorem Zcs {us : List (List Int)} (hd : Xh us) (i : Nat) : Xh (us.set i []) := fun k x hx => by
  by_cases hi : i < us.length
  · rw [ZeZ hi] at hx
    split at hx
    · simp at hx
    · exact hd k x hx
  · rw [List.set_eq_of_length_le (by omega)] at hx
    exact hd k x hx
open Classical in
noncomputable def ZfR (us : List (List Int)) (f t : Nat) (i : Int) : Bool := (!decide (i = f) && !decide (i = t)) && !decide (Rch (us.set i.toNat []) f t)
theorem ZfQ {us : List (List Int)} {f t : Nat} {i : Int} (h : (decide (i = f) || decide (i = t)) = true) : ZfR us f t i = false := by rw [ZfR, ← Bool.not_or, h]; rfl
open Classical in
theorem Zg2 {us : List (List Int)} {f t : Nat} {i : Int} (h : (decide (i = f) || decide (i = t)) = false) (hr : ¬ Rch (us.set i.toNat []) f t) : ZfR us f t i = true := by rw [ZfR, ← Bool.not_or, h, decide_eq_false hr]; rfl
open Classical in
theorem Zg3 {us : List (List Int)} {f t : Nat} {i : Int} (h : (decide (i = f) || decide (i = t)) = false) (hr : Rch (us.set i.toNat []) f t) : ZfR us f t i = false := by rw [ZfR, ← Bool.not_or, h, decide_eq_true hr]; rfl
noncomputable def Zls (us : List (List Int)) (f t : Nat) : List Int := (QE us f).filter (ZfR us f t)
open Classical in
noncomputable def ZdH (d : Db) (f t : Int) : Int := if !decide (rdE d [f, t] = 0) then rdE d [f, t] else if !decide (Rch (usL d d.frames.length) f t) then 5 else 0
theorem ZnG {d : Db} {f t : Int} (h : rdE d [f, t] = 0) : Xk d = 0 ∧ (0 ≤ f ∧ f < d.frames.length) ∧ 0 ≤ t ∧ t < d.frames.length := by
  unfold rdE at h
  by_cases h1 : Xk d = 0
  · rw [if_neg (by simp [h1])] at h
    by_cases h2 : ([f, t].any fun i => decide (i < 0) || decide (((d.frames.length : Nat) : Int) ≤ i)) = true
    · rw [if_pos h2] at h; exact absurd h (by decide)
    · simp only [List.any_cons, List.any_nil, Bool.or_false, Bool.or_eq_true, decide_eq_true_eq, not_or] at h2
      exact ⟨h1, by omega, by omega⟩
  · rw [if_pos (by simp [h1])] at h
    exact absurd h h1
end Go.Proofs.YtnpgmdffjemnbaaGreatDoor
set_option maxHeartbeats 8000000
set_option maxRecDepth 100000
namespace Go.Proofs.YtnpgmdffjemnbaaGreatDoor
open Go.RowKit

theorem Zll {J : World → Prop} (hJ : Stab J) (xs : List (List Int)) (b : xs.length * 24 ≤ 140737488351232) : FnM (ι := Value) Tryz.prog J 56 [] [.rd (ZG xs)] [] (fun i' => .lit (i')) (fun i' => [OB.row i' 28 1 (xs.map Yu)]) := by
 refine Yx (N := 8) Tryz.func56 rfl rfl (lb rfl) fun S w0 R hS hJ0 hH => ?_
 refine Xe (B := St All (SO S (R)) w0 8 [(0, .rd (ZG xs))] (XO J S w0.heap.size (R))) ?_ fun a w h => h
 refine ln 0 fun hl1 => ?_
 refine qso tb hJ [0] [_] [_] ?_
 refine Zd (tsq ?_)
 refine snK 1 tb rfl ?_
 refine ZbA (f := Yu) (xs := xs) ZcW rfl rfl rfl (lb rfl) (fun a w h => (h.get 0 rfl)) fun g1 hg1 => ?_
 refine seK [0,2] [_,_] rfl ?_
 refine nx (cj 0 (fun hb1 => ?_) fun hb1 => ?_)
 try simp at hb1
 refine qso tb hJ [1000] [_] [_] ?_
 refine tw (Yo 28 1 hJ) ?_
 refine tw (ob0 (congrArg (fun z' => OB.row (.slice none 0 0) 28 1 ((z').map Yu)) (show ([] : List (List Int)) = xs from by first | exact (hg1 (by assumption)).symm | simp))) ?_
 exact Ze (fun a w h => Ya  (m := 0) (.slice none 0 0) rfl h rfl rfl)
 try simp at hb1
 refine Za (nx (Zd (fun a w h => X6 (id := 3) (t := 44) (e := 28) (size := 1) (bytes := 24) (i0 := 0) (fol := 3) (d := 2) (ch := [(2, (xs.map Yu))]) (fun ix' => ([.any, .rd (ZG xs), .any, .any] : List AV).getD ix' .any) (fun ix' => ([true, true, true, true] : List Bool).getD ix' true) [] (xs.map Yu) (by simp) ?r3_1 hJ hJ0 h YJ rfl rfl rfl rfl ⟨?o3_1_0, ⟨?o3_1_1, ⟨?o3_1_2, ⟨?o3_1_3, trivial⟩⟩⟩⟩ trivial (fun v2 => ?n3_1))))
 case r3_1 =>
  refine Row.mk' Zfj ⟨_, rfl, rfl, rfl, rfl, rfl⟩ ⟨?x3_1_0, trivial⟩ ⟨_, _, _, _, rfl, rfl, rfl, rfl, rfl, rfl, rfl, rfl, rfl⟩ rfl rfl rfl
  case x3_1_0 => exact ⟨_, _, _, _, rfl, rfl, rfl, rfl, rfl, rfl, rfl, rfl, YX (f := Yu) (fun _ => rfl), (by have hm : maxLen = 9223372036854775807 := rfl; simp [upto]; first | omega | (simp; omega)), (by have hm : maxLen = 9223372036854775807 := rfl; simp [upto]; first | omega | (simp; omega)), fun _ _ _ _ _ hl => (hl.dep 1 6 _ rfl rfl rfl rfl)⟩
 case o3_1_0 => exact fun h => Zk rfl h
 case o3_1_1 => exact fun _ _ => ⟨rfl, fun _ _ _ hx hl _ => Yd rfl (hl.env 1 0 _ rfl rfl) hx⟩
 case o3_1_2 => exact fun h => Zk rfl h
 case o3_1_3 => exact fun h => Zk rfl h
 clear a w h
 exact nx (Ze (fun a w h => Ya  (m := 0) v2 rfl h rfl rfl))
theorem p_Must {J : World → Prop} (hJ : Stab J) (d : Db) (f : Int) (t : Int) (hw : ∀ f ∈ d.frames, f.wide.length * 32 ≤ 140737488351232) (hG : XK J) : Fn Tryz.prog J 23 [.agg (dbC d), .int f, .int t] (.tup [.rd (ZJ (if ZdH d f t = 0 then Zls (usL d d.frames.length) f.toNat t.toNat else [])), .int (ZdH d f t)]) := by
 refine Zn (N := 77) Tryz.func23 rfl rfl (lb rfl) fun S w0 hS hJ0 => ?_
 refine tw Yb ?_
 refine ZC tb hJ [1,2,1000] [.ptr (dbC d),_,_] [0] [_,_,_] rfl ⟨fun _ _ hk hx hl _ => Yk rfl (hl.env 0 0 _ rfl rfl) (Zo hS _ hk hx _ (Nat.le_refl _)) (jo hJ hx), trivial⟩ ?_
 refine ZC tb hJ [0,1,1003,1008,1009] [_,_,_,.rd (ZJ ([f, t] : List Int)),.tup [gAV (rdE d ([f, t] : List Int)) [Zf d.consts, Zf d.vars, Yv d.frames, ZG (usL d d.frames.length)], .int (rdE d ([f, t] : List Int))],_,_,_,_,_] [3,4] [_,_,_,_,_] rfl ⟨fun a _ hk hx hl _ => X7 (k := 2) (us := [a.eval (Go.Operand.tmp 16), a.eval (Go.Operand.tmp 17)]) Zq Zed rfl (by simp) (ZR (hl.dep 1 16 _ rfl rfl rfl rfl) (ZR (hl.dep 2 17 _ rfl rfl rfl rfl) XB)) rfl (by decide) (by decide) (Zo hS _ hk hx _ (Nat.le_refl _)) (jo hJ hx), iFo hS hJ (ZeB hJ (d := d) (ns := ([f, t] : List Int)) (hw) (hG)) Zcy, trivial⟩ ?_
 refine ln 2 fun hl1 => ?_
 refine Zd (qso tb hJ [0,1,3,4,1001] [_,_] [_,_,_,_,_] ?_)
 refine cj 4 (fun hb1 => ?_) fun hb1 => ?_
 have c1 : ZdH d f t = rdE d [f, t] := by rw [ZdH, if_pos hb1]
 have c9 : ¬ ZdH d f t = 0 := by rw [c1]; exact Q8 hb1
 refine qso tb hJ [1001,1002] [_,_,_] [_,_] ?_
 refine tw (fun h => Ys h (m := 0) (s := 6) rfl) ?_
 exact Ze (fun a w h => Ye (m := 0) (k := 1) rfl (ZK h) rfl rfl (congrArg (fun z => AV.rd (ZJ z)) (show ([] : List Int) = (if ZdH d f t = 0 then Zls (usL d d.frames.length) f.toNat t.toNat else []) from by first | exact c1.symm | exact c0.symm | (rw [if_neg c9]; done) | (rw [if_pos c0, f1_2, Zu (by omega)]; rfl))) (eI (by first | exact c1.symm | exact c0.symm | (rw [if_neg c9]; done) | (rw [if_pos c0, f1_2, Zu (by omega)]; rfl))))
 have e0 : rdE d [f, t] = 0 := Zcd hb1
 have c2 := ZnG e0
 have c3 := Xt c2.1
 have hf' : (f.toNat : Int) = f := by omega
 have ht' : (t.toNat : Int) = t := by omega
 have hul := Xl d d.frames.length
 refine tw (sa 2 rfl (show (gAV (rdE d ([f, t] : List Int)) [Zf d.consts, Zf d.vars, Yv d.frames, ZG (usL d d.frames.length)] : AV) = .ptr [Zf d.consts, Zf d.vars, Yv d.frames, ZG (usL d d.frames.length)] from Zap e0)) ?_
 refine Za (nx (Zd (tw (sa 0 rfl (congrArg AV.int (show f = (f.toNat : Int) from by omega))) ?_)))
 refine tw (sa 1 rfl (congrArg AV.int (show t = (t.toNat : Int) from by omega))) ?_
 refine tsq ?_
 refine snK 2 tb rfl ?_
 refine Zag (O := []) (R := []) (Zb3 hJ (d := d) (us := (usL d d.frames.length)) (n := f.toNat) (by first | exact ZQ _ _ | exact Zcs (ZQ _ _) _) (by first | omega | (rw [List.length_set]; omega))) Zcx rfl rfl rfl (lb rfl) hS hJ0 ZE (fun a w h => (Zc (h.get 1 rfl) (Zc (h.get 0 rfl) Zi))) fun z1 => ?_
 refine snK 1 tb rfl ?_
 refine sq (.bool (decide ((t.toNat : Int) ∈ z1.1.2))) rfl rfl (lb rfl) (fun _ _ h => Z4 (Kd := keyI) (xs := z1.1.2) Yw ZL (t.toNat : Int) rfl (Zw h.x (mo 0 rfl)) (h.get 1 rfl) (h.get 0 rfl) h.x) ?_
 refine snK 1 tb rfl ?_
 refine seK [0,6,7,8] [_,_,_,_] rfl ?_
 refine nx (cj 0 (fun hb2 => ?_) fun hb2 => ?_)
 have e2 : ¬ Rch (usL d d.frames.length) f t := fun h => Q8 hb2 ((z1.2.iff _).2 (by rw [hf', ht']; exact h))
 have c1 : ZdH d f t = 5 := by rw [ZdH, if_neg (by rw [e0]; decide), if_pos (by simpa using e2)]
 have c9 : ¬ ZdH d f t = 0 := by rw [c1]; decide
 refine qso tb hJ [1000,1001] [_,_] [_,_] ?_
 refine tw (fun h => Ys h (m := 0) (s := 6) rfl) ?_
 exact Ze (fun a w h => Ye (m := 0) (k := 1) rfl (ZK h) rfl rfl (congrArg (fun z => AV.rd (ZJ z)) (show ([] : List Int) = (if ZdH d f t = 0 then Zls (usL d d.frames.length) f.toNat t.toNat else []) from by first | exact c1.symm | exact c0.symm | (rw [if_neg c9]; done) | (rw [if_pos c0, f1_2, Zu (by omega)]; rfl))) (eI (by first | exact c1.symm | exact c0.symm | (rw [if_neg c9]; done) | (rw [if_pos c0, f1_2, Zu (by omega)]; rfl))))
 have e2 : Rch (usL d d.frames.length) f t := by have := (z1.2.iff _).1 (Zcd hb2); rwa [hf', ht'] at this
 have c0 : ZdH d f t = 0 := by rw [ZdH, if_neg (by rw [e0]; decide), if_neg (by simpa using e2)]
 refine Za (nx (qso tb hJ [1,2,3,1000] [_] [_,_,_,_] ?_))
 refine Zd (Zd (ZN (snK 2 tb rfl ?_)))
 refine Zag (O := []) (R := [OB.set keyI z1.1.1 z1.1.2]) (Zb3 hJ (d := d) (us := (usL d d.frames.length)) (n := f.toNat) (by first | exact ZQ _ _ | exact Zcs (ZQ _ _) _) (by first | omega | (rw [List.length_set]; omega))) Zcx rfl rfl rfl (lb rfl) hS hJ0 ZE (fun a w h => (Zc (h.get 1 rfl) (Zc (h.get 0 rfl) Zi))) fun z2 => ?_
 refine sq (.rd (ZJ (Y0 z2.1.2))) rfl rfl (lb rfl) (fun _ _ h => Xy (ZgV hJ (M := z2.1.1) (xs := z2.1.2) (fun x hxx => by have := Zdy z2.2 (ZQ _ _) x hxx; omega) (by have := Zew z2.2 (ZQ _ _); omega)) Zf8 rfl (Zo hS _ h.keep h.x) (h.x.1) (ZU (Zw h.x (mo 0 rfl)) ZE) (Zc (h.get 0 rfl) Zi) (jo hJ h.x)) ?_
 refine sq (.int ((Y0 z2.1.2).length : Nat)) rfl rfl (lb rfl) (fun _ _ h => ZaG Ym rfl (h.get 0 rfl) h.x) ?_
 refine snK 1 tb rfl ?_
 refine seK [0,1,2,6,7,8,9] [_,_,_,_,_,_,_] rfl ?_
 refine kw (sa 2 rfl (congrArg (fun z' => AV.rd (ZJ z')) (show (Y0 z2.1.2) = (QE (usL d d.frames.length) f.toNat) from Zex z2.2 (ZQ _ _)))) ?_
 refine kw (sa 1 rfl (congrArg AV.int (show (((Y0 z2.1.2).length : Nat) : Int) = (((QE (usL d d.frames.length) f.toNat).length : Nat) : Int) from by rw [Zex z2.2 (ZQ _ _)]))) ?_
 refine nx (ln 2 fun hl2 => ?_)
 refine Zb (tw (Yo 3 1 hJ) ?_)
 refine lpo (ι := Nat × Value × (List Int)) (fun (k, _, out) => (k ≤ (QE (usL d d.frames.length) f.toNat).length) ∧ (out = ((QE (usL d d.frames.length) f.toNat).take k).filter (ZfR (usL d d.frames.length) f.toNat t.toNat)) ∧ (out.length ≤ k)) (fun (_, vo, out) => [OB.row vo 3 1 (out.map Xa), OB.set keyI z2.1.1 z2.1.2, OB.set keyI z1.1.1 z1.1.2]) (fun (k, vo, _) => [(36, .int (k : Nat)), (10, .lit vo)]) (fun (k, _, _) => (QE (usL d d.frames.length) f.toNat).length - k) [1,2,3,4,5,0,6] [_,_,_,_,_] (0, (.slice none 0 0), ([] : List Int)) ⟨Nat.zero_le _, rfl, Nat.zero_le _⟩ ?_
 rintro ⟨k, vo, out⟩ ⟨f1_1, f1_2, f1_3⟩
 refine qso tb hJ [0,1,2,3,4,5,6,1000] [_] [_,_,_,_,_,_,_,_] ?_
 refine cjS 7 (fun hb3 => ?_) fun hb3 => ?_
 try simp at hb3
 have e5 := ZkR (Zg (xs := (QE (usL d d.frames.length) f.toNat)) (k := k) (by omega))
 refine Za (nx (Zd (Zb (ZC tb hJ [0,1,2,3,4,5,6,1002] [.ptr [.lit (.int .i64 (ge (QE (usL d d.frames.length) f.toNat) k))],_,_] [0] [_,_,_,_,_,_,_,_] rfl ⟨iIx Zq, trivial⟩ ?_))))
 refine Zd (qso tb hJ [0,1,2,3,4,5,6,7,1007] [_,_,_,_,_,_,_,_] [_,_,_,_,_,_,_,_,_] ?_)
 refine cj 8 (fun hb4 => ?_) fun hb4 => ?_
 have e6 : ZfR (usL d d.frames.length) f.toNat t.toNat (ge (QE (usL d d.frames.length) f.toNat) k) = false := ZfQ hb4
 refine Zl (nx (Yj tb hJ [0,1,2,3,4,6,1001] [.int (k + 1 : Nat),_] [0] [_,_,_,_,_,_,_] rfl ⟨Z2, trivial⟩ ?_))
 exact Yr (k + 1, vo, out) [0,1,2,3,4,6,5] ⟨by omega, by rw [ZA (by omega), e6, ← f1_2]; simp, by first | omega | (simp; omega)⟩
 refine Za (nx (Zd (fun a w h => Xp (γ := Value × Value × Nat) (fun ix' => ([.ptr [Zf d.consts, Zf d.vars, Yv d.frames, ZG (usL d d.frames.length)], .ptr [Zf d.consts, Zf d.vars, Yv d.frames, ZG (usL d d.frames.length)], .ptr [Zf d.consts, Zf d.vars, Yv d.frames, ZG (usL d d.frames.length)], .agg (dbC d), .ptr [Zf d.consts, Zf d.vars, Yv d.frames, ZG (usL d d.frames.length)], .ptr [Zf d.consts, Zf d.vars, Yv d.frames, ZG (usL d d.frames.length)], .ptr [ZG (usL d d.frames.length)], .rd (ZG (usL d d.frames.length)), .any, .any, .any, .any] : List AV).getD ix' .any) (fun ix' => ([true, true, true, true, true, true, true, true, true, true, true, true] : List Bool).getD ix' true) [(35, fun (g : Value × Value × Nat) => .int ((QE (usL d d.frames.length) f.toNat).length : Nat)), (34, fun (g : Value × Value × Nat) => .rd (ZJ (QE (usL d d.frames.length) f.toNat))), (1, fun (g : Value × Value × Nat) => .int (f.toNat : Nat)), (2, fun (g : Value × Value × Nat) => .int (t.toNat : Nat)), (8, fun (g : Value × Value × Nat) => .ptr [Zf d.consts, Zf d.vars, Yv d.frames, ZG (usL d d.frames.length)]), (36, fun (g : Value × Value × Nat) => .int (k : Nat)), (10, fun (g : Value × Value × Nat) => .lit vo), (12, fun (g : Value × Value × Nat) => .int (ge (QE (usL d d.frames.length) f.toNat) k)), (13, fun (g : Value × Value × Nat) => .at g.2.2 0)] (fun (j' : Nat) (g : Value × Value × Nat) => match j' with | 0 => [OB.row vo 3 1 (out.map Xa), OB.set keyI z2.1.1 z2.1.2, OB.set keyI z1.1.1 z1.1.2] | 1 => [OB.row g.1 28 1 ((usL d d.frames.length).map Yu), OB.row vo 3 1 (out.map Xa), OB.set keyI z2.1.1 z2.1.2, OB.set keyI z1.1.1 z1.1.2] | 2 => [Zns [Zf d.consts, Zf d.vars, Yv d.frames, .lit g.1] g.2.1, OB.row g.1 28 1 ((usL d d.frames.length).map Yu), OB.row vo 3 1 (out.map Xa), OB.set keyI z2.1.1 z2.1.2, OB.set keyI z1.1.1 z1.1.2] | 3 => [OB.var g.2.2 [Zf d.consts, Zf d.vars, Yv d.frames, .lit g.1], OB.row g.1 28 1 ((usL d d.frames.length).map Yu), OB.row vo 3 1 (out.map Xa), OB.set keyI z2.1.1 z2.1.2, OB.set keyI z1.1.1 z1.1.2] | _ => [OB.var g.2.2 [Zf d.consts, Zf d.vars, Yv d.frames, .lit g.1], OB.row g.1 28 1 ((usL d d.frames.length).map Yu), OB.row vo 3 1 (out.map Xa), OB.set keyI z2.1.1 z2.1.2, OB.set keyI z1.1.1 z1.1.2]) (fun (k' : Nat) (g : Value × Value × Nat) => match k' with | 0 => g.1 | 1 => g.2.1 | 2 => (.pointer (some ⟨g.2.2, 0, none⟩)) | 3 => (.pointer (some ⟨g.2.2, 0, none⟩)) | _ => undef) [8, 9, 10, 11] 4 ((.slice none 0 0), (.slice none 0 0), 0) (fun _ => rfl) h hJ YJ rfl rfl rfl rfl rfl rfl (fun j' g hj p hp => by rcases j' with _ | _ | _ | _ | _ | j' <;> first | exact hp | exact List.mem_cons_of_mem _ hp | exact List.mem_cons_of_mem _ (List.mem_cons_of_mem _ hp) | (exfalso; omega)) ⟨?o11_1_0, ⟨?o11_1_1, ⟨?o11_1_2, ⟨?o11_1_3, ⟨?o11_1_4, ⟨?o11_1_5, ⟨?o11_1_6, ⟨?o11_1_7, ⟨?o11_1_8, ⟨?o11_1_9, ⟨?o11_1_10, ⟨?o11_1_11, trivial⟩⟩⟩⟩⟩⟩⟩⟩⟩⟩⟩⟩ ⟨?e11_1_0, ⟨?e11_1_1, ⟨?e11_1_2, ⟨?e11_1_3, trivial⟩⟩⟩⟩ ⟨.old 0 35 _ rfl rfl, ⟨.old 1 34 _ rfl rfl, ⟨.old 2 1 _ rfl rfl, ⟨.old 3 2 _ rfl rfl, ⟨.old 4 8 _ rfl rfl, ⟨.old 5 36 _ rfl rfl, ⟨.old 6 10 _ rfl rfl, ⟨.old 7 12 _ rfl rfl, ⟨.eff 3 11 13 (fun (g : Value × Value × Nat) => (.pointer (some ⟨g.2.2, 0, none⟩))) rfl rfl (fun _ => rfl) (fun _ => True.intro), trivial⟩⟩⟩⟩⟩⟩⟩⟩⟩ ?n11_1)))
 case o11_1_0 => exact fun _ O' _ => ⟨rfl, fun _ _ _ hx hl _ => Yd rfl (hl.env 4 8 _ rfl rfl) hx⟩
 case o11_1_1 => exact fun _ O' _ => ⟨rfl, fun _ _ _ hx hl _ => YG rfl (hl.dep 0 48 _ rfl rfl rfl rfl) hx⟩
 case o11_1_2 => exact fun _ O' _ => ⟨rfl, fun _ _ _ hx hl _ => ZW Zia rfl (hl.dep 1 49 _ rfl rfl rfl rfl) hx⟩
 case o11_1_3 => exact fun _ O' _ => ⟨rfl, fun _ _ _ hx hl _ => Zas (k := 3) Zd8 rfl (hl.dep 2 50 _ rfl rfl rfl rfl) (lb rfl) hx⟩
 case o11_1_4 => exact fun _ O' _ => ⟨rfl, fun _ _ _ hx hl _ => Yd rfl (hl.env 4 8 _ rfl rfl) hx⟩
 case o11_1_5 => exact fun _ O' _ => ⟨rfl, fun _ _ _ hx hl _ => YG rfl (hl.dep 4 52 _ rfl rfl rfl rfl) hx⟩
 case o11_1_6 => exact fun _ O' _ => ⟨rfl, fun _ _ _ hx hl _ => ZW Q9 rfl (hl.dep 5 53 _ rfl rfl rfl rfl) hx⟩
 case o11_1_7 => exact fun _ O' _ => ⟨rfl, fun _ _ _ hx hl _ => ZO Zjp rfl (hl.dep 6 54 _ rfl rfl rfl rfl) hx⟩
 case o11_1_8 => exact Zk rfl
 case o11_1_9 => exact Zk rfl
 case o11_1_10 => exact Zk rfl
 case o11_1_11 => exact Zk rfl
 case e11_1_0 => exact ⟨_, rfl, rfl, rfl, rfl, fun g _ w hk hx hl _ => Zx (d_fn (O := []) (R := [OB.row vo 3 1 (out.map Xa), OB.set keyI z2.1.1 z2.1.2, OB.set keyI z1.1.1 z1.1.2]) (Zll hJ (xs := (usL d d.frames.length)) (by omega)) Zox rfl hS hJ0 ZE hk hx (Zc (hl.dep 7 55 _ rfl rfl rfl rfl) Zi)) fun v w' ⟨i, hp, hv⟩ => ⟨(i, g.2.1, g.2.2), rfl, fun k' hk' => absurd hk' (Nat.not_lt_zero _), fun _ => hv.lit, hp⟩⟩
 case e11_1_1 => exact ⟨_, rfl, rfl, rfl, rfl, fun g _ w hk hx hl hs => Zx (ZlT (cs := [Zf d.consts, Zf d.vars, Yv d.frames, .lit g.1]) hk (Zi4 (d := d) (v := g.1) Zii rfl (hl.dep 3 51 _ rfl rfl rfl rfl) (hs 0 8 _ 56 (by omega) rfl rfl rfl) (ZiT (hx.2.1 _ (mo 0 rfl))) hx)) fun v w' hp => ⟨(g.1, v, g.2.2), rfl, fun k' hk' => by rcases k' with _ | _ | _ | k' <;> first | rfl | omega, fun _ => rfl, hp⟩⟩
 case e11_1_2 => exact ⟨_, rfl, rfl, rfl, rfl, fun g _ w hk hx _ hs => Zx (d_boxW (cs := [Zf d.consts, Zf d.vars, Yv d.frames, .lit g.1]) hJ rfl (hs 1 9 _ 57 (by omega) rfl rfl rfl) hk hx) fun v w' ⟨g', hv, hp⟩ => ⟨(g.1, g.2.1, g'), rfl, fun k' hk' => by rcases k' with _ | _ | _ | k' <;> first | rfl | omega, fun _ => hv, hp⟩⟩
 case e11_1_3 => exact ⟨_, rfl, rfl, rfl, rfl, fun g _ w hk hx _ hs => Zx (QB (.inl rfl) (hs 2 10 _ 58 (by omega) rfl rfl rfl) hk hx) fun v w' hp => ⟨g, rfl, fun _ _ => rfl, fun _ => hp.1, hp.2⟩⟩
 clear a w h
 rintro ⟨z3, x4, b5⟩
 change ∀ a w, St All (SO S [OB.var b5 [Zf d.consts, Zf d.vars, Yv d.frames, .lit z3], OB.row z3 28 1 ((usL d d.frames.length).map Yu), OB.row vo 3 1 (out.map Xa), OB.set keyI z2.1.1 z2.1.2, OB.set keyI z1.1.1 z1.1.2]) w0 77 [(35, .int ((QE (usL d d.frames.length) f.toNat).length : Nat)), (34, .rd (ZJ (QE (usL d d.frames.length) f.toNat))), (1, .int (f.toNat : Nat)), (2, .int (t.toNat : Nat)), (8, .ptr [Zf d.consts, Zf d.vars, Yv d.frames, ZG (usL d d.frames.length)]), (36, .int (k : Nat)), (10, .lit vo), (12, .int (ge (QE (usL d d.frames.length) f.toNat) k)), (13, .at b5 0)] (XO J S w0.heap.size [OB.var b5 [Zf d.consts, Zf d.vars, Yv d.frames, .lit z3], OB.row z3 28 1 ((usL d d.frames.length).map Yu), OB.row vo 3 1 (out.map Xa), OB.set keyI z2.1.1 z2.1.2, OB.set keyI z1.1.1 z1.1.2]) a w → _
 refine nx (ln 1 fun hl3 => ?_)
 refine Zd (ZN (snK 1 tb rfl ?_))
 refine sq (.at b5 0) rfl rfl (lb rfl) (fun _ _ h => Zar rfl (h.get 0 rfl) h.x) ?_
 refine sq (.at b5 3) rfl rfl (lb rfl) (fun _ _ h => ZaH Q9 rfl (h.get 0 rfl) h.x) ?_
 refine sq (.lit z3) rfl rfl (lb rfl) (fun _ _ h => XD (cs := [Zf d.consts, Zf d.vars, Yv d.frames, .lit z3]) Zjp rfl (Zw h.x (mo 0 rfl)) (h.get 0 rfl) rfl h.x) ?_
 refine snK 1 tb rfl ?_
 refine sq (.lit (QI z3 ((ge (QE (usL d d.frames.length) f.toNat) k).toNat * 1))) rfl rfl (lb rfl) (fun _ _ h => Xq (i := (ge (QE (usL d d.frames.length) f.toNat) k)) XI rfl (Zw h.x (mo 1 rfl)) (h.get 1 rfl) (h.get 0 rfl) (by first | omega | (simp; omega) | grind [Zg]) (by rw [List.length_map]; exact (by first | omega | (simp; omega) | grind [Zg])) h.x) ?_
 refine kw pm1 ?_
 refine QQ (c := ZJ ([] : List Int)) (i := (ge (QE (usL d d.frames.length) f.toNat) k).toNat) hJ hJ0 ZiQ rfl rfl rfl (by rw [List.length_map]; exact (by first | omega | (simp; omega) | grind [Zg])) (fun a w h => ⟨(h.get 0 rfl), (X8 (Rel.of_lit (Go.Value.slice none 0 0)))⟩) ?_
 rw [show ((usL d d.frames.length).map Yu).set ((ge (QE (usL d d.frames.length) f.toNat) k).toNat) [ZJ ([] : List Int)] = ((usL d d.frames.length).set ((ge (QE (usL d d.frames.length) f.toNat) k).toNat) ([] : List Int)).map Yu from List.map_set.symm]
 refine seK [6,7,8,9,10,11,12,13,14] [_,_,_,_,_,_,_,_,_] rfl ?_
 refine kw pm1 ?_
 refine kw pm1 ?_
 refine kw (B := St All (SO S [OB.gr 28 b5 d (z3, (usL d d.frames.length).set ((ge (QE (usL d d.frames.length) f.toNat) k).toNat) ([] : List Int)), OB.row vo 3 1 (out.map Xa), OB.set keyI z2.1.1 z2.1.2, OB.set keyI z1.1.1 z1.1.2]) w0 77 [(35, .int ((QE (usL d d.frames.length) f.toNat).length : Nat)), (34, .rd (ZJ (QE (usL d d.frames.length) f.toNat))), (1, .int (f.toNat : Nat)), (2, .int (t.toNat : Nat)), (8, .ptr [Zf d.consts, Zf d.vars, Yv d.frames, ZG (usL d d.frames.length)]), (36, .int (k : Nat)), (10, .lit vo), (12, .int (ge (QE (usL d d.frames.length) f.toNat) k)), (13, .at b5 0)] (XO J S w0.heap.size [OB.gr 28 b5 d (z3, (usL d d.frames.length).set ((ge (QE (usL d d.frames.length) f.toNat) k).toNat) ([] : List Int)), OB.row vo 3 1 (out.map Xa), OB.set keyI z2.1.1 z2.1.2, OB.set keyI z1.1.1 z1.1.2])) (fun h => ZfA h) ?_
 refine nx (tw (fun h => ZcZ hS h (m := 8) (s := 13) rfl) ?_)
 refine tsq ?_
 refine snK 2 tb rfl ?_
 refine Zag (O := []) (R := [OB.row vo 3 1 (out.map Xa), OB.set keyI z2.1.1 z2.1.2, OB.set keyI z1.1.1 z1.1.2]) (Zb3 hJ (d := d) (us := ((z3, (usL d d.frames.length).set ((ge (QE (usL d d.frames.length) f.toNat) k).toNat) ([] : List Int)).2)) (n := f.toNat) (by first | exact ZQ _ _ | exact Zcs (ZQ _ _) _) (by first | omega | (rw [List.length_set]; omega))) Zcx rfl rfl rfl (lb rfl) hS hJ0 ZE (fun a w h => (Zc (h.get 1 rfl) (Zc (h.get 0 rfl) Zi))) fun z6 => ?_
 refine snK 1 tb rfl ?_
 refine sq (.bool (decide ((t.toNat : Int) ∈ z6.1.2))) rfl rfl (lb rfl) (fun _ _ h => Z4 (Kd := keyI) (xs := z6.1.2) Yw ZL (t.toNat : Int) rfl (Zw h.x (mo 0 rfl)) (h.get 1 rfl) (h.get 0 rfl) h.x) ?_
 refine snK 1 tb rfl ?_
 refine seK [0,7,8,9,10,11,12,13,14] [_,_,_,_,_,_,_,_,_] rfl ?_
 refine nx (cj 0 (fun hb5 => ?_) fun hb5 => ?_)
 have e6 : ZfR (usL d d.frames.length) f.toNat t.toNat (ge (QE (usL d d.frames.length) f.toNat) k) = true := Zg2 hb4 fun h => Q8 hb5 ((z6.2.iff _).2 h)
 refine ZN (snK 2 tb rfl ?_)
 refine sq (.rd (ZJ ([(ge (QE (usL d d.frames.length) f.toNat) k)]))) rfl rfl (lb rfl) (fun _ _ h => ZV Zq XT rfl (h.get 0 rfl) (Zo hS _ h.keep h.x _ (Nat.le_refl _)) (jo hJ h.x)) ?_
 refine kw pm1 ?_
 refine ZM (f := Xa) (m := 2) (s := 71) out ([(ge (QE (usL d d.frames.length) f.toNat) k)]) (fun _ => rfl) YT hJ hJ0 rfl rfl rfl (lb rfl) rfl rfl (fun a w h => (h.get 0 rfl)) (by have := ZgM (usL d d.frames.length) f.toNat; simp; omega) (by have := ZgM (usL d d.frames.length) f.toNat; simp; omega) fun v7 => ?_
 refine snK 1 tb rfl ?_
 refine seK [0,2,6,7,8,9,10,11] [_,_,_,_,_,_,_,_] rfl ?_
 refine nx (ln 1 fun hl4 => ?_)
 refine Yj tb hJ [0,2,3,4,5,6,1001] [.int (k + 1 : Nat),_] [0] [_,_,_,_,_,_,_] rfl ⟨Z2, trivial⟩ ?_
 refine kw pm1 ?_
 refine kw Yp ?_
 exact Yr (k + 1, v7, out ++ ([(ge (QE (usL d d.frames.length) f.toNat) k)])) [1,2,3,4,5,6,0] ⟨by omega, by rw [ZA (by omega), e6, ← f1_2]; simp, by first | omega | (simp; omega)⟩
 have e6 : ZfR (usL d d.frames.length) f.toNat t.toNat (ge (QE (usL d d.frames.length) f.toNat) k) = false := Zg3 hb4 ((z6.2.iff _).1 (Zcd hb5))
 refine Za (nx (Yj tb hJ [1,2,3,4,5,7,1001] [.int (k + 1 : Nat),_] [0] [_,_,_,_,_,_,_] rfl ⟨Z2, trivial⟩ ?_))
 refine kw Yp ?_
 exact Yr (k + 1, vo, out) [0,1,2,3,4,6,5] ⟨by omega, by rw [ZA (by omega), e6, ← f1_2]; simp, by first | omega | (simp; omega)⟩
 try simp at hb3
 refine Zl (nx (qso tb hJ [1001,1002] [_,_,_] [_,_] ?_))
 refine tw (fun h => ZB hS h (m := 0) (s := 6) rfl) ?_
 exact Ze (fun a w h => Ye (m := 0) (k := 1) rfl (ZK h) rfl rfl (congrArg (fun z => AV.rd (ZJ z)) (show out = (if ZdH d f t = 0 then Zls (usL d d.frames.length) f.toNat t.toNat else []) from by first | exact c1.symm | exact c0.symm | (rw [if_neg c9]; done) | (rw [if_pos c0, f1_2, Zu (by omega)]; rfl))) (eI (by first | exact c1.symm | exact c0.symm | (rw [if_neg c9]; done) | (rw [if_pos c0, f1_2, Zu (by omega)]; rfl))))
end Go.Proofs.YtnpgmdffjemnbaaGreatDoor
namespace Go.Proofs.YtnpgmdffjemnbaaGreatDoor

def YH (s : ByteArray) (ys : List ByteArray) : Fr := ⟨s, decide (((ys.length : Nat) : Int) > 0), [], [], [(⟨#[124, 45]⟩ : ByteArray), (⟨#[120]⟩ : ByteArray)], [], [], ys⟩
def smallD : Db := ⟨[(⟨#[124, 45]⟩ : ByteArray), (⟨#[120]⟩ : ByteArray)], [], [YH ⟨#[97]⟩ [], YH ⟨#[98]⟩ [], YH ⟨#[116]⟩ [⟨#[97]⟩], YH ⟨#[117]⟩ [⟨#[116]⟩, ⟨#[98]⟩]]⟩
theorem smChd : Zif smallD 3 = 0 := by kernel_rfl
theorem smRd : rdE smallD [3, 0] = 0 := by kernel_rfl
theorem ZnA : smallD.frames.length = 4 := rfl
theorem smUs : usL smallD 4 = [[], [], [0], [1, 2]] := by kernel_rfl
theorem rch20 : Rch [[], [], [0], [1, 2]] 2 0 := .one (by decide)
theorem rch30 : Rch [[], [], [0], [1, 2]] 3 0 := .step _ 2 _ (by decide) rch20
theorem rch31 : Rch [[], [], [0], [1, 2]] 3 1 := .one (by decide)
theorem rch32 : Rch [[], [], [0], [1, 2]] 3 2 := .one (by decide)
theorem rch1 : Rch ([[], [], [0], [1, 2]].set 1 []) 3 0 := .step _ 2 _ (by decide) (.one (by decide))
theorem Zg0 {us : List (List Int)} {a b : Int} (h : Rch us a b) (h0 : ge us a.toNat = []) : a = b := by
  cases h with
  | refl => rfl
  | step _ x _ hx k => rw [h0] at hx; cases hx
theorem rch2 : ¬ Rch ([[], [], [0], [1, 2]].set 2 []) 3 0 := fun h => by
  cases h with
  | step _ x _ hx hk =>
    have : x = 1 ∨ x = 2 := by simpa using (show x ∈ [1, 2] from hx)
    rcases this with rfl | rfl
    · exact absurd (Zg0 hk rfl) (by decide)
    · exact absurd (Zg0 hk rfl) (by decide)
theorem smNed : ZeN (usL smallD smallD.frames.length) (3 : Int).toNat = [0, 1, 2] := by
  rw [ZnA, smUs]
  unfold ZeN
  rw [show (3 : Int).toNat = 3 from rfl, show List.range 3 = [0, 1, 2] from rfl]
  have h0 := rch30
  have h1 := rch31
  have h2 := rch32
  simp [List.filter, h0, h1, h2]
theorem smMst : Zls (usL smallD smallD.frames.length) (3 : Int).toNat (0 : Int).toNat = [2] := by
  have hn := smNed
  rw [ZnA, smUs] at hn ⊢
  have h1 : ZfR [[], [], [0], [1, 2]] 3 0 0 = false := ZfQ (by decide)
  have h2 : ZfR [[], [], [0], [1, 2]] 3 0 1 = false := Zg3 (by decide) rch1
  have h3 : ZfR [[], [], [0], [1, 2]] 3 0 2 = true := Zg2 (by decide) rch2
  have h4 : ZfR [[], [], [0], [1, 2]] 3 0 3 = false := ZfQ (by decide)
  unfold Zls QE
  rw [hn]
  simp [List.filter, h1, h2, h3, h4]
theorem ZmZ : ZdH smallD 3 0 = 0 := by
  rw [ZdH, smRd, ZnA, smUs]
  have := rch30
  simp [this]
theorem smHw : ∀ f ∈ smallD.frames, f.wide.length * 32 ≤ 140737488351232 := by
  intro f hf
  have : f = YH ⟨#[97]⟩ [] ∨ f = YH ⟨#[98]⟩ [] ∨ f = YH ⟨#[116]⟩ [⟨#[97]⟩] ∨ f = YH ⟨#[117]⟩ [⟨#[116]⟩, ⟨#[98]⟩] := by simpa [smallD] using hf
  rcases this with rfl | rfl | rfl | rfl <;> exact Nat.zero_le _
def fewD (d : Db) : Bool := decide (((d.frames.length : Nat) : Int) ≤ (30 : Int)) && !(d.frames.any fun f' => decide ((200 : Int) < ((f'.proof.length : Nat) : Int)))
end Go.Proofs.YtnpgmdffjemnbaaGreatDoor
set_option maxHeartbeats 8000000
set_option maxRecDepth 100000
namespace Go.Proofs.YtnpgmdffjemnbaaGreatDoor
open Go.RowKit

theorem Zbz {J : World → Prop} (hJ : Stab J) (s : ByteArray) (ys : List ByteArray)  : Fn Tryz.prog J 70 [.str s, .rd (Zf ys)] (.agg (frC (YH s ys))) := by
 refine Zn (N := 12) Tryz.func70 rfl rfl (lb rfl) fun S w0 hS hJ0 => ?_
 refine tw Yb ?_
 refine ln 1 fun hl1 => ?_
 refine tsq ?_
 refine YK QD hJ rfl rfl rfl (lb rfl) fun b1 => ?_
 refine seK [0,1,2] [_,_,_] rfl ?_
 refine nx (tsq ?_)
 refine snK 2 tb rfl ?_
 refine sq (.int (ys.length : Nat)) rfl rfl (lb rfl) (fun _ _ h => ZaG Zr rfl (h.get 0 rfl) h.x) ?_
 refine snK 1 tb rfl ?_
 refine sq (.rd (Zf ([(⟨#[124, 45]⟩ : ByteArray), (⟨#[120]⟩ : ByteArray)] : List ByteArray))) rfl rfl (lb rfl) (fun a _ h => X7 (k := 2) (us := [a.eval (Go.Operand.const (Go.Value.string { data := #[124, 45] })), a.eval (Go.Operand.const (Go.Value.string { data := #[120] }))]) Zh ZbM rfl (by simp) (ZR (Rel.of_lit (Go.Value.string { data := #[124, 45] }) (lb rfl)) (ZR (Rel.of_lit (Go.Value.string { data := #[120] }) (lb rfl)) XB)) rfl (by decide) (by decide) (Zo hS _ h.keep h.x _ (Nat.le_refl _)) (jo hJ h.x)) ?_
 refine snK 1 tb rfl ?_
 refine sq (.agg (frC (⟨s, decide ((0 : Int) < (ys.length : Int)), [], [], ([(⟨#[124, 45]⟩ : ByteArray), (⟨#[120]⟩ : ByteArray)] : List ByteArray), [], [], ys⟩ : Fr))) rfl rfl (lb rfl) (fun _ _ h => Zi5 (s := s) (b := (decide ((0 : Int) < (ys.length : Int)))) (xs := ([(⟨#[124, 45]⟩ : ByteArray), (⟨#[120]⟩ : ByteArray)] : List ByteArray)) (ys := ys) Zij rfl (h.get 5 rfl) (h.get 2 rfl) (h.get 1 rfl) (h.get 0 rfl) h.x) ?_
 refine YU (b := b1) (off := 0) (cs := [.lit (.string (⟨#[]⟩ : ByteArray)), .lit (.bool false), YC ([] : List Hy), YI ([] : List Pr), Zf ([] : List ByteArray), YC ([] : List Hy), YI ([] : List Pr), Zf ([] : List ByteArray)]) (es := [.lit (.string ((⟨s, decide ((0 : Int) < (ys.length : Int)), [], [], ([(⟨#[124, 45]⟩ : ByteArray), (⟨#[120]⟩ : ByteArray)] : List ByteArray), [], [], ys⟩ : Fr).label)), .lit (.bool ((⟨s, decide ((0 : Int) < (ys.length : Int)), [], [], ([(⟨#[124, 45]⟩ : ByteArray), (⟨#[120]⟩ : ByteArray)] : List ByteArray), [], [], ys⟩ : Fr).thm)), YC ((⟨s, decide ((0 : Int) < (ys.length : Int)), [], [], ([(⟨#[124, 45]⟩ : ByteArray), (⟨#[120]⟩ : ByteArray)] : List ByteArray), [], [], ys⟩ : Fr).hyps), YI ((⟨s, decide ((0 : Int) < (ys.length : Int)), [], [], ([(⟨#[124, 45]⟩ : ByteArray), (⟨#[120]⟩ : ByteArray)] : List ByteArray), [], [], ys⟩ : Fr).apart), Zf ((⟨s, decide ((0 : Int) < (ys.length : Int)), [], [], ([(⟨#[124, 45]⟩ : ByteArray), (⟨#[120]⟩ : ByteArray)] : List ByteArray), [], [], ys⟩ : Fr).text), YC ((⟨s, decide ((0 : Int) < (ys.length : Int)), [], [], ([(⟨#[124, 45]⟩ : ByteArray), (⟨#[120]⟩ : ByteArray)] : List ByteArray), [], [], ys⟩ : Fr).dummies), YI ((⟨s, decide ((0 : Int) < (ys.length : Int)), [], [], ([(⟨#[124, 45]⟩ : ByteArray), (⟨#[120]⟩ : ByteArray)] : List ByteArray), [], [], ys⟩ : Fr).wide), Zf ((⟨s, decide ((0 : Int) < (ys.length : Int)), [], [], ([(⟨#[124, 45]⟩ : ByteArray), (⟨#[120]⟩ : ByteArray)] : List ByteArray), [], [], ys⟩ : Fr).proof)]) (news := [.lit (.string ((⟨s, decide ((0 : Int) < (ys.length : Int)), [], [], ([(⟨#[124, 45]⟩ : ByteArray), (⟨#[120]⟩ : ByteArray)] : List ByteArray), [], [], ys⟩ : Fr).label)), .lit (.bool ((⟨s, decide ((0 : Int) < (ys.length : Int)), [], [], ([(⟨#[124, 45]⟩ : ByteArray), (⟨#[120]⟩ : ByteArray)] : List ByteArray), [], [], ys⟩ : Fr).thm)), YC ((⟨s, decide ((0 : Int) < (ys.length : Int)), [], [], ([(⟨#[124, 45]⟩ : ByteArray), (⟨#[120]⟩ : ByteArray)] : List ByteArray), [], [], ys⟩ : Fr).hyps), YI ((⟨s, decide ((0 : Int) < (ys.length : Int)), [], [], ([(⟨#[124, 45]⟩ : ByteArray), (⟨#[120]⟩ : ByteArray)] : List ByteArray), [], [], ys⟩ : Fr).apart), Zf ((⟨s, decide ((0 : Int) < (ys.length : Int)), [], [], ([(⟨#[124, 45]⟩ : ByteArray), (⟨#[120]⟩ : ByteArray)] : List ByteArray), [], [], ys⟩ : Fr).text), YC ((⟨s, decide ((0 : Int) < (ys.length : Int)), [], [], ([(⟨#[124, 45]⟩ : ByteArray), (⟨#[120]⟩ : ByteArray)] : List ByteArray), [], [], ys⟩ : Fr).dummies), YI ((⟨s, decide ((0 : Int) < (ys.length : Int)), [], [], ([(⟨#[124, 45]⟩ : ByteArray), (⟨#[120]⟩ : ByteArray)] : List ByteArray), [], [], ys⟩ : Fr).wide), Zf ((⟨s, decide ((0 : Int) < (ys.length : Int)), [], [], ([(⟨#[124, 45]⟩ : ByteArray), (⟨#[120]⟩ : ByteArray)] : List ByteArray), [], [], ys⟩ : Fr).proof)]) hJ hJ0 Zer rfl rfl rfl (lb rfl) rfl (fun a w h => ⟨(h.get 7 rfl), (h.get 0 rfl)⟩) ?_
 refine seK [2,7] [_,_] rfl ?_
 refine nx (ln 0 fun hl2 => ?_)
 exact Ze (fun a w h => Zg8 (cs := [.lit (.string ((⟨s, decide ((0 : Int) < (ys.length : Int)), [], [], ([(⟨#[124, 45]⟩ : ByteArray), (⟨#[120]⟩ : ByteArray)] : List ByteArray), [], [], ys⟩ : Fr).label)), .lit (.bool ((⟨s, decide ((0 : Int) < (ys.length : Int)), [], [], ([(⟨#[124, 45]⟩ : ByteArray), (⟨#[120]⟩ : ByteArray)] : List ByteArray), [], [], ys⟩ : Fr).thm)), YC ((⟨s, decide ((0 : Int) < (ys.length : Int)), [], [], ([(⟨#[124, 45]⟩ : ByteArray), (⟨#[120]⟩ : ByteArray)] : List ByteArray), [], [], ys⟩ : Fr).hyps), YI ((⟨s, decide ((0 : Int) < (ys.length : Int)), [], [], ([(⟨#[124, 45]⟩ : ByteArray), (⟨#[120]⟩ : ByteArray)] : List ByteArray), [], [], ys⟩ : Fr).apart), Zf ((⟨s, decide ((0 : Int) < (ys.length : Int)), [], [], ([(⟨#[124, 45]⟩ : ByteArray), (⟨#[120]⟩ : ByteArray)] : List ByteArray), [], [], ys⟩ : Fr).text), YC ((⟨s, decide ((0 : Int) < (ys.length : Int)), [], [], ([(⟨#[124, 45]⟩ : ByteArray), (⟨#[120]⟩ : ByteArray)] : List ByteArray), [], [], ys⟩ : Fr).dummies), YI ((⟨s, decide ((0 : Int) < (ys.length : Int)), [], [], ([(⟨#[124, 45]⟩ : ByteArray), (⟨#[120]⟩ : ByteArray)] : List ByteArray), [], [], ys⟩ : Fr).wide), Zf ((⟨s, decide ((0 : Int) < (ys.length : Int)), [], [], ([(⟨#[124, 45]⟩ : ByteArray), (⟨#[120]⟩ : ByteArray)] : List ByteArray), [], [], ys⟩ : Fr).proof)]) (m := 1) rfl ZmN h rfl rfl (show [.lit (.string ((⟨s, decide ((0 : Int) < (ys.length : Int)), [], [], ([(⟨#[124, 45]⟩ : ByteArray), (⟨#[120]⟩ : ByteArray)] : List ByteArray), [], [], ys⟩ : Fr).label)), .lit (.bool ((⟨s, decide ((0 : Int) < (ys.length : Int)), [], [], ([(⟨#[124, 45]⟩ : ByteArray), (⟨#[120]⟩ : ByteArray)] : List ByteArray), [], [], ys⟩ : Fr).thm)), YC ((⟨s, decide ((0 : Int) < (ys.length : Int)), [], [], ([(⟨#[124, 45]⟩ : ByteArray), (⟨#[120]⟩ : ByteArray)] : List ByteArray), [], [], ys⟩ : Fr).hyps), YI ((⟨s, decide ((0 : Int) < (ys.length : Int)), [], [], ([(⟨#[124, 45]⟩ : ByteArray), (⟨#[120]⟩ : ByteArray)] : List ByteArray), [], [], ys⟩ : Fr).apart), Zf ((⟨s, decide ((0 : Int) < (ys.length : Int)), [], [], ([(⟨#[124, 45]⟩ : ByteArray), (⟨#[120]⟩ : ByteArray)] : List ByteArray), [], [], ys⟩ : Fr).text), YC ((⟨s, decide ((0 : Int) < (ys.length : Int)), [], [], ([(⟨#[124, 45]⟩ : ByteArray), (⟨#[120]⟩ : ByteArray)] : List ByteArray), [], [], ys⟩ : Fr).dummies), YI ((⟨s, decide ((0 : Int) < (ys.length : Int)), [], [], ([(⟨#[124, 45]⟩ : ByteArray), (⟨#[120]⟩ : ByteArray)] : List ByteArray), [], [], ys⟩ : Fr).wide), Zf ((⟨s, decide ((0 : Int) < (ys.length : Int)), [], [], ([(⟨#[124, 45]⟩ : ByteArray), (⟨#[120]⟩ : ByteArray)] : List ByteArray), [], [], ys⟩ : Fr).proof)] = [.lit (.string ((YH s ys).label)), .lit (.bool ((YH s ys).thm)), YC ((YH s ys).hyps), YI ((YH s ys).apart), Zf ((YH s ys).text), YC ((YH s ys).dummies), YI ((YH s ys).wide), Zf ((YH s ys).proof)] from rfl))
theorem Znt {J : World → Prop} (hJ : Stab J)   : Fn Tryz.prog J 42 [] (.agg (dbC smallD)) := by
 refine Zn (N := 15) Tryz.func42 rfl rfl (lb rfl) fun S w0 hS hJ0 => ?_
 refine tw Yb ?_
 refine tsq ?_
 refine YK Zfu hJ rfl rfl rfl (lb rfl) fun b1 => ?_
 refine seK [0] [_] rfl ?_
 refine nx (qso tb hJ [0,1000] [_] [_,_] ?_)
 refine tsq ?_
 refine sq (.rd (Zf ([(⟨#[124, 45]⟩ : ByteArray), (⟨#[120]⟩ : ByteArray)] : List ByteArray))) rfl rfl (lb rfl) (fun a _ h => X7 (k := 2) (us := [a.eval (Go.Operand.const (Go.Value.string { data := #[124, 45] })), a.eval (Go.Operand.const (Go.Value.string { data := #[120] }))]) Zh ZbM rfl (by simp) (ZR (Rel.of_lit (Go.Value.string { data := #[124, 45] }) (lb rfl)) (ZR (Rel.of_lit (Go.Value.string { data := #[120] }) (lb rfl)) XB)) rfl (by decide) (by decide) (Zo hS _ h.keep h.x _ (Nat.le_refl _)) (jo hJ h.x)) ?_
 refine snK 1 tb rfl ?_
 refine sq (.agg (frC (YH (⟨#[97]⟩ : ByteArray) ([] : List ByteArray)))) rfl rfl (lb rfl) (fun _ _ h => Zah ((Zbz hJ (⟨#[97]⟩ : ByteArray) ([] : List ByteArray)).r) ZdY rfl (h.get 0 rfl) (Zo hS _ h.keep h.x) (h.x.1) ZE (Zc (Rel.of_lit (Go.Value.string { data := #[97] }) (lb rfl)) (Zc (X8 (Rel.of_lit (Go.Value.slice none 0 0))) Zi)) (jo hJ h.x)) ?_
 refine snK 1 tb rfl ?_
 refine sq (.agg (frC (YH (⟨#[98]⟩ : ByteArray) ([] : List ByteArray)))) rfl rfl (lb rfl) (fun _ _ h => Zah ((Zbz hJ (⟨#[98]⟩ : ByteArray) ([] : List ByteArray)).r) ZdY rfl (h.get 0 rfl) (Zo hS _ h.keep h.x) (h.x.1) ZE (Zc (Rel.of_lit (Go.Value.string { data := #[98] }) (lb rfl)) (Zc (X8 (Rel.of_lit (Go.Value.slice none 0 0))) Zi)) (jo hJ h.x)) ?_
 refine snK 1 tb rfl ?_
 refine sq (.rd (Zf ([(⟨#[97]⟩ : ByteArray)]))) rfl rfl (lb rfl) (fun _ _ h => ZV Zh Zal rfl (Rel.of_lit (Go.Value.string { data := #[97] }) (lb rfl)) (Zo hS _ h.keep h.x _ (Nat.le_refl _)) (jo hJ h.x)) ?_
 refine sq (.agg (frC (YH (⟨#[116]⟩ : ByteArray) ([(⟨#[97]⟩ : ByteArray)])))) rfl rfl (lb rfl) (fun _ _ h => Zah ((Zbz hJ (⟨#[116]⟩ : ByteArray) ([(⟨#[97]⟩ : ByteArray)])).r) ZdY rfl (h.get 1 rfl) (Zo hS _ h.keep h.x) (h.x.1) ZE (Zc (Rel.of_lit (Go.Value.string { data := #[116] }) (lb rfl)) (Zc (h.get 0 rfl) Zi)) (jo hJ h.x)) ?_
 refine snK 1 tb rfl ?_
 refine sq (.rd (Zf ([(⟨#[116]⟩ : ByteArray), (⟨#[98]⟩ : ByteArray)] : List ByteArray))) rfl rfl (lb rfl) (fun a _ h => X7 (k := 2) (us := [a.eval (Go.Operand.const (Go.Value.string { data := #[116] })), a.eval (Go.Operand.const (Go.Value.string { data := #[98] }))]) Zh ZbM rfl (by simp) (ZR (Rel.of_lit (Go.Value.string { data := #[116] }) (lb rfl)) (ZR (Rel.of_lit (Go.Value.string { data := #[98] }) (lb rfl)) XB)) rfl (by decide) (by decide) (Zo hS _ h.keep h.x _ (Nat.le_refl _)) (jo hJ h.x)) ?_
 refine sq (.agg (frC (YH (⟨#[117]⟩ : ByteArray) ([(⟨#[116]⟩ : ByteArray), (⟨#[98]⟩ : ByteArray)] : List ByteArray)))) rfl rfl (lb rfl) (fun _ _ h => Zah ((Zbz hJ (⟨#[117]⟩ : ByteArray) ([(⟨#[116]⟩ : ByteArray), (⟨#[98]⟩ : ByteArray)] : List ByteArray)).r) ZdY rfl (h.get 1 rfl) (Zo hS _ h.keep h.x) (h.x.1) ZE (Zc (Rel.of_lit (Go.Value.string { data := #[117] }) (lb rfl)) (Zc (h.get 0 rfl) Zi)) (jo hJ h.x)) ?_
 refine sq (.rd (Yv ([(YH (⟨#[97]⟩ : ByteArray) ([] : List ByteArray)), (YH (⟨#[98]⟩ : ByteArray) ([] : List ByteArray)), (YH (⟨#[116]⟩ : ByteArray) ([(⟨#[97]⟩ : ByteArray)])), (YH (⟨#[117]⟩ : ByteArray) ([(⟨#[116]⟩ : ByteArray), (⟨#[98]⟩ : ByteArray)] : List ByteArray))]))) rfl rfl (lb rfl) (fun _ _ h => ZhQ ZD (fun w => by kernel_rfl) rfl (h.get 8 rfl) (h.get 6 rfl) (h.get 3 rfl) (h.get 0 rfl) (Zo hS _ h.keep h.x _ (Nat.le_refl _)) (jo hJ h.x)) ?_
 refine sq (.agg (dbC (⟨([(⟨#[124, 45]⟩ : ByteArray), (⟨#[120]⟩ : ByteArray)] : List ByteArray), [], [(YH (⟨#[97]⟩ : ByteArray) ([] : List ByteArray)), (YH (⟨#[98]⟩ : ByteArray) ([] : List ByteArray)), (YH (⟨#[116]⟩ : ByteArray) ([(⟨#[97]⟩ : ByteArray)])), (YH (⟨#[117]⟩ : ByteArray) ([(⟨#[116]⟩ : ByteArray), (⟨#[98]⟩ : ByteArray)] : List ByteArray))]⟩ : Db))) rfl rfl (lb rfl) (fun _ _ h => Zi6 (xs := ([(⟨#[124, 45]⟩ : ByteArray), (⟨#[120]⟩ : ByteArray)] : List ByteArray)) (fs := ([(YH (⟨#[97]⟩ : ByteArray) ([] : List ByteArray)), (YH (⟨#[98]⟩ : ByteArray) ([] : List ByteArray)), (YH (⟨#[116]⟩ : ByteArray) ([(⟨#[97]⟩ : ByteArray)])), (YH (⟨#[117]⟩ : ByteArray) ([(⟨#[116]⟩ : ByteArray), (⟨#[98]⟩ : ByteArray)] : List ByteArray))])) Zik rfl (h.get 11 rfl) (h.get 0 rfl) h.x) ?_
 refine YU (b := b1) (off := 0) (cs := [Zf ([] : List ByteArray), Zf ([] : List ByteArray), Yv ([] : List Fr)]) (es := [Zf ((⟨([(⟨#[124, 45]⟩ : ByteArray), (⟨#[120]⟩ : ByteArray)] : List ByteArray), [], [(YH (⟨#[97]⟩ : ByteArray) ([] : List ByteArray)), (YH (⟨#[98]⟩ : ByteArray) ([] : List ByteArray)), (YH (⟨#[116]⟩ : ByteArray) ([(⟨#[97]⟩ : ByteArray)])), (YH (⟨#[117]⟩ : ByteArray) ([(⟨#[116]⟩ : ByteArray), (⟨#[98]⟩ : ByteArray)] : List ByteArray))]⟩ : Db).consts), Zf ((⟨([(⟨#[124, 45]⟩ : ByteArray), (⟨#[120]⟩ : ByteArray)] : List ByteArray), [], [(YH (⟨#[97]⟩ : ByteArray) ([] : List ByteArray)), (YH (⟨#[98]⟩ : ByteArray) ([] : List ByteArray)), (YH (⟨#[116]⟩ : ByteArray) ([(⟨#[97]⟩ : ByteArray)])), (YH (⟨#[117]⟩ : ByteArray) ([(⟨#[116]⟩ : ByteArray), (⟨#[98]⟩ : ByteArray)] : List ByteArray))]⟩ : Db).vars), Yv ((⟨([(⟨#[124, 45]⟩ : ByteArray), (⟨#[120]⟩ : ByteArray)] : List ByteArray), [], [(YH (⟨#[97]⟩ : ByteArray) ([] : List ByteArray)), (YH (⟨#[98]⟩ : ByteArray) ([] : List ByteArray)), (YH (⟨#[116]⟩ : ByteArray) ([(⟨#[97]⟩ : ByteArray)])), (YH (⟨#[117]⟩ : ByteArray) ([(⟨#[116]⟩ : ByteArray), (⟨#[98]⟩ : ByteArray)] : List ByteArray))]⟩ : Db).frames)]) (news := [Zf ((⟨([(⟨#[124, 45]⟩ : ByteArray), (⟨#[120]⟩ : ByteArray)] : List ByteArray), [], [(YH (⟨#[97]⟩ : ByteArray) ([] : List ByteArray)), (YH (⟨#[98]⟩ : ByteArray) ([] : List ByteArray)), (YH (⟨#[116]⟩ : ByteArray) ([(⟨#[97]⟩ : ByteArray)])), (YH (⟨#[117]⟩ : ByteArray) ([(⟨#[116]⟩ : ByteArray), (⟨#[98]⟩ : ByteArray)] : List ByteArray))]⟩ : Db).consts), Zf ((⟨([(⟨#[124, 45]⟩ : ByteArray), (⟨#[120]⟩ : ByteArray)] : List ByteArray), [], [(YH (⟨#[97]⟩ : ByteArray) ([] : List ByteArray)), (YH (⟨#[98]⟩ : ByteArray) ([] : List ByteArray)), (YH (⟨#[116]⟩ : ByteArray) ([(⟨#[97]⟩ : ByteArray)])), (YH (⟨#[117]⟩ : ByteArray) ([(⟨#[116]⟩ : ByteArray), (⟨#[98]⟩ : ByteArray)] : List ByteArray))]⟩ : Db).vars), Yv ((⟨([(⟨#[124, 45]⟩ : ByteArray), (⟨#[120]⟩ : ByteArray)] : List ByteArray), [], [(YH (⟨#[97]⟩ : ByteArray) ([] : List ByteArray)), (YH (⟨#[98]⟩ : ByteArray) ([] : List ByteArray)), (YH (⟨#[116]⟩ : ByteArray) ([(⟨#[97]⟩ : ByteArray)])), (YH (⟨#[117]⟩ : ByteArray) ([(⟨#[116]⟩ : ByteArray), (⟨#[98]⟩ : ByteArray)] : List ByteArray))]⟩ : Db).frames)]) hJ hJ0 ZiR rfl rfl rfl (lb rfl) rfl (fun a w h => ⟨(h.get 13 rfl), (h.get 0 rfl)⟩) ?_
 refine seK [1,3,6,12,13] [_,_,_,_,_] rfl ?_
 refine nx (ln 0 fun hl1 => ?_)
 refine ln 1 fun hl2 => ?_
 refine ln 2 fun hl3 => ?_
 refine ln 3 fun hl4 => ?_
 exact Ze (fun a w h => Zg8 (cs := [Zf ((⟨([(⟨#[124, 45]⟩ : ByteArray), (⟨#[120]⟩ : ByteArray)] : List ByteArray), [], [(YH (⟨#[97]⟩ : ByteArray) ([] : List ByteArray)), (YH (⟨#[98]⟩ : ByteArray) ([] : List ByteArray)), (YH (⟨#[116]⟩ : ByteArray) ([(⟨#[97]⟩ : ByteArray)])), (YH (⟨#[117]⟩ : ByteArray) ([(⟨#[116]⟩ : ByteArray), (⟨#[98]⟩ : ByteArray)] : List ByteArray))]⟩ : Db).consts), Zf ((⟨([(⟨#[124, 45]⟩ : ByteArray), (⟨#[120]⟩ : ByteArray)] : List ByteArray), [], [(YH (⟨#[97]⟩ : ByteArray) ([] : List ByteArray)), (YH (⟨#[98]⟩ : ByteArray) ([] : List ByteArray)), (YH (⟨#[116]⟩ : ByteArray) ([(⟨#[97]⟩ : ByteArray)])), (YH (⟨#[117]⟩ : ByteArray) ([(⟨#[116]⟩ : ByteArray), (⟨#[98]⟩ : ByteArray)] : List ByteArray))]⟩ : Db).vars), Yv ((⟨([(⟨#[124, 45]⟩ : ByteArray), (⟨#[120]⟩ : ByteArray)] : List ByteArray), [], [(YH (⟨#[97]⟩ : ByteArray) ([] : List ByteArray)), (YH (⟨#[98]⟩ : ByteArray) ([] : List ByteArray)), (YH (⟨#[116]⟩ : ByteArray) ([(⟨#[97]⟩ : ByteArray)])), (YH (⟨#[117]⟩ : ByteArray) ([(⟨#[116]⟩ : ByteArray), (⟨#[98]⟩ : ByteArray)] : List ByteArray))]⟩ : Db).frames)]) (m := 4) rfl Zd8 h rfl rfl (show [Zf ((⟨([(⟨#[124, 45]⟩ : ByteArray), (⟨#[120]⟩ : ByteArray)] : List ByteArray), [], [(YH (⟨#[97]⟩ : ByteArray) ([] : List ByteArray)), (YH (⟨#[98]⟩ : ByteArray) ([] : List ByteArray)), (YH (⟨#[116]⟩ : ByteArray) ([(⟨#[97]⟩ : ByteArray)])), (YH (⟨#[117]⟩ : ByteArray) ([(⟨#[116]⟩ : ByteArray), (⟨#[98]⟩ : ByteArray)] : List ByteArray))]⟩ : Db).consts), Zf ((⟨([(⟨#[124, 45]⟩ : ByteArray), (⟨#[120]⟩ : ByteArray)] : List ByteArray), [], [(YH (⟨#[97]⟩ : ByteArray) ([] : List ByteArray)), (YH (⟨#[98]⟩ : ByteArray) ([] : List ByteArray)), (YH (⟨#[116]⟩ : ByteArray) ([(⟨#[97]⟩ : ByteArray)])), (YH (⟨#[117]⟩ : ByteArray) ([(⟨#[116]⟩ : ByteArray), (⟨#[98]⟩ : ByteArray)] : List ByteArray))]⟩ : Db).vars), Yv ((⟨([(⟨#[124, 45]⟩ : ByteArray), (⟨#[120]⟩ : ByteArray)] : List ByteArray), [], [(YH (⟨#[97]⟩ : ByteArray) ([] : List ByteArray)), (YH (⟨#[98]⟩ : ByteArray) ([] : List ByteArray)), (YH (⟨#[116]⟩ : ByteArray) ([(⟨#[97]⟩ : ByteArray)])), (YH (⟨#[117]⟩ : ByteArray) ([(⟨#[116]⟩ : ByteArray), (⟨#[98]⟩ : ByteArray)] : List ByteArray))]⟩ : Db).frames)] = [Zf smallD.consts, Zf smallD.vars, Yv smallD.frames] from rfl))
theorem Ziw {J : World → Prop} (hJ : Stab J)  (hG : XK J) : Fn Tryz.prog J 9 [] (.bool true) := by
 refine Zn (N := 33) Tryz.func9 rfl rfl (lb rfl) fun S w0 hS hJ0 => ?_
 refine tw Yb ?_
 refine qso tb hJ [] [_] [] ?_
 refine tsq ?_
 refine sq (.agg (dbC smallD)) rfl rfl (lb rfl) (fun _ _ h => Zbi (Znt hJ  ) ZoA rfl (Zo hS _ h.keep h.x) (h.x.1) Zi (jo hJ h.x)) ?_
 refine QP (cs := dbC smallD) ZkA rfl rfl rfl (lb rfl) rfl rfl rfl (by decide) (m := 0) rfl rfl (fun a w h => Zo hS _ h.keep h.x _ (Nat.le_refl _)) (fun a w h w' hk' => YQ hJ _ _ hk' h.x) ?_
 refine seK [0] [_] rfl ?_
 refine nx (tsq ?_)
 refine snK 1 tb rfl ?_
 refine Zag (O := []) (R := []) (ZnO hJ (d := smallD) (i := (3 : Int)) (by exact smHw) (by exact hG)) ZoN rfl rfl rfl (lb rfl) hS hJ0 ZE (fun a w h => (Zc (h.get 0 rfl) (Zc (Rel.of_lit (Go.Value.int Go.IntKind.i64 3)) Zi))) fun z1 => ?_
 refine snK 5 tb rfl ?_
 refine seK [0,1,7] [_,_,_] rfl ?_
 refine nx (ZC tb hJ [0,1,1003,1005,1006] [_,.tup [.rd (ZJ (if ZdH smallD (3 : Int) (0 : Int) = 0 then Zls (usL smallD smallD.frames.length) (3 : Int).toNat (0 : Int).toNat else [])), .int (ZdH smallD (3 : Int) (0 : Int))],_,_,_,_,_] [1] [_,_,_,_,_] rfl ⟨iFo hS hJ (p_Must hJ (d := smallD) (f := (3 : Int)) (t := (0 : Int)) (by exact smHw) (by exact hG)) ZoM, trivial⟩ ?_)
 refine ln 2 fun hl1 => ?_
 refine tw (fun h => ZB hS h (m := 1) (s := 2) rfl) ?_
 refine ZC tb hJ [1016] [_,_,_,_,_,_,_,_,.rd (ZJ ([(0 : Int), (1 : Int), (2 : Int)] : List Int)),.bool (decide ((if Zif smallD (3 : Int) = 0 then ZeN (usL smallD smallD.frames.length) (3 : Int).toNat else []) = ([(0 : Int), (1 : Int), (2 : Int)] : List Int))),_,_,_,.rd (ZJ ([(2 : Int)])),.bool (decide ((if ZdH smallD (3 : Int) (0 : Int) = 0 then Zls (usL smallD smallD.frames.length) (3 : Int).toNat (0 : Int).toNat else []) = ([(2 : Int)]))),_,_] [8,9,13,14] [_] rfl ⟨fun a _ hk hx _ _ => X7 (k := 3) (us := [a.eval (Go.Operand.const (Go.Value.int Go.IntKind.i64 0)), a.eval (Go.Operand.const (Go.Value.int Go.IntKind.i64 1)), a.eval (Go.Operand.const (Go.Value.int Go.IntKind.i64 2))]) Zq Zed rfl (by simp) (ZR (Rel.of_lit (Go.Value.int Go.IntKind.i64 0)) (ZR (Rel.of_lit (Go.Value.int Go.IntKind.i64 1)) (ZR (Rel.of_lit (Go.Value.int Go.IntKind.i64 2)) XB))) rfl (by decide) (by decide) (Zo hS _ hk hx _ (Nat.le_refl _)) (jo hJ hx), iFo hS hJ (ZbF hJ (xs := (if Zif smallD (3 : Int) = 0 then ZeN (usL smallD smallD.frames.length) (3 : Int).toNat else [])) (ys := ([(0 : Int), (1 : Int), (2 : Int)] : List Int)) ) ZdZ, fun _ _ hk hx _ _ => ZV Zq XT rfl (Rel.of_lit (Go.Value.int Go.IntKind.i64 2)) (Zo hS _ hk hx _ (Nat.le_refl _)) (jo hJ hx), iFo hS hJ (ZbF hJ (xs := (if ZdH smallD (3 : Int) (0 : Int) = 0 then Zls (usL smallD smallD.frames.length) (3 : Int).toNat (0 : Int).toNat else [])) (ys := ([(2 : Int)])) ) ZdZ, trivial⟩ ?_
 exact Ze (Y2 (m := 0) rfl rfl (eB (by rw [if_pos smChd, if_pos ZmZ, smNed, smMst, smChd, ZmZ]; simp)))
theorem w_Few1 {J : World → Prop} (hJ : Stab J) (f : Fr)  : Fn Tryz.prog J 41 [.agg (frC f)] (.bool (decide ((200 : Int) < (f.proof.length : Int)))) := by
 refine Zn (N := 7) Tryz.func41 rfl rfl (lb rfl) fun S w0 hS hJ0 => ?_
 clear hJ0
 refine hqs tb hJ [1000] [.ptr (frC f),_] [0] [_] rfl ⟨fun _ _ hk hx hl _ => Yk rfl (hl.env 0 0 _ rfl rfl) (hS _ hk.size) (js hJ hx), trivial⟩ ?_
 refine hqs tb hJ [1001,1004] [_,_,.int (f.proof.length : Nat),_,_] [2] [_,_] rfl ⟨ZZ Zr, trivial⟩ ?_
 refine ln 0 fun hl1 => ?_
 exact Ze (rtn (m := 1) rfl rfl rfl)
theorem w_Few {J : World → Prop} (hJ : Stab J) (d : Db)  : Fn Tryz.prog J 8 [.agg (dbC d)] (.bool (fewD d)) := by
 refine Zn (N := 13) Tryz.func8 rfl rfl (lb rfl) fun S w0 hS hJ0 => ?_
 clear hJ0
 refine hqs tb hJ [1000] [.ptr (dbC d),_] [0] [_] rfl ⟨fun _ _ hk hx hl _ => Yk rfl (hl.env 0 0 _ rfl rfl) (hS _ hk.size) (js hJ hx), trivial⟩ ?_
 refine hqs tb hJ [1001,1010] [_,_,.int (d.frames.length : Nat),_,_,_,_,.bool (d.frames.any (fun (f' : Fr) => decide ((200 : Int) < (f'.proof.length : Int)))),_,_,_] [2,7] [_,_] rfl ⟨ZZ Z7, fun _ _ hk hx hl hc => Xy (Zca hJ (xs := d.frames) (f := 41) (caps := []) (Os := []) (p := (fun (f' : Fr) => decide ((200 : Int) < (f'.proof.length : Int)))) (fun q' => (w_Few1 hJ q').rr) (ZoB)) ZoC rfl (nm hS hk) (hx) ZE (Zc (hl.dep 6 9 _ rfl rfl rfl hc) (Zc (Q3 41) Zi)) (js hJ hx), trivial⟩ ?_
 refine ln 0 fun hl1 => ?_
 exact Ze (rtn (m := 1) rfl rfl (eB (rfl)))
end Go.Proofs.YtnpgmdffjemnbaaGreatDoor
set_option maxHeartbeats 8000000
set_option maxRecDepth 100000
namespace Go.Proofs.YtnpgmdffjemnbaaGreatDoor
open Go.RowKit

theorem ZoP {J : World → Prop} (hJ : Stab J) (d : Db) (i : Nat) (wo : Int) (hi : i < d.frames.length) (hf : d.frames.length ≤ 400) : Fn Tryz.prog J 49 [.agg (dbC d), .int (i : Nat), .int wo] (.rd (ZJ (ZhV (usL d d.frames.length) wo i))) := by
 refine Zn (N := 71) Tryz.func49 rfl rfl (lb rfl) fun S w0 hS hJ0 => ?_
 refine tw Yb ?_
 refine ZC tb hJ [1,2,1000] [.ptr (dbC d),_] [0] [_,_,_] rfl ⟨fun _ _ hk hx hl _ => Yk rfl (hl.env 0 0 _ rfl rfl) (Zo hS _ hk hx _ (Nat.le_refl _)) (jo hJ hx), trivial⟩ ?_
 refine tsq ?_
 refine snK 2 tb rfl ?_
 refine sq (.int (d.frames.length : Nat)) rfl rfl (lb rfl) (fun _ _ h => ZaG Z7 rfl (h.get 0 rfl) h.x) ?_
 refine ZhI (f := Zfe) (k := d.frames.length) false ZhW rfl hJ rfl rfl rfl (lb rfl) (fun a w h => ⟨(h.get 0 rfl), (h.get 0 rfl)⟩) (by omega) (by omega) fun v1 => ?_
 refine snK 1 tb rfl ?_
 refine seK [0,3,5,6,7] [_,_,_,_,_] rfl ?_
 refine nx (ln 1 fun hl1 => ?_)
 refine tsq ?_
 refine snK 2 tb rfl ?_
 refine sq (.lit (QI v1 (i * 1))) rfl rfl (lb rfl) (fun _ _ h => Xq (i := (i : Int)) Qz rfl (Zw h.x (mo 0 rfl)) (h.get 1 rfl) (h.get 0 rfl) (Int.natCast_nonneg _) (by rw [List.length_map]; exact Int.ofNat_lt.2 (by first | omega | (simp; omega) | grind [Zg])) h.x) ?_
 refine QQ (i := i) hJ hJ0 Zgw rfl rfl rfl (by rw [List.length_map]; exact (by first | omega | (simp; omega) | grind [Zg])) (fun a w h => ⟨(h.get 0 rfl), (Rel.of_lit (Go.Value.bool true))⟩) ?_
 rw [show ((List.replicate d.frames.length false).map Zfe).set i [.lit (.bool true)] = ((List.replicate d.frames.length false).set i true).map Zfe from List.map_set.symm]
 refine seK [3,5,6,7] [_,_,_,_] rfl ?_
 refine nx (Zd (Zd (qpo tb hJ [0,1,2,3,1001] [_,_] [_,_,_,_,_] ?_)))
 refine kw (sa 4 rfl (congrArg AV.int (show (i : Int) = ((i + 1 : Nat) : Int) - (1 : Int) from by omega))) ?_
 refine nx (Zb (lpo (ι := Nat × Value × (List Bool)) (fun (q, _, mk) => (q ≤ i + 1) ∧ (MkI (usL d d.frames.length) wo i q mk) ∧ (mk.length = d.frames.length)) (fun (_, vm, mk) => [OB.row vm 4 1 (mk.map Zfe)]) (fun (q, vm, _) => [(8, .int ((q : Int) - (1 : Int))), (7, .lit vm)]) (fun (q, _, _) => q) [1,2,3,4,0] [_,_,_] (i + 1, v1, (List.replicate d.frames.length false).set i true) ⟨Nat.le_refl _, Zlu (ZQ _ _) hi, by simp⟩ ?_))
 rintro ⟨q, vm, mk⟩ ⟨f1_1, f1_2, f1_3⟩
 refine Zd (qso tb hJ [0,1,2,3,4,1001] [_,_] [_,_,_,_,_,_] ?_)
 refine cj 5 (fun hb1 => ?_) fun hb1 => ?_
 try simp at hb1
 refine Za (nx (Zd (Zb (Zd (tw (sa 3 rfl (congrArg AV.int (show (q : Int) - (1 : Int) = (((q - 1) : Nat) : Int) from by omega))) ?_)))))
 refine ZC tb hJ [0,1,2,3,4,1009] [_,_,.lit (QI vm ((q - 1) * 1)),.bool (ge mk (q - 1)),_,_,_,_,_,_] [2,3] [_,_,_,_,_,_] rfl ⟨fun _ _ _ hx hl _ => Xq (i := (((q - 1) : Nat) : Int)) Qz rfl (Zw hx (mo 0 rfl)) (hl.dep 0 25 _ rfl rfl rfl rfl) (hl.dep 1 26 _ rfl rfl rfl rfl) (Int.natCast_nonneg _) (by rw [List.length_map]; exact Int.ofNat_lt.2 (by first | omega | (simp; omega) | grind [Zg])) hx, fun _ _ _ hx hl _ => Zc6 (i := (q - 1)) one_4 rfl (Zw hx (mo 0 rfl)) (hl.dep 2 27 _ rfl rfl rfl rfl) (ZgC (xs := mk) (k := (q - 1)) (by first | omega | (simp; omega) | grind [Zg])) hx, trivial⟩ ?_
 refine cj 5 (fun hb2 => ?_) fun hb2 => ?_
 have e2 : ge mk (q - 1) = false ∨ ((q - 1 : Nat) : Int) = wo := by simp only [Bool.or_eq_true, Bool.not_eq_true', decide_eq_true_eq] at hb2; exact hb2
 refine Zl (nx (Yj tb hJ [0,1,2,4,1002] [_,.int ((((q - 1) : Nat) : Int) - (1 : Int)),_] [1] [_,_,_,_,_] rfl ⟨iSub, trivial⟩ ?_))
 exact Yr (q - 1, vm, mk) [0,1,2,4,3] ⟨by omega, by first | exact Zg6 (ZQ _ _) f1_2 (by omega) (by omega) e2 | exact Zjw (ZQ _ _) f1_2 e2.1 (by omega) e2.2 (by omega) f2_2 (by omega) (by omega), by omega⟩
 have e2 : ge mk (q - 1) = true ∧ ((q - 1 : Nat) : Int) ≠ wo := by simp only [Bool.or_eq_false_iff, Bool.not_eq_false', decide_eq_false_iff_not] at hb2; exact hb2
 refine Za (nx (Zd (Yj tb hJ [0,1,2,3,4,1002,1003] [_,_,.rd (ZJ (ZT d (q - 1))),_] [2] [_,_,_,_,_,_,_] rfl ⟨iFo hS hJ (Zkj hJ (d := d) (i := (q - 1)) (by omega) (hf)) Zf9, trivial⟩ ?_)))
 refine kw (sa 6 rfl (congrArg (fun z' => AV.rd (ZJ z')) (show (ZT d (q - 1)) = (ge (usL d d.frames.length) (q - 1)) from by rw [ZcV (by omega)]))) ?_
 refine nx (ln 5 fun hl2 => ?_)
 refine ln 6 fun hl3 => ?_
 refine qso tb hJ [0,1,2,3,4,6,1000] [_] [_,_,_,_,_,_,_] ?_
 refine Zb (lpo (ι := Nat × Value × (List Bool)) (fun (j, _, mk2) => (j ≤ (ge (usL d d.frames.length) (q - 1)).length) ∧ (MkJ (usL d d.frames.length) wo i (q - 1) j mk2) ∧ (mk2.length = d.frames.length)) (fun (_, vn, mk2) => [OB.row vn 4 1 (mk2.map Zfe)]) (fun (j, vn, _) => [(10, .int (j : Nat)), (7, .lit vn)]) (fun (j, _, _) => (ge (usL d d.frames.length) (q - 1)).length - j) [0,1,2,3,5,6,4] [_,_,_,_,_] (0, vm, mk) ⟨Nat.zero_le _, Zlt f1_2 (by omega), f1_3⟩ ?_)
 rintro ⟨j, vn, mk2⟩ ⟨f2_1, f2_2, f2_3⟩
 refine Zd (ZC tb hJ [0,1,2,3,4,5,6,1003] [_,_,.int ((ge (usL d d.frames.length) (q - 1)).length : Nat),_] [2] [_,_,_,_,_,_,_,_] rfl ⟨ZZ Ym, trivial⟩ ?_)
 refine cj 7 (fun hb3 => ?_) fun hb3 => ?_
 try simp at hb3
 have e3 := ZQ d d.frames.length (q - 1) _ (Zg (xs := ge (usL d d.frames.length) (q - 1)) (k := j) (by omega))
 refine Za (nx (Zd (Zb (ZC tb hJ [0,1,2,3,4,5,6,1005] [_,_,.ptr [.lit (.int .i64 (ge (ge (usL d d.frames.length) (q - 1)) j))],_,_,_] [2] [_,_,_,_,_,_,_,_] rfl ⟨iIx Zq, trivial⟩ ?_))))
 refine cj 7 (fun hb4 => ?_) fun hb4 => ?_
 try simp at hb4
 refine ZN (snK 3 tb rfl ?_)
 refine sq (.ptr [.lit (.int .i64 (ge (ge (usL d d.frames.length) (q - 1)) j))]) rfl rfl (lb rfl) (fun _ _ h => Z0 (i := (j : Int)) Zq rfl (h.get 1 rfl) (h.get 0 rfl) (Int.natCast_nonneg _) (Yh (xs := ge (usL d d.frames.length) (q - 1)) (k := j) (by first | omega | (simp; omega) | grind [Zg])) rfl h.x) ?_
 refine snK 1 tb rfl ?_
 refine sq (.lit (QI vn ((ge (ge (usL d d.frames.length) (q - 1)) j).toNat * 1))) rfl rfl (lb rfl) (fun _ _ h => Xq (i := (ge (ge (usL d d.frames.length) (q - 1)) j)) Qz rfl (Zw h.x (mo 0 rfl)) (h.get 4 rfl) (h.get 0 rfl) (by first | omega | (simp; omega) | grind [Zg]) (by rw [List.length_map]; exact (by first | omega | (simp; omega) | grind [Zg])) h.x) ?_
 refine QQ (i := (ge (ge (usL d d.frames.length) (q - 1)) j).toNat) hJ hJ0 Zgw rfl rfl rfl (by rw [List.length_map]; exact (by first | omega | (simp; omega) | grind [Zg])) (fun a w h => ⟨(h.get 0 rfl), (Rel.of_lit (Go.Value.bool true))⟩) ?_
 rw [show (mk2.map Zfe).set ((ge (ge (usL d d.frames.length) (q - 1)) j).toNat) [.lit (.bool true)] = (mk2.set ((ge (ge (usL d d.frames.length) (q - 1)) j).toNat) true).map Zfe from List.map_set.symm]
 refine seK [6,7,8,9,10,11,12] [_,_,_,_,_,_,_] rfl ?_
 refine nx (Yj tb hJ [0,1,2,3,4,6,1002] [_,.int (j + 1 : Nat),_] [1] [_,_,_,_,_,_,_] rfl ⟨Z2, trivial⟩ ?_)
 exact Yr (j + 1, vn, mk2.set ((ge (ge (usL d d.frames.length) (q - 1)) j).toNat) true) [0,1,2,3,4,6,5] ⟨by omega, by first | exact Zjv f2_2 (by omega) (by omega) (by simpa using hb4) | exact Zg5 f2_2 (by simpa using hb4), by first | omega | (rw [List.length_set]; omega)⟩
 try simp at hb4
 refine Za (nx (Yj tb hJ [0,1,2,3,4,6,1002] [_,.int (j + 1 : Nat),_] [1] [_,_,_,_,_,_,_] rfl ⟨Z2, trivial⟩ ?_))
 exact Yr (j + 1, vn, mk2) [0,1,2,3,4,6,5] ⟨by omega, by first | exact Zjv f2_2 (by omega) (by omega) (by simpa using hb4) | exact Zg5 f2_2 (by simpa using hb4), by first | omega | (rw [List.length_set]; omega)⟩
 try simp at hb3
 refine Zl (nx (Yj tb hJ [0,1,2,6,1002] [_,.int ((((q - 1) : Nat) : Int) - (1 : Int)),_] [1] [_,_,_,_,_] rfl ⟨iSub, trivial⟩ ?_))
 exact Yr (q - 1, vn, mk2) [0,1,2,4,3] ⟨by omega, by first | exact Zg6 (ZQ _ _) f1_2 (by omega) (by omega) e2 | exact Zjw (ZQ _ _) f1_2 e2.1 (by omega) e2.2 (by omega) f2_2 (by omega) (by omega), by omega⟩
 try simp at hb1
 have e1 : MkI (usL d d.frames.length) wo i 0 mk := (show q = 0 by omega) ▸ f1_2
 refine Zl (nx (tsq ?_))
 refine Xo Zq hJ rfl rfl rfl (lb rfl) fun v2 => ?_
 refine snK 1 tb rfl ?_
 refine seK [0,2,6] [_,_,_] rfl ?_
 refine nx (Zd (qso tb hJ [0,1,2,1000] [_] [_,_,_,_] ?_))
 refine Zb (lpo (ι := Nat × Value × (List Int)) (fun (m, _, out) => (m ≤ i) ∧ (out = ZnU (usL d d.frames.length) wo i m)) (fun (_, vo, out) => [OB.row vo 3 1 (out.map Xa), OB.row vm 4 1 (mk.map Zfe)]) (fun (m, vo, _) => [(12, .int (m : Nat)), (11, .lit vo)]) (fun (m, _, _) => i - m) [1,2,3,0] [_,_] (0, v2, ([] : List Int)) ⟨Nat.zero_le _, rfl⟩ ?_)
 rintro ⟨m, vo, out⟩ ⟨f3_1, f3_2⟩
 refine Zd (qso tb hJ [0,1,2,3,1002] [_,_,_] [_,_,_,_,_] ?_)
 refine cj 4 (fun hb5 => ?_) fun hb5 => ?_
 try simp at hb5
 refine Za (nx (Zd (Zb (ZC tb hJ [0,1,2,3,1003] [_,_,.lit (QI vm (m * 1)),.bool (ge mk m)] [2,3] [_,_,_,_,_] rfl ⟨fun _ _ _ hx hl _ => Xq (i := (m : Int)) Qz rfl (Zw hx (mo 1 rfl)) (hl.dep 0 62 _ rfl rfl rfl rfl) (hl.dep 1 63 _ rfl rfl rfl rfl) (Int.natCast_nonneg _) (by rw [List.length_map]; exact Int.ofNat_lt.2 (by first | omega | (simp; omega) | grind [Zg])) hx, fun _ _ _ hx hl _ => Zc6 (i := m) one_4 rfl (Zw hx (mo 1 rfl)) (hl.dep 2 64 _ rfl rfl rfl rfl) (ZgC (xs := mk) (k := m) (by first | omega | (simp; omega) | grind [Zg])) hx, trivial⟩ ?_))))
 refine cj 4 (fun hb6 => ?_) fun hb6 => ?_
 try simp at hb6
 refine ZN (snK 2 tb rfl ?_)
 refine sq (.rd (ZJ ([(m : Int)]))) rfl rfl (lb rfl) (fun _ _ h => ZV Zq XT rfl (h.get 0 rfl) (Zo hS _ h.keep h.x _ (Nat.le_refl _)) (jo hJ h.x)) ?_
 refine ZM (f := Xa) (m := 2) (s := 66) out ([(m : Int)]) (fun _ => rfl) YT hJ hJ0 rfl rfl rfl (lb rfl) rfl rfl (fun a w h => (h.get 0 rfl)) (by have := ZdF (usL d d.frames.length) wo i m; rw [f3_2]; simp; omega) (by have := ZdF (usL d d.frames.length) wo i m; rw [f3_2]; simp; omega) fun v3 => ?_
 refine snK 1 tb rfl ?_
 refine seK [0,2,5,6,7] [_,_,_,_,_] rfl ?_
 refine nx (ln 1 fun hl4 => ?_)
 refine Yj tb hJ [0,2,3,1002] [_,.int (m + 1 : Nat),_] [1] [_,_,_,_] rfl ⟨Z2, trivial⟩ ?_
 exact Yr (m + 1, v3, out ++ ([(m : Int)])) [1,2,3,0] ⟨by omega, by rw [ZeM (Zjx (ZQ _ _) e1 (by omega)), ← f3_2]; first | (rw [if_pos (by simpa using hb6)]; done) | (rw [if_neg (by simpa using hb6)]; simp; done)⟩
 try simp at hb6
 refine Za (nx (Yj tb hJ [0,1,3,1002] [_,.int (m + 1 : Nat),_] [1] [_,_,_,_] rfl ⟨Z2, trivial⟩ ?_))
 exact Yr (m + 1, vo, out) [0,1,3,2] ⟨by omega, by rw [ZeM (Zjx (ZQ _ _) e1 (by omega)), ← f3_2]; first | (rw [if_pos (by simpa using hb6)]; done) | (rw [if_neg (by simpa using hb6)]; simp; done)⟩
 try simp at hb5
 refine Zl (nx (qso tb hJ [1001] [_,_] [_] ?_))
 refine tw (fun h => ZB hS h (m := 0) (s := 6) rfl) ?_
 exact Ze (Y2 (m := 0) rfl rfl (congrArg (fun z => AV.rd (ZJ z)) (show out = (ZhV (usL d d.frames.length) wo i) from by rw [f3_2, show m = i by omega]; rfl)))
end Go.Proofs.YtnpgmdffjemnbaaGreatDoor
namespace Go.Proofs.YtnpgmdffjemnbaaGreatDoor

theorem ZjU (d : Db) (s : ByteArray) : ZX d s = YS (fun f => decide (f.label = s)) d.frames := rfl
theorem Zau {d : Db} {s : ByteArray} (h : ¬ ZX d s < 0) : 0 ≤ ZX d s ∧ ZX d s < d.frames.length := by
  rw [ZjU] at h ⊢
  have := YZ (p := fun f : Fr => decide (f.label = s)) (xs := d.frames) (by omega)
  omega
def rkE (d : Db) : List Int → List ByteArray → Int
  | _, [] => 0
  | rk, s :: l => if ZX d s < 0 then 5 else if ZX d s ∈ rk then 6 else rkE d (rk ++ [ZX d s]) l
theorem Zc4 {d : Db} {rk : List Int} {l : List ByteArray} {k : Nat} (h : k < l.length) : rkE d rk (l.drop k) = if ZX d (ge l k) < 0 then 5 else if ZX d (ge l k) ∈ rk then 6 else rkE d (rk ++ [ZX d (ge l k)]) (l.drop (k + 1)) := by
  rw [Xz h, List.drop_eq_getElem_cons h, rkE]
def rk0 (d : Db) (l : List ByteArray) : List Int := l.map (ZX d)
theorem ZgF {d : Db} {l : List ByteArray} {k : Nat} (h : k < l.length) : rk0 d (l.take (k + 1)) = rk0 d (l.take k) ++ [ZX d (ge l k)] := by
  rw [rk0, ZI h, List.map_append]; rfl
theorem Y8 (d : Db) (l : List ByteArray) : (rk0 d l).length = l.length := by simp [rk0]
def rkN (d : Db) (l : List ByteArray) (m : Nat) : List Int := rk0 d l ++ ((List.range m).filter fun (j : Nat) => !decide ((j : Int) ∈ rk0 d l)).map fun (j : Nat) => (j : Int)
theorem ZgD (d : Db) (l : List ByteArray) : rkN d l 0 = rk0 d l := by simp [rkN]
theorem ZbD (d : Db) (l : List ByteArray) (m : Nat) : rkN d l (m + 1) = rkN d l m ++ (if (m : Int) ∈ rk0 d l then [] else [(m : Int)]) := by
  rw [rkN, rkN, List.range_succ, List.filter_append, List.map_append, List.append_assoc]
  by_cases h : (m : Int) ∈ rk0 d l <;> simp [h]
theorem XL (d : Db) (l : List ByteArray) (m : Nat) : (rkN d l m).length ≤ l.length + m := by
  rw [rkN, List.length_append, Y8, List.length_map]
  have := List.length_filter_le (fun j : Nat => !decide ((j : Int) ∈ rk0 d l)) (List.range m)
  rw [List.length_range] at this
  omega
theorem Zm1 (d : Db) (l : List ByteArray) (m : Nat) : l.length ≤ (rkN d l m).length := by
  rw [rkN, List.length_append, Y8]
  omega
theorem ZiV {d : Db} {l : List ByteArray} {q : Nat} : (q : Int) ∈ rkN d l q ↔ (q : Int) ∈ rk0 d l := by
  rw [rkN, List.mem_append]
  refine ⟨fun h => ?_, .inl⟩
  rcases h with h | h
  · exact h
  · obtain ⟨j, hj, e⟩ := List.mem_map.1 h
    have := List.mem_range.1 (List.mem_filter.1 hj).1
    omega
theorem ZgE (d : Db) (l : List ByteArray) (m : Nat) : (rkN d l m).take l.length = rk0 d l := by
  rw [rkN, List.take_append_of_le_length (by rw [Y8]; exact Nat.le_refl _), List.take_of_length_le (by rw [Y8]; exact Nat.le_refl _)]
theorem Zdx {d : Db} {l : List ByteArray} {m j : Nat} (h : j < m) : (j : Int) ∈ rkN d l m := by
  rw [rkN, List.mem_append]
  by_cases hj : (j : Int) ∈ rk0 d l
  · exact .inl hj
  · exact .inr (List.mem_map.2 ⟨j, by simp [h, hj], rfl⟩)
theorem Zm2 {d : Db} : ∀ {l : List ByteArray} {rk : List Int}, rkE d rk l = 0 → ∀ x ∈ rk0 d l, 0 ≤ x ∧ x < d.frames.length
  | [], _, _, x, hx => by simp [rk0] at hx
  | s :: l, rk, h, x, hx => by
    rw [rkE] at h
    split at h
    · cases h
    · rename_i h1
      split at h
      · cases h
      · rcases List.mem_cons.1 (show x ∈ ZX d s :: rk0 d l from hx) with rfl | hx
        · exact Zau h1
        · exact Zm2 h x hx
theorem ZiU {d : Db} {l : List ByteArray} (h : rkE d [] l = 0) : ∀ x ∈ rkN d l d.frames.length, 0 ≤ x ∧ x < d.frames.length := by
  intro x hx
  rw [rkN, List.mem_append] at hx
  rcases hx with hx | hx
  · exact Zm2 h x hx
  · obtain ⟨j, hj, rfl⟩ := List.mem_map.1 hx
    have := (List.mem_filter.1 hj).1
    rw [List.mem_range] at this
    omega

def rdy (us : List (List Int)) (out : List Int) (i : Int) : Bool := !decide (i ∈ out) && !((ge us i.toNat).any fun k' => !decide (k' ∈ out))
def nxO (us : List (List Int)) (rk out : List Int) : Nat := (YS (rdy us out) rk).toNat
def ZaX (us : List (List Int)) (rk : List Int) : Nat → List Int
  | 0 => []
  | m + 1 => ZaX us rk m ++ [ge rk (nxO us rk (ZaX us rk m))]
theorem Qt (us : List (List Int)) (rk : List Int) : ∀ m, (ZaX us rk m).length = m
  | 0 => rfl
  | m + 1 => by rw [ZaX, List.length_append, Qt us rk m]; rfl
section
variable {us : List (List Int)} {rk out : List Int} {n : Nat}
theorem lacks (hlt : out.length < n) : ∃ j : Nat, j < n ∧ (j : Int) ∉ out := by
  refine Classical.byContradiction fun h => ?_
  have hall : ∀ j : Nat, j < n → (j : Int) ∈ out := fun j hj => Classical.byContradiction fun hn => h ⟨j, hj, hn⟩
  have hsub : (List.range n).map (fun (j : Nat) => (j : Int)) ⊆ out := fun x hx => by
    obtain ⟨j, hj, rfl⟩ := List.mem_map.1 hx
    exact hall j (List.mem_range.1 hj)
  have hnd : ((List.range n).map fun (j : Nat) => (j : Int)).Nodup := by
    rw [List.nodup_iff_pairwise_ne, List.pairwise_map]
    exact (List.nodup_iff_pairwise_ne.1 List.nodup_range).imp fun h e => h (by omega)
  have := hnd.length_le_of_subset hsub
  rw [List.length_map, List.length_range] at this
  omega
theorem ZgJ (hd : Xh us) (hrk : ∀ j : Nat, j < n → (j : Int) ∈ rk) (hlt : out.length < n) : ¬ YS (rdy us out) rk = -1 := by
  obtain ⟨j, ⟨hj, hp⟩, hmin'⟩ := ZlA (fun j => j < n ∧ (j : Int) ∉ out) (lacks hlt)
  have hmin : ∀ i, i < j → ¬ (i : Int) ∉ out := fun i hi hp' => by have := hmin' i ⟨by omega, hp'⟩; omega
  have hr : rdy us out (j : Int) = true := by
    simp only [rdy, Bool.and_eq_true, Bool.not_eq_true', decide_eq_false_iff_not, List.any_eq_false, Int.toNat_natCast]
    refine ⟨hp, fun x hx => ?_⟩
    have h := hd j x hx
    have := hmin x.toNat (by omega)
    rw [show ((x.toNat : Nat) : Int) = x by omega] at this
    simpa using this
  have hany : rk.any (rdy us out) = true := List.any_eq_true.2 ⟨_, hrk j hj, hr⟩
  rw [← Qb] at hany
  have := of_decide_eq_true hany
  omega
theorem ZdE (hd : Xh us) (hrk : ∀ j : Nat, j < n → (j : Int) ∈ rk) (hlt : out.length < n) : YS (rdy us out) rk = (nxO us rk out : Int) ∧ nxO us rk out < rk.length ∧ rdy us out (ge rk (nxO us rk out)) = true := by
  have h := YZ (ZgJ hd hrk hlt)
  unfold nxO
  exact ⟨by omega, h.2.1, h.2.2.1⟩
theorem Zjt {j : Nat} (hj : j < rk.length) (hr : rdy us out (ge rk j) = true) (hn : ∀ i', i' < j → rdy us out (ge rk i') = false) : nxO us rk out = j := by
  rw [nxO, Yl hj hr hn]; rfl
theorem Zlo (hd : Xh us) (hrk : ∀ j : Nat, j < n → (j : Int) ∈ rk) (hlt : out.length < n) (hn : ∀ i', i' < rk.length → rdy us out (ge rk i') = false) : False :=
  ZgJ hd hrk hlt (Z5 hn)
def ZkQ (us : List (List Int)) (out : List Int) (i : Int) (n : Nat) : Bool := !decide (i ∈ out) && !(((ge us i.toNat).take n).any fun k' => !decide (k' ∈ out))
theorem ZiW (i : Int) : ZkQ us out i 0 = !decide (i ∈ out) := by simp [ZkQ]
theorem ZiX {i : Int} {n : Nat} (h : n < (ge us i.toNat).length) : ZkQ us out i (n + 1) = (ZkQ us out i n && decide (ge (ge us i.toNat) n ∈ out)) := by
  rw [ZkQ, ZkQ, ZI h, List.any_append]
  simp [Bool.and_assoc]
theorem ZgK {i : Int} {n : Nat} (h : (ge us i.toNat).length ≤ n) : ZkQ us out i n = rdy us out i := by
  rw [ZkQ, Zu h]; rfl
theorem ZnE {i : Int} (h : rdy us out i = true) : i ∉ out := by
  simp only [rdy, Bool.and_eq_true, Bool.not_eq_true', decide_eq_false_iff_not] at h
  exact h.1
theorem Zkp (hd : Xh us) (hrk : ∀ j : Nat, j < n → (j : Int) ∈ rk) (hlt : out.length < n) : Y5 out (ge rk (nxO us rk out)) = out ++ [ge rk (nxO us rk out)] :=
  if_neg (ZnE (ZdE hd hrk hlt).2.2)
end
def QG (d : Db) (l : List ByteArray) : Int := if Xk d = 0 then rkE d [] l else Xk d
def Zec (d : Db) (l : List ByteArray) : List Int := ZaX (usL d d.frames.length) (rkN d l d.frames.length) d.frames.length
end Go.Proofs.YtnpgmdffjemnbaaGreatDoor
set_option maxHeartbeats 8000000
set_option maxRecDepth 100000
namespace Go.Proofs.YtnpgmdffjemnbaaGreatDoor
open Go.RowKit

theorem Zla {J : World → Prop} (hJ : Stab J) (M : Nat) (dn : List Int) (i : Int)  : FnR Tryz.prog J 60 [OB.set keyI M dn] [.int i, .ptr [.lit (.map (some M))]] (.bool (!decide (i ∈ dn))) := by
 refine Z1 (N := 8) Tryz.func60 rfl rfl (lb rfl) fun S w0 hS hJ0 hH => ?_
 clear hJ0
 refine qs tb hJ [0,1] [_] [_,_] ?_
 refine hqs tb hJ [1004] [_,_,.bool (decide (i ∈ dn)),_,_] [2] [_] rfl ⟨fun _ _ hk hx hl _ => Z4 (Kd := keyI) (xs := dn) Yw ZL i rfl (Yq hH hk (mo 0 rfl)) (hl.dep 0 4 _ rfl rfl rfl rfl) (hl.dep 1 5 _ rfl rfl rfl rfl) hx, trivial⟩ ?_
 exact Ze (rtn (m := 0) rfl rfl (eB (by first | rfl | grind [Zg])))
theorem Zlb {J : World → Prop} (hJ : Stab J) (M : Nat) (dn : List Int) (d : Db) (us : List (List Int)) (i : Int) (h0 : 0 ≤ i) (h1 : i.toNat < us.length) : FnR Tryz.prog J 59 [OB.set keyI M dn] [.int i, .ptr [.lit (.map (some M))], .ptr [.ptr [Zf d.consts, Zf d.vars, Yv d.frames, ZG us]]] (.bool (rdy us dn i)) := by
 refine Z1 (N := 21) Tryz.func59 rfl rfl (lb rfl) fun S w0 hS hJ0 hH => ?_
 clear hJ0
 refine qs tb hJ [0,1,2] [_] [_,_,_] ?_
 refine hqs tb hJ [1016] [_,_,.bool (decide (i ∈ dn)),_,_,_,_,_,_,_,.ptr [ZJ (ge us i.toNat)],_,.fn 60 [.ptr [.lit (.map (some M))]],.bool ((ge us i.toNat).any (fun (k' : Int) => !decide (k' ∈ dn))),_,_,_] [2,10,12,13] [_] rfl ⟨fun _ _ hk hx hl _ => Z4 (Kd := keyI) (xs := dn) Yw ZL i rfl (Yq hH hk (mo 0 rfl)) (hl.dep 0 5 _ rfl rfl rfl rfl) (hl.dep 1 6 _ rfl rfl rfl rfl) hx, fun _ _ _ hx hl hc => Z0 (i := i) XI rfl (hl.dep 8 13 _ rfl rfl rfl hc) (hl.dep 9 14 _ rfl rfl rfl hc) (by have hc' : ((!(decide (i ∈ dn))) == true) = true := hc; (try simp at hc'); (first | omega | (simp; omega) | grind [Zg])) (Za2 (xs := us) (i := i) (by have hc' : ((!(decide (i ∈ dn))) == true) = true := hc; (try simp at hc'); (first | omega | (simp; omega) | grind [Zg])) (by have hc' : ((!(decide (i ∈ dn))) == true) = true := hc; (try simp at hc'); (first | omega | (simp; omega) | grind [Zg]))) rfl hx, fun _ _ _ hx hl _ => XC (caps := [(Go.Operand.tmp 1)]) rfl (Zc (hl.env 1 1 _ rfl rfl) Zi) hx, fun _ _ hk hx hl hc => Xy (Zb8 hJ (xs := (ge us i.toNat)) (f := 60) (caps := [.ptr [.lit (.map (some M))]]) (Os := [OB.set keyI M dn]) (p := (fun (k' : Int) => !decide (k' ∈ dn))) (fun q' => Zla hJ M dn q') (Zov)) ZoJ rfl (nm hS hk) (hx) (ZU (Yq hH hk (mo 0 rfl)) ZE) (Zc (hl.dep 11 16 _ rfl rfl rfl hc) (Zc (hl.dep 12 17 _ rfl rfl rfl hc) Zi)) (js hJ hx), trivial⟩ ?_
 exact Ze (rtn (m := 0) rfl rfl (eB (rfl)))
theorem ZnQ {J : World → Prop} (hJ : Stab J) (f : Fr) (s : ByteArray)  : Fn Tryz.prog J 78 [.agg (frC f), .ptr [.lit (.string s)]] (.bool (decide (f.label = s))) := by
 refine Zn (N := 8) Tryz.func78 rfl rfl (lb rfl) fun S w0 hS hJ0 => ?_
 clear hJ0
 refine hqs tb hJ [1,1000] [.ptr (frC f),_] [0] [_,_] rfl ⟨fun _ _ hk hx hl _ => Yk rfl (hl.env 0 0 _ rfl rfl) (hS _ hk.size) (js hJ hx), trivial⟩ ?_
 refine qs tb hJ [1004] [_,_,_,_,_] [_] ?_
 exact Ze (rtn (m := 0) rfl rfl rfl)
theorem Zna {J : World → Prop} (hJ : Stab J) (d : Db) (s : ByteArray)  : Fn Tryz.prog J 57 [.agg (dbC d), .str s] (.int (ZX d s)) := by
 refine Zn (N := 9) Tryz.func57 rfl rfl (lb rfl) fun S w0 hS hJ0 => ?_
 clear hJ0
 refine hqs tb hJ [1000,1001] [.ptr (dbC d),.ptr [.lit (.string s)],_] [0,1] [_,_] rfl ⟨fun _ _ hk hx hl _ => Yk rfl (hl.env 0 0 _ rfl rfl) (hS _ hk.size) (js hJ hx), fun _ _ hk hx hl _ => ZgQ rfl (hl.env 1 1 _ rfl rfl) (hS _ hk.size) (js hJ hx), trivial⟩ ?_
 refine hqs tb hJ [1001,1004] [_,_,.fn 78 [.ptr [.lit (.string s)]],.int (YS (fun (f' : Fr) => decide (f'.label = s)) d.frames),_] [2,3] [_,_] rfl ⟨fun _ _ _ hx hl _ => XC (caps := [(Go.Operand.tmp 3)]) rfl (Zc (hl.env 1 3 _ rfl rfl) Zi) hx, fun _ _ hk hx hl _ => Xy (Zbl hJ (xs := d.frames) (f := 78) (caps := [.ptr [.lit (.string s)]]) (Os := []) (p := (fun (f' : Fr) => decide (f'.label = s))) (fun q' => (ZnQ hJ q' s).r) (Zoq)) Zkc rfl (nm hS hk) (hx) ZE (Zc (hl.dep 1 6 _ rfl rfl rfl rfl) (Zc (hl.dep 2 7 _ rfl rfl rfl rfl) Zi)) (js hJ hx), trivial⟩ ?_
 refine ln 0 fun hl1 => ?_
 exact Ze (rtn (m := 1) rfl rfl (eI (rfl)))
theorem ZnN {J : World → Prop} (hJ : Stab J) (d : Db) (l : List ByteArray) (hw : ∀ f ∈ d.frames, f.wide.length * 32 ≤ 140737488351232) (hG : XK J) (hl : l.length ≤ 40) : Fn Tryz.prog J 25 [.agg (dbC d), .rd (Zf l)] (.tup [.rd (ZJ (if QG d l = 0 then Zec d l else [])), .int (QG d l)]) := by
 refine Zn (N := 86) Tryz.func25 rfl rfl (lb rfl) fun S w0 hS hJ0 => ?_
 refine tw Yb ?_
 refine ln 1 fun hl1 => ?_
 refine ZC tb hJ [1,1000] [.ptr (dbC d),_,_] [0] [_,_] rfl ⟨fun _ _ hk hx hl _ => Yk rfl (hl.env 0 0 _ rfl rfl) (Zo hS _ hk hx _ (Nat.le_refl _)) (jo hJ hx), trivial⟩ ?_
 refine tsq ?_
 refine snK 1 tb rfl ?_
 refine sq (.tup [gAV (rdE d ([] : List Int)) [Zf d.consts, Zf d.vars, Yv d.frames, ZG (usL d d.frames.length)], .int (rdE d ([] : List Int))]) rfl rfl (lb rfl) (fun _ _ h => Zbi (ZeB hJ (d := d) (ns := ([] : List Int)) (hw) (hG)) Zcy rfl (Zo hS _ h.keep h.x) (h.x.1) (Zc (h.get 0 rfl) (Zc (X8 (Rel.of_lit (Go.Value.slice none 0 0))) Zi)) (jo hJ h.x)) ?_
 refine snK 3 tb rfl ?_
 refine YK Ziz hJ rfl rfl rfl (lb rfl) fun b1 => ?_
 refine Xn (b := b1) (off := 0) (cs := [.lit (.pointer none)]) (es := [gCD (rdE d ([] : List Int)) [Zf d.consts, Zf d.vars, Yv d.frames, ZG (usL d d.frames.length)]]) hJ hJ0 ZiO rfl rfl rfl (lb rfl) rfl (fun a w h => ⟨(h.get 0 rfl), (gCD_rd (h.get 2 rfl))⟩) ?_
 refine snK 1 tb rfl ?_
 refine kw (fun h => YO hS h (m := 1) (s := 6) rfl) ?_
 refine seK [0,1,7,8] [_,_,_,_] rfl ?_
 refine nx (Zd (qso tb hJ [0,1,2,3,1001] [_,_] [_,_,_,_,_] ?_))
 refine cj 4 (fun hb1 => ?_) fun hb1 => ?_
 have c1 : ¬ Xk d = 0 := by rw [← Yc]; exact Q8 hb1
 have c2 : QG d l = Xk d := if_neg c1
 refine qso tb hJ [1001,1002] [_,_,_] [_,_] ?_
 refine tw (fun h => Ys h (m := 0) (s := 4) rfl) ?_
 exact Ze (fun a w h => Ye (m := 0) (k := 1) rfl (ZK h) rfl rfl (congrArg (fun z => AV.rd (ZJ z)) (show ([] : List Int) = (if QG d l = 0 then Zec d l else []) from by first | (rw [c2, Yc]; done) | exact c2.symm | exact c0.symm | (rw [c2, if_neg c1]; done) | (rw [c2]; rfl) | (rw [if_pos c0, f3_2, e8]; rfl))) (eI (by first | (rw [c2, Yc]; done) | exact c2.symm | exact c0.symm | (rw [c2, if_neg c1]; done) | (rw [c2]; rfl) | (rw [if_pos c0, f3_2, e8]; rfl))))
 have e0 : Xk d = 0 := by rw [← Yc]; exact Zcd hb1
 have c3 := Xt e0
 have hul := Xl d d.frames.length
 refine tw (sa 0 rfl (show (.ptr [gCD (rdE d ([] : List Int)) [Zf d.consts, Zf d.vars, Yv d.frames, ZG (usL d d.frames.length)]] : AV) = .ptr [.ptr [Zf d.consts, Zf d.vars, Yv d.frames, ZG (usL d d.frames.length)]] from by rw [gCD_ok (by rw [Yc]; exact e0)])) ?_
 refine Za (nx (qso tb hJ [0,2,3,1000] [_] [_,_,_,_] ?_))
 refine Zd (ZC tb hJ [0,1,2,3,1000,1001,1002] [_,.int (l.length : Nat),_] [1] [_,_,_,_,_,_,_] rfl ⟨ZZ Zr, trivial⟩ ?_)
 refine Zb (tw (Yo 3 1 hJ) ?_)
 refine lpo (ι := Nat × Value × (List Int)) (fun (k, _, rk) => (k ≤ l.length) ∧ (rk = rk0 d (l.take k)) ∧ (rkE d [] l = rkE d rk (l.drop k))) (fun (_, vo, rk) => [OB.row vo 3 1 (rk.map Xa)]) (fun (k, vo, _) => [(26, .int (k : Nat)), (8, .lit vo)]) (fun (k, _, _) => l.length - k) [0,1,2,4,5,6,3] [_,_,_,_,_] (0, (.slice none 0 0), ([] : List Int)) ⟨Nat.zero_le _, rfl, rfl⟩ ?_
 rintro ⟨k, vo, rk⟩ ⟨f1_1, f1_2, f1_3⟩
 refine qso tb hJ [0,1,2,3,4,5,6,1000] [_] [_,_,_,_,_,_,_,_] ?_
 refine cjS 7 (fun hb2 => ?_) fun hb2 => ?_
 try simp at hb2
 refine Za (nx (Zd (Zb (ZC tb hJ [0,1,2,3,4,5,6,1002] [.ptr [.lit (.string (ge l k))],_,_] [0] [_,_,_,_,_,_,_,_] rfl ⟨iIx Zh, trivial⟩ ?_))))
 refine ZC tb hJ [0,1,2,3,4,5,6,1003] [_,_,.int (ZX d (ge l k)),_] [2] [_,_,_,_,_,_,_,_] rfl ⟨iFo hS hJ (Zna hJ (d := d) (s := (ge l k)) ) Zkh, trivial⟩ ?_
 refine Zd (Zb (qso tb hJ [0,1,2,3,4,5,6,7,1002] [_,_,_] [_,_,_,_,_,_,_,_,_] ?_))
 refine cj 8 (fun hb3 => ?_) fun hb3 => ?_
 have c2 : QG d l = 5 := by rw [QG, if_pos e0, f1_3, Zc4 (by omega), if_pos (of_decide_eq_true hb3)]
 refine qso tb hJ [1000,1001] [_,_] [_,_] ?_
 refine tw (fun h => Ys h (m := 0) (s := 4) rfl) ?_
 exact Ze (fun a w h => Ye (m := 0) (k := 1) rfl (ZK h) rfl rfl (congrArg (fun z => AV.rd (ZJ z)) (show ([] : List Int) = (if QG d l = 0 then Zec d l else []) from by first | (rw [c2, Yc]; done) | exact c2.symm | exact c0.symm | (rw [c2, if_neg c1]; done) | (rw [c2]; rfl) | (rw [if_pos c0, f3_2, e8]; rfl))) (eI (by first | (rw [c2, Yc]; done) | exact c2.symm | exact c0.symm | (rw [c2, if_neg c1]; done) | (rw [c2]; rfl) | (rw [if_pos c0, f3_2, e8]; rfl))))
 refine Zfp tb hJ [0,1,2,3,4,5,6,7,1003] [_,_,.bool (decide ((ZX d (ge l k)) ∈ rk)),_] [2] [_,_,_,_,_,_,_,_,_] rfl ⟨fun _ _ hk hx hl _ => Zbi (Zb6 hJ (xs := rk) (n := (ZX d (ge l k))) ) Zki rfl (nm hS hk) (hx.1) (Zc (YA hS hx (mo 0 rfl) (hl.dep 0 37 _ rfl rfl rfl rfl)) (Zc (hl.dep 1 38 _ rfl rfl rfl rfl) Zi)) (jo hJ hx), trivial⟩ ?_
 refine cj 8 (fun hb4 => ?_) fun hb4 => ?_
 have c2 : QG d l = 6 := by rw [QG, if_pos e0, f1_3, Zc4 (by omega), if_neg (of_decide_eq_false hb3), if_pos (of_decide_eq_true hb4)]
 refine qso tb hJ [1000,1001] [_,_] [_,_] ?_
 refine tw (fun h => Ys h (m := 0) (s := 4) rfl) ?_
 exact Ze (fun a w h => Ye (m := 0) (k := 1) rfl (ZK h) rfl rfl (congrArg (fun z => AV.rd (ZJ z)) (show ([] : List Int) = (if QG d l = 0 then Zec d l else []) from by first | (rw [c2, Yc]; done) | exact c2.symm | exact c0.symm | (rw [c2, if_neg c1]; done) | (rw [c2]; rfl) | (rw [if_pos c0, f3_2, e8]; rfl))) (eI (by first | (rw [c2, Yc]; done) | exact c2.symm | exact c0.symm | (rw [c2, if_neg c1]; done) | (rw [c2]; rfl) | (rw [if_pos c0, f3_2, e8]; rfl))))
 refine Za (nx (ZN (snK 2 tb rfl ?_)))
 refine sq (.rd (ZJ ([ZX d (ge l k)]))) rfl rfl (lb rfl) (fun _ _ h => ZV Zq XT rfl (h.get 0 rfl) (Zo hS _ h.keep h.x _ (Nat.le_refl _)) (jo hJ h.x)) ?_
 refine ZM (f := Xa) (m := 2) (s := 40) rk ([ZX d (ge l k)]) (fun _ => rfl) YT hJ hJ0 rfl rfl rfl (lb rfl) rfl rfl (fun a w h => (h.get 0 rfl)) (by first | (have := Y8 d (l.take k); rw [List.length_take] at this; rw [f1_2]; simp; omega) | (have := XL d l q; rw [f2_2]; simp; omega) | (simp; omega)) (by first | (have := Y8 d (l.take k); rw [List.length_take] at this; rw [f1_2]; simp; omega) | (have := XL d l q; rw [f2_2]; simp; omega) | (simp; omega)) fun v2 => ?_
 refine snK 1 tb rfl ?_
 refine seK [0,2,5,6,7,8,9,10] [_,_,_,_,_,_,_,_] rfl ?_
 refine nx (ln 1 fun hl2 => ?_)
 refine Yj tb hJ [0,2,3,4,5,6,1001] [.int (k + 1 : Nat),_] [0] [_,_,_,_,_,_,_] rfl ⟨Z2, trivial⟩ ?_
 exact Yr (k + 1, v2, rk ++ ([ZX d (ge l k)])) [1,2,3,4,5,6,0] ⟨by omega, by rw [ZgF (by omega), f1_2], by rw [f1_3, Zc4 (by omega), if_neg (of_decide_eq_false hb3), if_neg (of_decide_eq_false hb4)]⟩
 try simp at hb2
 have e1 : rkE d [] l = 0 := by rw [f1_3, List.drop_of_length_le (by omega)]; rfl
 have e2 : rk = rk0 d l := by rw [f1_2, Zu (by omega)]
 refine Zl (nx (Zd (ZC tb hJ [0,1,2,6,1001,1002,1003] [_,_,.int (d.frames.length : Nat),_] [2] [_,_,_,_,_,_,_] rfl ⟨ZZ Z7, trivial⟩ ?_)))
 refine ln 4 fun hl3 => ?_
 refine Zb (lpo (ι := Nat × Value × (List Int)) (fun (q, _, rk2) => (q ≤ d.frames.length) ∧ (rk2 = rkN d l q)) (fun (_, vp, rk2) => [OB.row vp 3 1 (rk2.map Xa)]) (fun (q, vp, _) => [(48, .int (q : Nat)), (8, .lit vp)]) (fun (q, _, _) => d.frames.length - q) [0,1,2,5,6,3] [_,_,_,_] (0, vo, rk) ⟨Nat.zero_le _, by rw [ZgD, e2]⟩ ?_)
 rintro ⟨q, vp, rk2⟩ ⟨f2_1, f2_2⟩
 refine qso tb hJ [0,1,2,3,4,5,1000] [_] [_,_,_,_,_,_,_] ?_
 refine cjS 6 (fun hb5 => ?_) fun hb5 => ?_
 try simp at hb5
 refine Za (nx (Zd (Zb (qso tb hJ [0,1,2,3,4,5,1001] [_,_] [_,_,_,_,_,_,_] ?_))))
 refine Zfp tb hJ [0,1,2,3,4,5,6,1006] [_,_,.int (l.length : Nat),.rd (ZJ (rk2.take l.length)),_,.bool (decide ((q : Int) ∈ (rk2.take l.length))),_] [2,3,5] [_,_,_,_,_,_,_,_] rfl ⟨ZZ Zr, fun _ _ _ hx hl _ => YR (ys := rk2.take l.length) (lo := 0) (hi := l.length) List.drop_zero Zq (fun _ => rfl) rfl (YA hS hx (mo 0 rfl) (hl.dep 0 51 _ rfl rfl rfl rfl)) rfl (hl.dep 2 53 _ rfl rfl rfl rfl) (by first | exact Nat.zero_le _ | (rw [f2_2]; exact Zm1 _ _ _)) (by first | exact Nat.zero_le _ | (rw [f2_2]; exact Zm1 _ _ _)) hx, iFr hS hJ (Zb6 hJ (xs := (rk2.take l.length)) (n := (q : Int)) ) Zki, trivial⟩ ?_
 refine cj 7 (fun hb6 => ?_) fun hb6 => ?_
 have e6 : ¬ (q : Int) ∈ rk0 d l := by have h := Q8 hb6; rw [f2_2, ZgE] at h; exact h
 refine ZN (snK 2 tb rfl ?_)
 refine sq (.rd (ZJ ([(q : Int)]))) rfl rfl (lb rfl) (fun _ _ h => ZV Zq XT rfl (h.get 0 rfl) (Zo hS _ h.keep h.x _ (Nat.le_refl _)) (jo hJ h.x)) ?_
 refine ZM (f := Xa) (m := 2) (s := 58) rk2 ([(q : Int)]) (fun _ => rfl) YT hJ hJ0 rfl rfl rfl (lb rfl) rfl rfl (fun a w h => (h.get 0 rfl)) (by first | (have := Y8 d (l.take k); rw [List.length_take] at this; rw [f1_2]; simp; omega) | (have := XL d l q; rw [f2_2]; simp; omega) | (simp; omega)) (by first | (have := Y8 d (l.take k); rw [List.length_take] at this; rw [f1_2]; simp; omega) | (have := XL d l q; rw [f2_2]; simp; omega) | (simp; omega)) fun v3 => ?_
 refine snK 1 tb rfl ?_
 refine seK [0,2,5,6,7,8,9] [_,_,_,_,_,_,_] rfl ?_
 refine nx (ln 1 fun hl4 => ?_)
 refine Yj tb hJ [0,2,3,4,5,1001] [.int (q + 1 : Nat),_] [0] [_,_,_,_,_,_] rfl ⟨Z2, trivial⟩ ?_
 exact Yr (q + 1, v3, rk2 ++ ([(q : Int)])) [1,2,3,4,5,0] ⟨by omega, by rw [ZbD, ← f2_2]; first | (rw [if_neg e6]; done) | (rw [if_pos e6]; simp; done)⟩
 have e6 : (q : Int) ∈ rk0 d l := by have h := Zcd hb6; rw [f2_2, ZgE] at h; exact h
 refine Za (nx (Yj tb hJ [0,1,2,3,5,1001] [.int (q + 1 : Nat),_] [0] [_,_,_,_,_,_] rfl ⟨Z2, trivial⟩ ?_))
 exact Yr (q + 1, vp, rk2) [0,1,2,3,5,4] ⟨by omega, by rw [ZbD, ← f2_2]; first | (rw [if_neg e6]; done) | (rw [if_pos e6]; simp; done)⟩
 try simp at hb5
 have e7 : rk2 = (rkN d l d.frames.length) := by rw [f2_2, show q = d.frames.length by omega]
 have c0 : QG d l = 0 := by rw [QG, if_pos e0]; exact e1
 refine Zl (nx (tw (fun h => ZB hS h (m := 5) (s := 8) rfl) ?_))
 refine tw (sa 0 rfl (congrArg (fun z' => AV.rd (ZJ z')) (show rk2 = (rkN d l d.frames.length) from e7))) ?_
 refine qso tb hJ [0,1,3,1000] [_] [_,_,_,_] ?_
 refine ln 0 fun hl5 => ?_
 refine tsq ?_
 refine Qq keyI hJ rfl rfl rfl (lb rfl) fun m4 => ?_
 refine YK Zef hJ rfl rfl rfl (lb rfl) fun b5 => ?_
 refine Xn (b := b5) (off := 0) (cs := [.lit (.map none)]) (es := [.lit (.map (some m4))]) hJ hJ0 Zeq rfl rfl rfl (lb rfl) rfl (fun a w h => ⟨(h.get 0 rfl), (h.get 1 rfl)⟩) ?_
 refine kw (fun h => YO hS h (m := 0) (s := 14) rfl) ?_
 refine seK [0,2,3,4,5] [_,_,_,_,_] rfl ?_
 refine nx (Zd (Zb (tw (Yo 3 1 hJ) ?_)))
 refine lpo (ι := Nat × Value × (List Int) × (List Int)) (fun (t, _, out, dn) => (t ≤ d.frames.length) ∧ (out = ZaX (usL d d.frames.length) (rkN d l d.frames.length) t) ∧ (dn = ZaX (usL d d.frames.length) (rkN d l d.frames.length) t)) (fun (_, vq, out, dn) => [OB.row vq 3 1 (out.map Xa), OB.set keyI m4 dn]) (fun (_, vq, _, _) => [(13, .lit vq)]) (fun (t, _, _, _) => d.frames.length - t) [0,1,2,3,4] [_,_,_,_] (0, (.slice none 0 0), ([] : List Int), ([] : List Int)) ⟨Nat.zero_le _, rfl, rfl⟩ ?_
 rintro ⟨t, vq, out, dn⟩ ⟨f3_1, f3_2, f3_3⟩
 refine Zd (Zfp tb hJ [0,1,2,3,4,1005] [_,.int (out.length : Nat),_,_,.int (d.frames.length : Nat),_] [1,4] [_,_,_,_,_,_] rfl ⟨fun _ _ _ hx hl _ => ZaG Ym rfl (YA hS hx (mo 0 rfl) (hl.dep 0 64 _ rfl rfl rfl rfl)) hx, ZZ Z7, trivial⟩ ?_)
 refine cj 5 (fun hb7 => ?_) fun hb7 => ?_
 try simp at hb7
 have e8 : out.length = t := by rw [f3_2, Qt]
 have e9 := ZdE (n := d.frames.length) (ZQ d d.frames.length) (fun j hj => Zdx (d := d) (l := l) hj) (out := ZaX (usL d d.frames.length) (rkN d l d.frames.length) t) (by rw [Qt]; omega)
 refine Za (nx (Zb (ZC tb hJ [0,1,2,3,4,1003] [_,.fn 59 [.ptr [.lit (.map (some m4))], .ptr [.ptr [Zf d.consts, Zf d.vars, Yv d.frames, ZG (usL d d.frames.length)]]],.int (YS (rdy (usL d d.frames.length) dn) (rkN d l d.frames.length)),_] [1,2] [_,_,_,_,_,_] rfl ⟨fun _ _ _ hx hl _ => XC (caps := [(Go.Operand.tmp 14), (Go.Operand.tmp 6)]) rfl (Zc (hl.env 0 14 _ rfl rfl) (Zc (hl.env 2 6 _ rfl rfl) Zi)) hx, fun _ _ hk hx hl _ => Xy (ZdB hJ (xs := (rkN d l d.frames.length)) (f := 59) (caps := [.ptr [.lit (.map (some m4))], .ptr [.ptr [Zf d.consts, Zf d.vars, Yv d.frames, ZG (usL d d.frames.length)]]]) (Os := [OB.set keyI m4 dn]) (p := (rdy (usL d d.frames.length) dn)) (fun q' hq' => Zlb hJ m4 dn d (usL d d.frames.length) q' (ZiU e1 q' hq').1 (by have := ZiU e1 q' hq'; rw [Xl]; omega)) (Zow)) Zkg rfl (Zo hS _ hk hx) (hx.1) (ZU (Zw hx (mo 1 rfl)) ZE) (Zc (hl.dep 0 70 _ rfl rfl rfl rfl) (Zc (hl.dep 1 71 _ rfl rfl rfl rfl) Zi)) (jo hJ hx), trivial⟩ ?_)))
 refine tw pm1 ?_
 refine tw (sa 5 rfl (congrArg AV.int (show YS (rdy (usL d d.frames.length) dn) (rkN d l d.frames.length) = ((nxO (usL d d.frames.length) (rkN d l d.frames.length) (ZaX (usL d d.frames.length) (rkN d l d.frames.length) t) : Nat) : Int) from by rw [f3_3]; exact e9.1))) ?_
 refine Zd (fun a w h => Xp (γ := Unit) (fun ix' => ([.lit (.map (some m4)), .rd (ZJ (rkN d l d.frames.length)), .int (nxO (usL d d.frames.length) (rkN d l d.frames.length) (ZaX (usL d d.frames.length) (rkN d l d.frames.length) t) : Nat), .ptr [.lit (.int .i64 (ge (rkN d l d.frames.length) (nxO (usL d d.frames.length) (rkN d l d.frames.length) (ZaX (usL d d.frames.length) (rkN d l d.frames.length) t))))], .int (ge (rkN d l d.frames.length) (nxO (usL d d.frames.length) (rkN d l d.frames.length) (ZaX (usL d d.frames.length) (rkN d l d.frames.length) t))), .any] : List AV).getD ix' .any) (fun ix' => ([true, true, true, true, true, true] : List Bool).getD ix' true) [(14, fun (g : Unit) => .ptr [.lit (.map (some m4))]), (8, fun (g : Unit) => .rd (ZJ (rkN d l d.frames.length))), (6, fun (g : Unit) => .ptr [.ptr [Zf d.consts, Zf d.vars, Yv d.frames, ZG (usL d d.frames.length)]]), (2, fun (g : Unit) => .ptr (dbC d)), (13, fun (g : Unit) => .lit vq), (15, fun (g : Unit) => .int (nxO (usL d d.frames.length) (rkN d l d.frames.length) (ZaX (usL d d.frames.length) (rkN d l d.frames.length) t) : Nat))] (fun (j' : Nat) (g : Unit) => match j' with | 0 => [OB.set keyI m4 dn, OB.row vq 3 1 (out.map Xa)] | _ => [OB.set keyI m4 (Y5 dn (ge (rkN d l d.frames.length) (nxO (usL d d.frames.length) (rkN d l d.frames.length) (ZaX (usL d d.frames.length) (rkN d l d.frames.length) t)))), OB.row vq 3 1 (out.map Xa)]) (fun (k' : Nat) (g : Unit) => match k' with | 0 => undef | _ => undef) [5] 0 () (fun _ => rfl) h hJ YJ rfl rfl rfl rfl rfl rfl (fun j' g hj p hp => by rcases j' with _ | _ | _ | j' <;> first | exact hp | exact List.mem_cons_of_mem _ hp | exact List.mem_cons_of_mem _ (List.mem_cons_of_mem _ hp) | (exfalso; omega)) ⟨?o25_1_0, ⟨?o25_1_1, ⟨?o25_1_2, ⟨?o25_1_3, ⟨?o25_1_4, ⟨?o25_1_5, trivial⟩⟩⟩⟩⟩⟩ ⟨?e25_1_0, trivial⟩ ⟨.old 0 14 _ rfl rfl, ⟨.old 1 8 _ rfl rfl, ⟨.old 2 6 _ rfl rfl, ⟨.old 3 2 _ rfl rfl, ⟨.old 4 13 _ rfl rfl, ⟨.old 5 15 _ rfl rfl, trivial⟩⟩⟩⟩⟩⟩ ?n25_1)
 case o25_1_0 => exact fun _ O' _ => ⟨rfl, fun _ _ _ hx hl _ => ZO ZgY rfl (hl.env 0 14 _ rfl rfl) hx⟩
 case o25_1_1 => exact fun _ O' _ => ⟨rfl, fun _ _ _ hx hl _ => Yd rfl (hl.env 1 8 _ rfl rfl) hx⟩
 case o25_1_2 => exact fun _ O' _ => ⟨rfl, fun _ _ _ hx hl _ => Yd rfl (hl.env 5 15 _ rfl rfl) hx⟩
 case o25_1_3 => exact fun _ O' _ => ⟨rfl, fun _ _ _ hx hl _ => Z0 (i := ((nxO (usL d d.frames.length) (rkN d l d.frames.length) (ZaX (usL d d.frames.length) (rkN d l d.frames.length) t) : Nat) : Int)) Zq rfl (hl.dep 1 74 _ rfl rfl rfl rfl) (hl.dep 2 75 _ rfl rfl rfl rfl) (Int.natCast_nonneg _) (Yh (xs := (rkN d l d.frames.length)) (k := nxO (usL d d.frames.length) (rkN d l d.frames.length) (ZaX (usL d d.frames.length) (rkN d l d.frames.length) t)) (by first | omega | (simp; omega) | grind [Zg])) rfl hx⟩
 case o25_1_4 => exact fun _ O' _ => ⟨rfl, fun _ _ _ hx hl _ => ZO one_3 rfl (hl.dep 3 76 _ rfl rfl rfl rfl) hx⟩
 case o25_1_5 => exact Zk rfl
 case e25_1_0 => exact ⟨_, rfl, rfl, rfl, rfl, fun g _ w hk hx hl _ => Zx (Znh Yw hJ hJ0 (ge (rkN d l d.frames.length) (nxO (usL d d.frames.length) (rkN d l d.frames.length) (ZaX (usL d d.frames.length) (rkN d l d.frames.length) t))) (.inl rfl) hk hx (hl.dep 0 73 _ rfl rfl rfl rfl) (hl.dep 4 77 _ rfl rfl rfl rfl) (Rel.of_lit (Go.Value.bool true))) fun v w' ⟨_, hp⟩ => ⟨g, rfl, fun _ _ => rfl, fun e => (by cases e), hp⟩⟩
 clear a w h
 intro _
 change ∀ a w, St All (SO S [OB.set keyI m4 (Y5 dn (ge (rkN d l d.frames.length) (nxO (usL d d.frames.length) (rkN d l d.frames.length) (ZaX (usL d d.frames.length) (rkN d l d.frames.length) t)))), OB.row vq 3 1 (out.map Xa)]) w0 86 [(14, .ptr [.lit (.map (some m4))]), (8, .rd (ZJ (rkN d l d.frames.length))), (6, .ptr [.ptr [Zf d.consts, Zf d.vars, Yv d.frames, ZG (usL d d.frames.length)]]), (2, .ptr (dbC d)), (13, .lit vq), (15, .int (nxO (usL d d.frames.length) (rkN d l d.frames.length) (ZaX (usL d d.frames.length) (rkN d l d.frames.length) t) : Nat))] (XO J S w0.heap.size [OB.set keyI m4 (Y5 dn (ge (rkN d l d.frames.length) (nxO (usL d d.frames.length) (rkN d l d.frames.length) (ZaX (usL d d.frames.length) (rkN d l d.frames.length) t)))), OB.row vq 3 1 (out.map Xa)]) a w → _
 refine nx (ZN (snK 3 tb rfl ?_))
 refine sq (.ptr [.lit (.int .i64 (ge (rkN d l d.frames.length) (nxO (usL d d.frames.length) (rkN d l d.frames.length) (ZaX (usL d d.frames.length) (rkN d l d.frames.length) t))))]) rfl rfl (lb rfl) (fun _ _ h => Z0 (i := ((nxO (usL d d.frames.length) (rkN d l d.frames.length) (ZaX (usL d d.frames.length) (rkN d l d.frames.length) t) : Nat) : Int)) Zq rfl (h.get 1 rfl) (h.get 0 rfl) (Int.natCast_nonneg _) (Yh (xs := (rkN d l d.frames.length)) (k := nxO (usL d d.frames.length) (rkN d l d.frames.length) (ZaX (usL d d.frames.length) (rkN d l d.frames.length) t)) (by first | omega | (simp; omega) | grind [Zg])) rfl h.x) ?_
 refine snK 1 tb rfl ?_
 refine sq (.rd (ZJ ([(ge (rkN d l d.frames.length) (nxO (usL d d.frames.length) (rkN d l d.frames.length) (ZaX (usL d d.frames.length) (rkN d l d.frames.length) t)))]))) rfl rfl (lb rfl) (fun _ _ h => ZV Zq XT rfl (h.get 0 rfl) (Zo hS _ h.keep h.x _ (Nat.le_refl _)) (jo hJ h.x)) ?_
 refine kw pm1 ?_
 refine ZM (f := Xa) (m := 5) (s := 78) out ([(ge (rkN d l d.frames.length) (nxO (usL d d.frames.length) (rkN d l d.frames.length) (ZaX (usL d d.frames.length) (rkN d l d.frames.length) t)))]) (fun _ => rfl) YT hJ hJ0 rfl rfl rfl (lb rfl) rfl rfl (fun a w h => (h.get 0 rfl)) (by first | (have := Y8 d (l.take k); rw [List.length_take] at this; rw [f1_2]; simp; omega) | (have := XL d l q; rw [f2_2]; simp; omega) | (simp; omega)) (by first | (have := Y8 d (l.take k); rw [List.length_take] at this; rw [f1_2]; simp; omega) | (have := XL d l q; rw [f2_2]; simp; omega) | (simp; omega)) fun v6 => ?_
 refine snK 1 tb rfl ?_
 refine seK [0,2,8,9,10,11] [_,_,_,_,_,_] rfl ?_
 exact Yr (t + 1, v6, out ++ ([(ge (rkN d l d.frames.length) (nxO (usL d d.frames.length) (rkN d l d.frames.length) (ZaX (usL d d.frames.length) (rkN d l d.frames.length) t)))]), Y5 dn (ge (rkN d l d.frames.length) (nxO (usL d d.frames.length) (rkN d l d.frames.length) (ZaX (usL d d.frames.length) (rkN d l d.frames.length) t)))) [2,3,4,5,0] ⟨by omega, by rw [f3_2]; rfl, by rw [f3_3]; exact Zkp (ZQ _ _) (fun j hj => Zdx hj) (by rw [Qt]; omega)⟩
 try simp at hb7
 have e8 : t = d.frames.length := by (have : out.length = t := by rw [f3_2, Qt]); omega
 refine Zl (nx (qso tb hJ [1001,1002] [_,_,_] [_,_] ?_))
 refine tw (fun h => ZB hS h (m := 0) (s := 4) rfl) ?_
 exact Ze (fun a w h => Ye (m := 0) (k := 1) rfl (ZK h) rfl rfl (congrArg (fun z => AV.rd (ZJ z)) (show out = (if QG d l = 0 then Zec d l else []) from by first | (rw [c2, Yc]; done) | exact c2.symm | exact c0.symm | (rw [c2, if_neg c1]; done) | (rw [c2]; rfl) | (rw [if_pos c0, f3_2, e8]; rfl))) (eI (by first | (rw [c2, Yc]; done) | exact c2.symm | exact c0.symm | (rw [c2, if_neg c1]; done) | (rw [c2]; rfl) | (rw [if_pos c0, f3_2, e8]; rfl))))
end Go.Proofs.YtnpgmdffjemnbaaGreatDoor
set_option maxHeartbeats 8000000
set_option maxRecDepth 100000
namespace Go.Proofs.YtnpgmdffjemnbaaGreatDoor
open Go.RowKit

theorem ZoO {J : World → Prop} (hJ : Stab J) (d : Db) (i : Int) (h0 : 0 ≤ i) (hi : i.toNat < d.frames.length) (hf : d.frames.length ≤ 400) : Fn Tryz.prog J 45 [.agg (dbC d), .int i] (.rd (ZJ (ZT d i.toNat))) := by
  have := Zkj hJ d i.toNat hi hf
  rwa [show (i.toNat : Int) = i by omega] at this

theorem ZoS {J : World → Prop} (hJ : Stab J) (d : Db) (l : List ByteArray) (hw : ∀ i, i < d.frames.length → (ge d.frames i).wide.length * 32 ≤ 140737488351232) (hl : l.length ≤ 40) : Fn Tryz.prog J 36 [.agg (dbC d), .rd (Zf l)] (.tup [.rd (ZJ (if QG d l = 0 then Zec d l else [])), .int (QG d l)]) := by
 refine Zn (N := 114) Tryz.func36 rfl rfl (lb rfl) fun S w0 hS hJ0 => ?_
 refine tw Yb ?_
 refine ln 1 fun hl1 => ?_
 refine ZC tb hJ [1,1000] [.ptr (dbC d),_,_] [0] [_,_] rfl ⟨fun _ _ hk hx hl _ => Yk rfl (hl.env 0 0 _ rfl rfl) (Zo hS _ hk hx _ (Nat.le_refl _)) (jo hJ hx), trivial⟩ ?_
 refine Zd (ZC tb hJ [0,1,1002] [_,.int (Xk d),_] [1] [_,_,_] rfl ⟨iFo hS hJ (Zgf hJ (d := d) (hw)) Zf7, trivial⟩ ?_)
 refine qso tb hJ [0,1,2,1001] [_,_] [_,_,_,_] ?_
 refine cj 3 (fun hb1 => ?_) fun hb1 => ?_
 have c1 : ¬ Xk d = 0 := Q8 hb1
 have c2 : QG d l = Xk d := if_neg c1
 refine qso tb hJ [1001,1002] [_,_,_] [_,_] ?_
 refine tw (fun h => Ys h (m := 0) (s := 4) rfl) ?_
 exact Ze (fun a w h => Ye (m := 0) (k := 1) rfl (ZK h) rfl rfl (congrArg (fun z => AV.rd (ZJ z)) (show ([] : List Int) = (if QG d l = 0 then Zec d l else []) from by first | exact c2.symm | exact c0.symm | (rw [c2, if_neg c1]; done) | (rw [c2]; rfl) | (rw [if_pos c0, f3_2, e8]; rfl))) (eI (by first | exact c2.symm | exact c0.symm | (rw [c2, if_neg c1]; done) | (rw [c2]; rfl) | (rw [if_pos c0, f3_2, e8]; rfl))))
 have e0 : Xk d = 0 := Zcd hb1
 have c3 := Xt e0
 have hul := Xl d d.frames.length
 refine Za (nx (tsq ?_))
 refine Xo Zq hJ rfl rfl rfl (lb rfl) fun v1 => ?_
 refine snK 1 tb rfl ?_
 refine seK [0,2,3] [_,_,_] rfl ?_
 refine nx (Zd (qso tb hJ [0,1,2,1000] [_] [_,_,_,_] ?_))
 refine Zb (lpo (ι := Nat × Value × (List Int)) (fun (k, _, rk) => (k ≤ l.length) ∧ (rk = rk0 d (l.take k)) ∧ (rkE d [] l = rkE d rk (l.drop k))) (fun (_, vo, rk) => [OB.row vo 3 1 (rk.map Xa)]) (fun (k, vo, _) => [(8, .int (k : Nat)), (7, .lit vo)]) (fun (k, _, _) => l.length - k) [1,2,3,0] [_,_] (0, v1, ([] : List Int)) ⟨Nat.zero_le _, rfl, rfl⟩ ?_)
 rintro ⟨k, vo, rk⟩ ⟨f1_1, f1_2, f1_3⟩
 refine Zd (ZC tb hJ [0,1,2,3,1003] [_,_,.int (l.length : Nat),_] [2] [_,_,_,_,_] rfl ⟨ZZ Zr, trivial⟩ ?_)
 refine cj 4 (fun hb2 => ?_) fun hb2 => ?_
 try simp at hb2
 refine Za (nx (Zd (Zb (ZC tb hJ [0,1,2,3,1006] [_,_,_,.ptr [.lit (.string (ge l k))],_,.int (ZX d (ge l k)),_] [3,5] [_,_,_,_,_] rfl ⟨iIx Zh, iFo hS hJ (Znm hJ (d := d) (s := (ge l k)) ) Zkf, trivial⟩ ?_))))
 refine Zd (qso tb hJ [0,1,2,3,4,1001] [_,_] [_,_,_,_,_,_] ?_)
 refine cj 5 (fun hb3 => ?_) fun hb3 => ?_
 have c2 : QG d l = 5 := by rw [QG, if_pos e0, f1_3, Zc4 (by omega), if_pos (of_decide_eq_true hb3)]
 refine qso tb hJ [1000,1001] [_,_] [_,_] ?_
 refine tw (fun h => Ys h (m := 0) (s := 4) rfl) ?_
 exact Ze (fun a w h => Ye (m := 0) (k := 1) rfl (ZK h) rfl rfl (congrArg (fun z => AV.rd (ZJ z)) (show ([] : List Int) = (if QG d l = 0 then Zec d l else []) from by first | exact c2.symm | exact c0.symm | (rw [c2, if_neg c1]; done) | (rw [c2]; rfl) | (rw [if_pos c0, f3_2, e8]; rfl))) (eI (by first | exact c2.symm | exact c0.symm | (rw [c2, if_neg c1]; done) | (rw [c2]; rfl) | (rw [if_pos c0, f3_2, e8]; rfl))))
 refine Za (nx (Zd (Zfp tb hJ [0,1,2,3,4,1002] [_,_,.bool (decide ((ZX d (ge l k)) ∈ rk))] [2] [_,_,_,_,_,_] rfl ⟨fun _ _ hk hx hl _ => Zbi (ZoQ hJ (xs := rk) (n := (ZX d (ge l k))) ) Zav rfl (nm hS hk) (hx.1) (Zc (YA hS hx (mo 0 rfl) (hl.dep 0 37 _ rfl rfl rfl rfl)) (Zc (hl.dep 1 38 _ rfl rfl rfl rfl) Zi)) (jo hJ hx), trivial⟩ ?_)))
 refine cj 5 (fun hb4 => ?_) fun hb4 => ?_
 have c2 : QG d l = 6 := by rw [QG, if_pos e0, f1_3, Zc4 (by omega), if_neg (of_decide_eq_false hb3), if_pos (of_decide_eq_true hb4)]
 refine qso tb hJ [1000,1001] [_,_] [_,_] ?_
 refine tw (fun h => Ys h (m := 0) (s := 4) rfl) ?_
 exact Ze (fun a w h => Ye (m := 0) (k := 1) rfl (ZK h) rfl rfl (congrArg (fun z => AV.rd (ZJ z)) (show ([] : List Int) = (if QG d l = 0 then Zec d l else []) from by first | exact c2.symm | exact c0.symm | (rw [c2, if_neg c1]; done) | (rw [c2]; rfl) | (rw [if_pos c0, f3_2, e8]; rfl))) (eI (by first | exact c2.symm | exact c0.symm | (rw [c2, if_neg c1]; done) | (rw [c2]; rfl) | (rw [if_pos c0, f3_2, e8]; rfl))))
 refine Za (nx (ZN (snK 2 tb rfl ?_)))
 refine sq (.rd (ZJ ([ZX d (ge l k)]))) rfl rfl (lb rfl) (fun _ _ h => ZV Zq XT rfl (h.get 0 rfl) (Zo hS _ h.keep h.x _ (Nat.le_refl _)) (jo hJ h.x)) ?_
 refine ZM (f := Xa) (m := 2) (s := 40) rk ([ZX d (ge l k)]) (fun _ => rfl) YT hJ hJ0 rfl rfl rfl (lb rfl) rfl rfl (fun a w h => (h.get 0 rfl)) (by first | (have := Y8 d (l.take k); rw [List.length_take] at this; rw [f1_2]; simp; omega) | (have := XL d l q; rw [f2_2]; simp; omega) | (simp; omega)) (by first | (have := Y8 d (l.take k); rw [List.length_take] at this; rw [f1_2]; simp; omega) | (have := XL d l q; rw [f2_2]; simp; omega) | (simp; omega)) fun v2 => ?_
 refine snK 1 tb rfl ?_
 refine seK [0,2,5,6,7] [_,_,_,_,_] rfl ?_
 refine nx (ln 1 fun hl2 => ?_)
 refine Yj tb hJ [0,2,3,1002] [_,.int (k + 1 : Nat),_] [1] [_,_,_,_] rfl ⟨Z2, trivial⟩ ?_
 exact Yr (k + 1, v2, rk ++ ([ZX d (ge l k)])) [1,2,3,0] ⟨by omega, by rw [ZgF (by omega), f1_2], by rw [f1_3, Zc4 (by omega), if_neg (of_decide_eq_false hb3), if_neg (of_decide_eq_false hb4)]⟩
 try simp at hb2
 have e1 : rkE d [] l = 0 := by rw [f1_3, List.drop_of_length_le (by omega)]; rfl
 have e2 : rk = rk0 d l := by rw [f1_2, Zu (by omega)]
 refine Zl (nx (Zd (qso tb hJ [1,3,1000] [_] [_,_,_] ?_)))
 refine Zb (lpo (ι := Nat × Value × (List Int)) (fun (q, _, rk2) => (q ≤ d.frames.length) ∧ (rk2 = rkN d l q)) (fun (_, vp, rk2) => [OB.row vp 3 1 (rk2.map Xa)]) (fun (q, vp, _) => [(10, .int (q : Nat)), (7, .lit vp)]) (fun (q, _, _) => d.frames.length - q) [0,2,1] [_] (0, vo, rk) ⟨Nat.zero_le _, by rw [ZgD, e2]⟩ ?_)
 rintro ⟨q, vp, rk2⟩ ⟨f2_1, f2_2⟩
 refine Zd (ZC tb hJ [0,1,2,1002,1004] [_,_,_,.int (d.frames.length : Nat),_] [3] [_,_,_,_,_] rfl ⟨ZZ Z7, trivial⟩ ?_)
 refine ln 3 fun hl3 => ?_
 refine cj 4 (fun hb5 => ?_) fun hb5 => ?_
 try simp at hb5
 refine Za (nx (Zd (Zb (Zfp tb hJ [0,1,2,1003] [_,_,.bool (decide ((q : Int) ∈ rk2)),_] [2] [_,_,_,_] rfl ⟨fun _ _ hk hx hl _ => Zbi (ZoQ hJ (xs := rk2) (n := (q : Int)) ) Zav rfl (nm hS hk) (hx.1) (Zc (YA hS hx (mo 0 rfl) (hl.dep 0 51 _ rfl rfl rfl rfl)) (Zc (hl.dep 1 52 _ rfl rfl rfl rfl) Zi)) (jo hJ hx), trivial⟩ ?_))))
 refine cj 3 (fun hb6 => ?_) fun hb6 => ?_
 have e6 : ¬ (q : Int) ∈ rk0 d l := by have h := Q8 hb6; rw [f2_2, ZiV] at h; exact h
 refine ZN (snK 2 tb rfl ?_)
 refine sq (.rd (ZJ ([(q : Int)]))) rfl rfl (lb rfl) (fun _ _ h => ZV Zq XT rfl (h.get 0 rfl) (Zo hS _ h.keep h.x _ (Nat.le_refl _)) (jo hJ h.x)) ?_
 refine ZM (f := Xa) (m := 2) (s := 55) rk2 ([(q : Int)]) (fun _ => rfl) YT hJ hJ0 rfl rfl rfl (lb rfl) rfl rfl (fun a w h => (h.get 0 rfl)) (by first | (have := Y8 d (l.take k); rw [List.length_take] at this; rw [f1_2]; simp; omega) | (have := XL d l q; rw [f2_2]; simp; omega) | (simp; omega)) (by first | (have := Y8 d (l.take k); rw [List.length_take] at this; rw [f1_2]; simp; omega) | (have := XL d l q; rw [f2_2]; simp; omega) | (simp; omega)) fun v3 => ?_
 refine snK 1 tb rfl ?_
 refine seK [0,2,5,6] [_,_,_,_] rfl ?_
 refine nx (ln 1 fun hl4 => ?_)
 refine Yj tb hJ [0,2,1002] [_,.int (q + 1 : Nat),_] [1] [_,_,_] rfl ⟨Z2, trivial⟩ ?_
 exact Yr (q + 1, v3, rk2 ++ ([(q : Int)])) [1,2,0] ⟨by omega, by rw [ZbD, ← f2_2]; first | (rw [if_neg e6]; done) | (rw [if_pos e6]; simp; done)⟩
 have e6 : (q : Int) ∈ rk0 d l := by have h := Zcd hb6; rw [f2_2, ZiV] at h; exact h
 refine Za (nx (Yj tb hJ [0,2,1002] [_,.int (q + 1 : Nat),_] [1] [_,_,_] rfl ⟨Z2, trivial⟩ ?_))
 exact Yr (q + 1, vp, rk2) [0,2,1] ⟨by omega, by rw [ZbD, ← f2_2]; first | (rw [if_neg e6]; done) | (rw [if_pos e6]; simp; done)⟩
 try simp at hb5
 have e7 : rk2 = (rkN d l d.frames.length) := by rw [f2_2, show q = d.frames.length by omega]
 have c0 : QG d l = 0 := by rw [QG, if_pos e0]; exact e1
 refine Zl (nx (tw (fun h => ZB hS h (m := 2) (s := 7) rfl) ?_))
 refine tw (sa 0 rfl (congrArg (fun z' => AV.rd (ZJ z')) (show rk2 = (rkN d l d.frames.length) from e7))) ?_
 refine tsq ?_
 refine Xo Zq hJ rfl rfl rfl (lb rfl) fun v4 => ?_
 refine snK 1 tb rfl ?_
 refine seK [0,2,3] [_,_,_] rfl ?_
 refine nx (ln 1 fun hl5 => ?_)
 refine Zd (Zb (lpo (ι := Nat × Value × (List Int)) (fun (t, _, out) => (t ≤ d.frames.length) ∧ (out = ZaX (usL d d.frames.length) (rkN d l d.frames.length) t)) (fun (_, vq, out) => [OB.row vq 3 1 (out.map Xa)]) (fun (_, vq, _) => [(11, .lit vq)]) (fun (t, _, _) => d.frames.length - t) [1,2,0] [_,_] (0, v4, ([] : List Int)) ⟨Nat.zero_le _, rfl⟩ ?_))
 rintro ⟨t, vq, out⟩ ⟨f3_1, f3_2⟩
 refine Zd (Zfp tb hJ [0,1,2,1005] [_,.int (out.length : Nat),_,_,.int (d.frames.length : Nat),_] [1,4] [_,_,_,_] rfl ⟨fun _ _ _ hx hl _ => ZaG Ym rfl (YA hS hx (mo 0 rfl) (hl.dep 0 60 _ rfl rfl rfl rfl)) hx, ZZ Z7, trivial⟩ ?_)
 refine cj 3 (fun hb7 => ?_) fun hb7 => ?_
 try simp at hb7
 have e8 : out.length = t := by rw [f3_2, Qt]
 have e9 := ZdE (n := d.frames.length) (ZQ d d.frames.length) (fun j hj => Zdx (d := d) (l := l) hj) (out := out) (by omega)
 refine Za (nx (Zb (qso tb hJ [0,1,2,1000] [_] [_,_,_,_] ?_)))
 refine Zd (qso tb hJ [0,1,2,3,1000] [_] [_,_,_,_,_] ?_)
 refine Zb (lpo (ι := Nat × Int) (fun (j, nw) => (j ≤ (rkN d l d.frames.length).length) ∧ ((nw = -1 ∧ ∀ i', i' < j → rdy (usL d d.frames.length) out (ge (rkN d l d.frames.length) i') = false) ∨ (0 ≤ nw ∧ nw = ge (rkN d l d.frames.length) (nxO (usL d d.frames.length) (rkN d l d.frames.length) out)))) (fun (_, _) => [OB.row vq 3 1 (out.map Xa)]) (fun (j, nw) => [(13, .int (j : Nat)), (12, .int nw)]) (fun (j, _) => (rkN d l d.frames.length).length - j) [0,1,2,4,3] [_,_,_] (0, -1) ⟨Nat.zero_le _, .inl ⟨rfl, fun i' hi' => by omega⟩⟩ ?_)
 rintro ⟨j, nw⟩ ⟨f4_1, f4_2⟩
 refine Zd (ZC tb hJ [0,1,2,3,4,1007] [_,_,.int ((rkN d l d.frames.length).length : Nat),_,_,_,_,_] [2] [_,_,_,_,_,_] rfl ⟨ZZ Ym, trivial⟩ ?_)
 refine cj 5 (fun hb8 => ?_) fun hb8 => ?_
 try simp at hb8
 have e10 : nw = -1 ∧ ∀ i', i' < j → rdy (usL d d.frames.length) out (ge (rkN d l d.frames.length) i') = false := by rcases f4_2 with h | h; exact h; omega
 have e11 := ZiU e1 (ge (rkN d l d.frames.length) j) (Zg (by omega))
 refine Za (nx (Zd (Zb (Zfp tb hJ [0,1,2,3,4,1007] [_,_,_,.ptr [.lit (.int .i64 (ge (rkN d l d.frames.length) j))],_,.bool (decide ((ge (rkN d l d.frames.length) j) ∈ out)),_,_] [3,5] [_,_,_,_,_,_] rfl ⟨iIx Zq, fun _ _ hk hx hl _ => Zbi (ZoQ hJ (xs := out) (n := (ge (rkN d l d.frames.length) j)) ) Zav rfl (nm hS hk) (hx.1) (Zc (YA hS hx (mo 0 rfl) (hl.dep 0 76 _ rfl rfl rfl rfl)) (Zc (hl.dep 4 80 _ rfl rfl rfl rfl) Zi)) (jo hJ hx), trivial⟩ ?_))))
 refine Zd (Yj tb hJ [0,1,2,3,4,5,1005,1006] [_,_,_,.ptr [.lit (.int .i64 (ge (rkN d l d.frames.length) j))],_,.rd (ZJ (ZT d (ge (rkN d l d.frames.length) j).toNat)),_] [3,5] [_,_,_,_,_,_,_,_] rfl ⟨iIx Zq, iFo hS hJ (ZoO hJ (d := d) (i := (ge (rkN d l d.frames.length) j)) (e11.1) (by omega) (c3)) Zf9, trivial⟩ ?_)
 refine kw (sa 7 rfl (congrArg (fun z' => AV.rd (ZJ z')) (show (ZT d (ge (rkN d l d.frames.length) j).toNat) = (ge (usL d d.frames.length) (ge (rkN d l d.frames.length) j).toNat) from by rw [ZcV (by omega)]))) ?_
 refine nx (ln 6 fun hl6 => ?_)
 refine ln 7 fun hl7 => ?_
 refine Zd (qso tb hJ [0,1,2,3,4,5,7,1000] [_] [_,_,_,_,_,_,_,_] ?_)
 refine Zb (lpo (ι := Nat × Bool) (fun (n, b) => (n ≤ (ge (usL d d.frames.length) (ge (rkN d l d.frames.length) j).toNat).length) ∧ (b = ZkQ (usL d d.frames.length) out (ge (rkN d l d.frames.length) j) n)) (fun (_, _) => [OB.row vq 3 1 (out.map Xa)]) (fun (n, b) => [(16, .int (n : Nat)), (14, .bool b)]) (fun (n, _) => (ge (usL d d.frames.length) (ge (rkN d l d.frames.length) j).toNat).length - n) [0,1,2,3,4,6,7,5] [_,_,_,_,_,_] (0, (!decide (ge (rkN d l d.frames.length) j ∈ out))) ⟨Nat.zero_le _, (ZiW _).symm⟩ ?_)
 rintro ⟨n, b⟩ ⟨f5_1, f5_2⟩
 refine Zd (ZC tb hJ [0,1,2,3,4,5,6,7,1003] [_,_,.int ((ge (usL d d.frames.length) (ge (rkN d l d.frames.length) j).toNat).length : Nat),_] [2] [_,_,_,_,_,_,_,_,_] rfl ⟨ZZ Ym, trivial⟩ ?_)
 refine cj 8 (fun hb9 => ?_) fun hb9 => ?_
 try simp at hb9
 refine Za (nx (Zd (Zb (hqpr tb hJ [0,1,2,3,4,5,6,1009] [_,_,_,_,_,.ptr [.lit (.int .i64 (ge (ge (usL d d.frames.length) (ge (rkN d l d.frames.length) j).toNat) n))],_,.bool (decide ((ge (ge (usL d d.frames.length) (ge (rkN d l d.frames.length) j).toNat) n) ∈ out)),_,_] [5,7] [_,_,_,_,_,_,_,_] rfl ⟨gIx Zq (hk := fun (hc' : (b == true) = true) => by (try simp at hc'); first | omega | (simp; omega) | grind [Zg]), fun _ _ hk hx hl hc => Zbi (ZoQ hJ (xs := out) (n := (ge (ge (usL d d.frames.length) (ge (rkN d l d.frames.length) j).toNat) n)) ) Zav rfl (nm hS hk) (hx.1) (Zc (YA hS hx (mo 0 rfl) (hl.dep 2 97 _ rfl rfl rfl hc)) (Zc (hl.dep 6 101 _ rfl rfl rfl hc) Zi)) (jo hJ hx), trivial⟩ ?_))))
 refine nx (Yj tb hJ [0,1,2,3,4,5,7,1002] [_,.int (n + 1 : Nat),_] [1] [_,_,_,_,_,_,_,_] rfl ⟨Z2, trivial⟩ ?_)
 exact Yr (n + 1, b && (decide ((ge (ge (usL d d.frames.length) (ge (rkN d l d.frames.length) j).toNat) n) ∈ out))) [0,1,2,3,4,5,7,6] ⟨by omega, by rw [ZiX (by omega), f5_2]⟩
 try simp at hb9
 refine Zl (nx (qso tb hJ [0,1,2,3,4,1000] [_] [_,_,_,_,_,_] ?_))
 refine cj 5 (fun hb10 => ?_) fun hb10 => ?_
 have e13 : rdy (usL d d.frames.length) out (ge (rkN d l d.frames.length) j) = true := by rw [← ZgK (n := n) (by omega), ← f5_2]; exact hb10
 refine Yj tb hJ [0,1,2,3,1004] [_,_,.ptr [.lit (.int .i64 (ge (rkN d l d.frames.length) j))],_,_] [2] [_,_,_,_,_] rfl ⟨iIx Zq, trivial⟩ ?_
 refine nx (Yj tb hJ [0,1,2,4,1002] [_,.int (j + 1 : Nat),_] [1] [_,_,_,_,_] rfl ⟨Z2, trivial⟩ ?_)
 exact Yr (j + 1, (ge (rkN d l d.frames.length) j)) [0,1,2,4,3] ⟨by omega, by first | exact .inr ⟨e11.1, by rw [Zjt (by omega) e13 e10.2]⟩ | exact .inl ⟨e10.1, ZH e10.2 e13⟩⟩
 have e13 : rdy (usL d d.frames.length) out (ge (rkN d l d.frames.length) j) = false := by rw [← ZgK (n := n) (by omega), ← f5_2]; exact hb10
 refine Za (nx (Yj tb hJ [0,1,2,4,1002] [_,.int (j + 1 : Nat),_] [1] [_,_,_,_,_] rfl ⟨Z2, trivial⟩ ?_))
 exact Yr (j + 1, nw) [0,1,2,4,3] ⟨by omega, by first | exact .inr ⟨e11.1, by rw [Zjt (by omega) e13 e10.2]⟩ | exact .inl ⟨e10.1, ZH e10.2 e13⟩⟩
 try simp at hb8
 have e12 : nw = ge (rkN d l d.frames.length) (nxO (usL d d.frames.length) (rkN d l d.frames.length) out) := by rcases f4_2 with h | h; exact (Zlo (n := d.frames.length) (ZQ d d.frames.length) (fun j hj => Zdx (d := d) (l := l) hj) (out := out) (by omega) (fun i' hi' => h.2 i' (by omega))).elim; exact h.2
 refine Zl (nx (ZN (snK 2 tb rfl ?_)))
 refine sq (.rd (ZJ ([nw]))) rfl rfl (lb rfl) (fun _ _ h => ZV Zq XT rfl (h.get 0 rfl) (Zo hS _ h.keep h.x _ (Nat.le_refl _)) (jo hJ h.x)) ?_
 refine ZM (f := Xa) (m := 2) (s := 109) out ([nw]) (fun _ => rfl) YT hJ hJ0 rfl rfl rfl (lb rfl) rfl rfl (fun a w h => (h.get 0 rfl)) (by first | (have := Y8 d (l.take k); rw [List.length_take] at this; rw [f1_2]; simp; omega) | (have := XL d l q; rw [f2_2]; simp; omega) | (simp; omega)) (by first | (have := Y8 d (l.take k); rw [List.length_take] at this; rw [f1_2]; simp; omega) | (have := XL d l q; rw [f2_2]; simp; omega) | (simp; omega)) fun v5 => ?_
 refine snK 1 tb rfl ?_
 refine seK [0,2,5,6] [_,_,_,_] rfl ?_
 exact Yr (t + 1, v5, out ++ ([nw])) [2,3,0] ⟨by omega, by rw [e12, f3_2]; rfl⟩
 try simp at hb7
 have e8 : t = d.frames.length := by (have : out.length = t := by rw [f3_2, Qt]); omega
 refine Zl (nx (qso tb hJ [1001,1002] [_,_,_] [_,_] ?_))
 refine tw (fun h => ZB hS h (m := 0) (s := 4) rfl) ?_
 exact Ze (fun a w h => Ye (m := 0) (k := 1) rfl (ZK h) rfl rfl (congrArg (fun z => AV.rd (ZJ z)) (show out = (if QG d l = 0 then Zec d l else []) from by first | exact c2.symm | exact c0.symm | (rw [c2, if_neg c1]; done) | (rw [c2]; rfl) | (rw [if_pos c0, f3_2, e8]; rfl))) (eI (by first | exact c2.symm | exact c0.symm | (rw [c2, if_neg c1]; done) | (rw [c2]; rfl) | (rw [if_pos c0, f3_2, e8]; rfl))))
end Go.Proofs.YtnpgmdffjemnbaaGreatDoor
