/-
  CONTRACTS: slices.Sorted(maps.Keys(..)) at a set of numbers.
  PLAIN LAW: what a proof names; what each assertion uses, as the program finds it.
  CONTRACTS of the program: who uses what.
  PLAIN LAW: what can be reached.
  CONTRACTS of the program: what is needed.
  PLAIN LAW: what is needed, in order; depths.
  CONTRACTS of the program: uses, users, depths.
  CONTRACTS of the program: needs, axioms, depth.
  PLAIN LAW: what is needed without one of them, as the reference marks it.
  PLAIN LAW: what is on every chain, as the program finds it.
  CONTRACTS of the program: what is on every chain.
  THE LAW's SMALL DATABASE: what it is, and what is said of it.
  CONTRACTS of the law: the small database, awake, few.
  CONTRACTS: needs, axioms, depths by the reference.
-/
import Derived.Test.YtnpgmdffjemnbaaGreatDoorJI
import Derived.Test.YtnpgmdffjemnbaaGreatDoorJU
import Derived.Test.YtnpgmdffjemnbaaGreatDoorJQ
import Derived.WalkKit
import Derived.OwnWalkIn
import Derived.TacticsInMore
import Derived.Test.YtnpgmdffjemnbaaGreatDoorJT
import Derived.Test.YtnpgmdffjemnbaaGreatDoorJJ
import Derived.Test.YtnpgmdffjemnbaaGreatDoorJK
import Derived.Test.YtnpgmdffjemnbaaGreatDoorJR
namespace Go.Proofs.YtnpgmdffjemnbaaGreatDoor
open Go.RowKit Go.Maps Go.Sort Go.Shelf

def Y3 (xs : List Int) : List Int := xs.mergeSort fun x y => decide (x ≤ y)
theorem sortsA (m : Nat) : AnyZI.SortsIn Tryz.prog Tryz.sortedA_ren Fence.wide m :=
  ⟨fun blk off cap ss W hH hblk hsz => callsIn_wide.2 (AnyM.slices_Sort_int Tryz.sortA blk off cap ss W hH hblk hsz),
   fun p cap W => callsIn_wide.2 (AnyM.slices_Sort_int_none Tryz.sortA p cap W)⟩

set_option maxHeartbeats 2000000 in
set_option maxRecDepth 100000 in
theorem Zgp {H : Type} (b nn : Nat) (D0 : DataW H) (R : Value → Option (DataW H × List MemPlace)) (w : World) (hown : w.ownsMap Tryz.prog 3 R b nn D0) (hmax : Maps.size D0 ≤ maxLen) (hbytes : Maps.size D0 * 8 ≤ 140737488355328) :
    Calls Tryz.prog 48 #[.map (some b)] w fun e w' => ∃ (v : Value) (ss : List Int), e = .returned v ∧ ss.Perm (intKeys D0) ∧
      w'.ownsRow w.heap.size 3 1 v ss.length ((ss.mergeSort (fun x y => decide (x ≤ y))).map encZ) ∧ (v = .slice none 0 0 ↔ ss = []) ∧ Below w.heap.size w w' := by
  refine (callsIn_wide (n := 6)).1 ?_
  have hbl := hown.lt
  have hseq : SeqGives Fence.wide 2 Tryz.prog 85 #[.pointer (some ⟨w.heap.size, 0, none⟩)] encZ (fun ss => ss.Perm (intKeys D0)) (Maps.size D0) (w.alloc (.cells #[.map (some b)] 70)) :=
    AnyZI.keys_gives (ρ := Tryz.keysA_ren) { Tryz.keysA with } Fence.wide _ trivial rfl (by omega) w.heap.size b nn D0 _ (by simp) (by simp) (by
      obtain ⟨es, clock, hb, Ft, hs, hD⟩ := hown
      exact ⟨es, clock, (Below.heap_alloc _ _ b hbl).trans hb, Ft, hs, hD⟩)
  have cK : ∀ mb W, CallsIn Fence.wide 5 Tryz.prog 74 #[.map mb] W fun e w' => e = .returned (.func (.func 85) #[] #[.pointer (some ⟨W.heap.size, 0, none⟩)]) ∧ w' = W.alloc (.cells #[.map mb] 70) := fun mb W => AnyZI.keys_in Tryz.keysA Fence.wide 5 trivial rfl mb W
  have cS := AnyZI.sorted_in Tryz.sortedA Fence.wide 5 trivial trivial trivial trivial rfl (by omega) (sortsA _) (enters_of Tryz.func84 (by kernel_rfl) rfl) 85 #[.pointer (some ⟨w.heap.size, 0, none⟩)] trivial (enters_of Tryz.func85 (by kernel_rfl) rfl) _ _ hmax hbytes _ hseq
  change CallsIn _ _ Tryz.prog 73 _ _ _ at cS
  have hfK : Fence.wide.fn 74 := trivial
  have hfS : Fence.wide.fn 73 := trivial
  refine callsIn_of_wp Tryz.func48 rfl trivial ?_ rfl
  simp only [Tryz.ntmps48, List.size_toArray, List.length_cons, List.length_nil, Nat.reduceAdd, Nat.reduceSub, Array.replicate_succ, Array.replicate_zero, List.push_toArray, List.append_toArray, List.nil_append, List.cons_append]
  gi_wp2_with (first
    | (gi_at_call 74; refine (cK _ _).mono ?_; rintro e w' ⟨rfl, rfl⟩)
    | (gi_at_call 73; refine cS.mono ?_; rintro e w' ⟨v, ss, rfl, hS, hrow, hnil, hb⟩))
  go_ret
  exact ⟨v, ss, rfl, hS, ownsRow_base_a hrow (by simp), hnil, ((Below.refl _ w).alloc (Nat.le_refl _) _).trans (hb.mono (by simp))⟩

theorem Zgs {w : World} {M : Nat} {xs : List Int} {S : Nat → Prop} {lo : Nat} (hi : (OB.set keyI M xs).inv lo S w) (hx : ∀ x ∈ xs, (Lit.int .i64 x).wf = true) (hl : xs.length ≤ maxLen) :
    ∃ D0 : DataW Unit, w.ownsMap Tryz.prog 3 (plainElem Tryz.prog 4) M xs.length D0 ∧ (intKeys D0).Perm xs ∧ Maps.size D0 = xs.length := by
  obtain ⟨_, Lv, ⟨es, clock, hm, hE, hN, hB, hC⟩, hR⟩ := hi
  have key : ∀ (xs : List Int) (Lv : List (Int × Value)), RelM S w (fun b : Bool => AV.bool b) (xs.map fun x => (x, true)) Lv → Lv = xs.map fun x => (x, .bool true) := by
    intro xs
    induction xs with
    | nil => intro Lv h; cases Lv with | nil => rfl | cons _ _ => exact h.elim
    | cons x xs ih =>
      intro Lv h
      cases Lv with
      | nil => exact h.elim
      | cons q Lv =>
        obtain ⟨h1, h2, h3⟩ := h
        rw [ih Lv h3, List.map_cons]
        obtain ⟨a, b⟩ := q
        simp only at h1 h2
        rw [h1, h2.lit]
  have hLv := key xs Lv hR
  subst hLv
  have hE' : es.toList.map (fun e => (e.key, e.val)) = xs.map fun x => (Value.int .i64 x, Value.bool true) := by
    rw [hE, List.map_map]; rfl
  have hkeys : es.toList.map (·.key) = xs.map fun x => Value.int .i64 x := by
    have := congrArg (List.map Prod.fst) hE'
    simpa [Function.comp_def] using this
  have hnd : xs.Nodup := by simpa [Function.comp_def] using hN
  have hsz : es.size = xs.length := by
    have := congrArg List.length hE'
    simpa using this
  have hrd : ∀ e ∈ es.toList, ∃ x ∈ xs, e.key = .int .i64 x ∧ e.val = .bool true := fun e he => by
    have : (e.key, e.val) ∈ es.toList.map (fun e => (e.key, e.val)) := List.mem_map_of_mem he
    rw [hE'] at this
    obtain ⟨x, hx, hxe⟩ := List.mem_map.1 this
    simp only [Prod.mk.injEq] at hxe
    exact ⟨x, hx, hxe.1.symm, hxe.2.symm⟩
  have hone : ∀ e ∈ es.toList, ∀ x, x ∈ xs → e.key = .int .i64 x → e.val = .bool true → Go.WideElems.rd (H := Unit) Tryz.prog 3 (plainElem Tryz.prog 4) e = some (.int .i64 x, .lit (.bool true)) := fun e _ x hxx h1 h2 => by
    unfold Go.WideElems.rd
    rw [h1, h2, Maps.keyOf_int_mk Tryz.underlying3 (hx x hxx), plainElem_bool Tryz.underlying4]
    rfl
  have hmap : es.toList.map (Go.WideElems.rg (H := Unit) Tryz.prog 3 (plainElem Tryz.prog 4)) = xs.map fun x => (Lit.int .i64 x, DataW.lit (.bool true)) := by
    have e1 : es.toList.map (Go.WideElems.rg (H := Unit) Tryz.prog 3 (plainElem Tryz.prog 4)) = (es.toList.map (fun e => (e.key, e.val))).map fun p => (match p.1 with | .int _ x => Lit.int .i64 x | _ => .bool false, DataW.lit (.bool true)) := by
      rw [List.map_map]
      refine List.map_congr_left fun e he => ?_
      obtain ⟨x, hxx, h1, h2⟩ := hrd e he
      unfold Go.WideElems.rg
      rw [hone e he x hxx h1 h2]
      simp [h1]
    rw [e1, hE', List.map_map]
    rfl
  refine ⟨.map ((es.toList.map (Go.WideElems.rg Tryz.prog 3 (plainElem Tryz.prog 4))).foldr DataW.insert []), ⟨es, clock, hm, ⟨by rw [hsz]; exact hl, ⟨hC, ?_, ?_⟩, fun e he => ?_⟩, Nat.le_of_eq hsz, rfl⟩, ?_, ?_⟩
  · exact hB.imp fun h => Nat.ne_of_lt h
  · rw [hkeys]
    exact (List.pairwise_map.2 (hnd.imp fun hne e => hne (by simpa using e)))
  · obtain ⟨x, hxx, h1, h2⟩ := hrd e he
    exact ⟨_, hone e he x hxx h1 h2⟩
  · have hp := Go.WideShapes.sorted_perm (es.toList.map (Go.WideElems.rg (H := Unit) Tryz.prog 3 (plainElem Tryz.prog 4)))
    have := hp.map fun p => Go.intOf p.1
    refine this.trans ?_
    rw [hmap, List.map_map]
    exact List.Perm.of_eq (by rw [show ((fun p : Lit × DataW Unit => Go.intOf p.1) ∘ fun x => (Lit.int .i64 x, DataW.lit (.bool true))) = id from rfl, List.map_id])
  · have hp := (Go.WideShapes.sorted_perm (es.toList.map (Go.WideElems.rg (H := Unit) Tryz.prog 3 (plainElem Tryz.prog 4)))).length_eq
    have : Maps.size (DataW.map ((es.toList.map (Go.WideElems.rg (H := Unit) Tryz.prog 3 (plainElem Tryz.prog 4))).foldr DataW.insert [])) = ((es.toList.map (Go.WideElems.rg (H := Unit) Tryz.prog 3 (plainElem Tryz.prog 4))).foldr DataW.insert []).length := rfl
    rw [this, hp, hmap, List.length_map]

theorem ZgK {J : World → Prop} (hJ : Stab J) (M : Nat) (xs : List Int) (hx : ∀ x ∈ xs, 0 ≤ x ∧ x < 1000) (hl : xs.length ≤ 1000) : FnR Tryz.prog J 48 [OB.set keyI M xs] [.lit (.map (some M))] (.rd (ZG (Y3 xs))) := by
  intro S w vs hS hJ0 hH ha
  simp only [RelL] at ha
  obtain ⟨u, us, rfl, h1, rfl⟩ := ha
  rw [h1.lit]
  obtain ⟨lo, hi⟩ := hH _ (List.mem_singleton.2 rfl)
  obtain ⟨D0, hown, hp, hsz⟩ := Zgs hi (fun x hxx => by have := hx x hxx; simp [Lit.wf, IntKind.min, IntKind.max, IntKind.bits, IntKind.signed]; omega) (by unfold maxLen; omega)
  refine (Zgp M xs.length D0 _ w hown (by rw [hsz]; unfold maxLen; omega) (by rw [hsz]; omega)).mono fun e w' ⟨v, ss, he, hS', hrow, _, hb⟩ => ?_
  have hk : Keeps All w w' := (Keeps.of_below hb).sub fun k hk _ => hk
  have e0 : ss.mergeSort (fun x y => decide (x ≤ y)) = Y3 xs := mergeSort_of_perm_i (hS'.trans hp)
  rw [e0] at hrow
  have hlen : (Y3 xs).length = ss.length := by rw [← e0, List.length_mergeSort]
  refine ⟨v, he, ?_, hk, hJ w w' hk hJ0⟩
  have hinv : (OB.row v 3 1 ((Y3 xs).map Yq)).inv w.heap.size S w' := ⟨(Y3 xs).map encZ, by rw [List.length_map, hlen]; exact hrow, ?_, fun r hr => by obtain ⟨x, _, rfl⟩ := List.mem_map.1 hr; rfl⟩
  · exact Zdf (fun k hk => hS k ((OB.row v 3 1 ((Y3 xs).map Yq)).lt hinv k hk).1) hinv
  · generalize Y3 xs = l
    induction l with
    | nil => trivial
    | cons x l ih => exact ⟨.lit _ True.intro, ih⟩
end Go.Proofs.YtnpgmdffjemnbaaGreatDoor
namespace Go.Proofs.YtnpgmdffjemnbaaGreatDoor

def isC (s : ByteArray) (x : ByteArray) : Bool := decide (s = x)
theorem Zjd {l : List ByteArray} (h0 : 0 < l.length) (h1 : ge l 0 = ⟨#[40]⟩) : YE l = (l.drop 1).takeWhile fun s => !decide (s = ⟨#[41]⟩) := by
  rw [YE, if_pos (by simp [h0, h1])]
theorem ZmF {α : Type} {p : α → Bool} : ∀ {xs : List α}, (∀ x ∈ xs, p x = true) → xs.takeWhile p = xs
  | [], _ => rfl
  | x :: xs, h => by rw [List.takeWhile_cons_of_pos (h x (by simp)), ZmF fun y hy => h y (by simp [hy])]
theorem tw_hit {xs : List ByteArray} {c : ByteArray} (h : 0 ≤ YD (isC c) xs) : xs.take (YD (isC c) xs).toNat = xs.takeWhile fun s => !decide (s = c) := by
  obtain ⟨_, h3, h4, h5⟩ := XD (p := isC c) (xs := xs) (by omega)
  refine QY (Nat.le_of_lt h3) (fun j hj => ?_) fun ⟨_, h⟩ => ?_
  · have := h5 j hj
    simp only [isC, decide_eq_false_iff_not] at this
    simpa using fun e => this e.symm
  · simp only [isC, decide_eq_true_eq] at h4
    rw [Bool.not_eq_true', decide_eq_false_iff_not] at h
    exact h h4.symm
theorem Znd {xs : List ByteArray} {c : ByteArray} (h : ¬ 0 ≤ YD (isC c) xs) : xs = xs.takeWhile fun s => !decide (s = c) := by
  have h2 : YD (isC c) xs = -1 := Classical.byContradiction fun hn => h (XD hn).1
  symm
  refine ZmF fun x hx => ?_
  unfold YD at h2
  cases hf : xs.findIdx? (isC c) with
  | some i => rw [hf] at h2; simp at h2
  | none =>
    rw [List.findIdx?_eq_none_iff] at hf
    have := hf _ hx
    simp only [isC, decide_eq_false_iff_not] at this
    simpa using fun e => this e.symm
theorem ZdQ {l : List ByteArray} (h0 : 0 < l.length) (h1 : ge l 0 = ⟨#[40]⟩) (h : 0 ≤ YD (isC ⟨#[41]⟩) (l.drop 1)) : (l.drop 1).take (YD (isC ⟨#[41]⟩) (l.drop 1)).toNat = YE l := by rw [Zjd h0 h1, tw_hit h]
theorem Zcp {l : List ByteArray} (h0 : 0 < l.length) (h1 : ge l 0 = ⟨#[40]⟩) (h : ¬ 0 ≤ YD (isC ⟨#[41]⟩) (l.drop 1)) : l.drop 1 = YE l := by rw [Zjd h0 h1]; exact Znd h

def AtI (d : Db) (k : Nat) (L : List (ByteArray × Int)) : Prop := ∀ s j, Zq L s = some j ↔ ∃ p, p < k ∧ j = (p : Int) ∧ (ge d.frames p).label = s
def Zih (d : Db) (k : Nat) (ws : List ByteArray) (xs : List Int) : Prop := xs.Nodup ∧ ∀ x, x ∈ xs ↔ ∃ p, p < k ∧ x = (p : Int) ∧ (ge d.frames p).label ∈ ws
theorem ZkA (d : Db) (k : Nat) : Zih d k [] [] := ⟨.nil, fun x => by simp⟩
theorem Zdn {xs : List Int} {k : Int} (h : xs.Nodup) : (Z5 xs k).Nodup := by
  unfold Z5
  split
  · exact h
  · rename_i hk
    rw [List.nodup_append]
    exact ⟨h, by simp, fun x hx y hy e => by rw [List.mem_singleton.1 hy] at e; subst e; exact hk hx⟩
theorem Zgu {d : Db} {k : Nat} {L : List (ByteArray × Int)} {ws : List ByteArray} {xs : List Int} {w : ByteArray} (hL : AtI d k L) (h : Zih d k ws xs) (hs : (Zq L w).isSome = true) (hd : ∀ p q, p < k → q < k → (ge d.frames p).label = (ge d.frames q).label → p = q) :
    Zih d k (ws ++ [w]) (Z5 xs ((Zq L w).getD default)) := by
  obtain ⟨j, hj⟩ := Option.isSome_iff_exists.1 hs
  rw [hj, Option.getD_some]
  obtain ⟨p, h1, h2, h3⟩ := (hL w j).1 hj
  refine ⟨Zdn h.1, fun x => ?_⟩
  rw [mem_addS, h.2 x]
  constructor
  · rintro (⟨q, g1, g2, g3⟩ | rfl)
    · exact ⟨q, g1, g2, by simp [g3]⟩
    · exact ⟨p, h1, h2, by simp [h3]⟩
  · rintro ⟨q, g1, g2, g3⟩
    rcases List.mem_append.1 g3 with g3 | g3
    · exact .inl ⟨q, g1, g2, g3⟩
    · right
      rw [g2, h2, hd q p g1 h1 (by rw [h3]; exact List.mem_singleton.1 g3)]
theorem Zew {d : Db} {k : Nat} {L : List (ByteArray × Int)} {ws : List ByteArray} {xs : List Int} {w : ByteArray} (hL : AtI d k L) (h : Zih d k ws xs) (hs : (Zq L w).isSome = false) : Zih d k (ws ++ [w]) xs := by
  refine ⟨h.1, fun x => ?_⟩
  rw [h.2 x]
  constructor
  · rintro ⟨q, g1, g2, g3⟩; exact ⟨q, g1, g2, by simp [g3]⟩
  · rintro ⟨q, g1, g2, g3⟩
    rcases List.mem_append.1 g3 with g3 | g3
    · exact ⟨q, g1, g2, g3⟩
    · exfalso
      have := (hL w (q : Int)).2 ⟨q, g1, rfl, List.mem_singleton.1 g3⟩
      rw [this] at hs
      cases hs
theorem Zep (d : Db) (ws : List ByteArray) (k : Nat) : (Qt d ws k).Pairwise (· < ·) := by
  unfold Qt
  rw [List.pairwise_map]
  refine List.Pairwise.imp (R := (· < ·)) (fun {a b} h => by omega) ?_
  exact List.pairwise_lt_range.filter _
theorem ZaR {xs ys : List Int} (h1 : xs.Nodup) (h2 : ys.Pairwise (· < ·)) (h : ∀ x, x ∈ xs ↔ x ∈ ys) : Y3 xs = ys := by
  have hn : ys.Nodup := h2.imp fun h => by omega
  have hp : xs.Perm ys := (List.perm_ext_iff_of_nodup h1 hn).2 h
  refine (mergeSort_of_perm_i hp).trans ?_
  exact List.mergeSort_of_pairwise (h2.imp fun h => by simp [leI]; omega)
theorem Zco : ∀ {xs ys : List Int}, xs.Nodup → (∀ x ∈ xs, x ∈ ys) → xs.length ≤ ys.length
  | [], _, _, _ => by simp
  | x :: xs, ys, h, hs => by
    have h1 := List.nodup_cons.1 h
    have h2 := Zco (xs := xs) (ys := ys.erase x) h1.2 fun z hz => by
      have hne : z ≠ x := fun e => h1.1 (e ▸ hz)
      exact (List.mem_erase_of_ne hne).2 (hs z (by simp [hz]))
    have h3 := List.length_erase_of_mem (hs x (by simp))
    have h4 : 0 < ys.length := List.length_pos_of_mem (hs x (by simp))
    simp only [List.length_cons]
    omega
theorem Zgt {d : Db} {k : Nat} {ws : List ByteArray} {xs : List Int} (h : Zih d k ws xs) : (∀ x ∈ xs, 0 ≤ x ∧ x < k) ∧ xs.length ≤ k := by
  have h1 : ∀ x ∈ xs, 0 ≤ x ∧ x < k := fun x hx => by obtain ⟨p, g1, g2, _⟩ := (h.2 x).1 hx; omega
  refine ⟨h1, ?_⟩
  have h4 := Zco h.1 (ys := (List.range k).map fun (p : Nat) => (p : Int)) fun x hx => by
    have := h1 x hx
    rw [List.mem_map]
    exact ⟨x.toNat, by rw [List.mem_range]; omega, by omega⟩
  simpa using h4
theorem ZjO {d : Db} (h : Yz d = 0) : ∀ k, k < d.frames.length → frE d k = 0 := by
  unfold Yz at h
  split at h
  · simp at h
  · split at h
    · rename_i h1; simp [h] at h1
    · exact Zao h
theorem ZnM {d : Db} {k : Nat} (h : frE d k = 0) : frL d k (ge d.frames k).label = false := by
  unfold frE Zbi at h
  by_cases h1 : (!Q8 (ge d.frames k).label) = true
  · rw [if_pos h1] at h; exact absurd h (by decide)
  rw [if_neg h1] at h
  by_cases h2 : ((frL d k (ge d.frames k).label || hyL d k (ge d.frames k).label) || Zag d (ge d.frames k).label) = true
  · rw [if_pos h2] at h; exact absurd h (by decide)
  simp only [Bool.or_eq_true, not_or, Bool.not_eq_true] at h2
  exact h2.1.1
theorem ZnL {d : Db} {k : Nat} (h : frE d k = 0) : (ge d.frames k).thm = false → (ge d.frames k).proof = [] := fun ht => by
  refine Classical.byContradiction fun hn => ?_
  have hp : 0 < (ge d.frames k).proof.length := List.length_pos_iff.2 hn
  unfold frE Zbi at h
  by_cases h1 : (!Q8 (ge d.frames k).label) = true
  · rw [if_pos h1] at h; exact absurd h (by decide)
  rw [if_neg h1] at h
  by_cases h2 : ((frL d k (ge d.frames k).label || hyL d k (ge d.frames k).label) || Zag d (ge d.frames k).label) = true
  · rw [if_pos h2] at h; exact absurd h (by decide)
  rw [if_neg h2] at h
  by_cases h3 : (decide ((40 : Int) < (((ge d.frames k).hyps.length : Nat) : Int)) || decide ((40 : Int) < (((ge d.frames k).dummies.length : Nat) : Int))) = true
  · rw [if_pos h3] at h; exact absurd h (by decide)
  rw [if_neg h3] at h
  by_cases h4 : (!decide (Zke d k = 0)) = true
  · rw [if_pos h4] at h; simp [h] at h4
  rw [if_neg h4] at h
  by_cases h5 : (decide ((((ge d.frames k).text.length : Nat) : Int) = 0) || decide (200 < (((ge d.frames k).text.length : Nat) : Int))) = true
  · rw [if_pos h5] at h; exact absurd h (by decide)
  rw [if_neg h5] at h
  by_cases h6 : (!decide (XJ d (ge d.frames k).text = 0)) = true
  · rw [if_pos h6] at h; simp [h] at h6
  rw [if_neg h6] at h
  by_cases h7 : (!ZaI d (ge d.frames k)) = true
  · rw [if_pos h7] at h; exact absurd h (by decide)
  rw [if_neg h7, if_pos (by rw [ht, decide_eq_true (show (0 : Int) < (((ge d.frames k).proof.length : Nat) : Int) by omega)]; rfl)] at h
  exact absurd h (by decide)
theorem Zm1 {d : Db} (h : Yz d = 0) {p q : Nat} (hpq : p < q) (hq : q < d.frames.length) : (ge d.frames p).label ≠ (ge d.frames q).label := fun e => by
  have := ZnM (ZjO h q hq)
  unfold frL at this
  rw [List.any_eq_false] at this
  refine this (ge d.frames p) ?_ (by simp [e])
  have e2 : ge (d.frames.take q) p = ge d.frames p := by simp [ge, List.getD_eq_getElem?_getD, hpq]
  rw [← e2]
  exact Zb (by rw [List.length_take]; omega)
theorem ZfQ {d : Db} (h : Yz d = 0) {p q : Nat} (hp : p < d.frames.length) (hq : q < d.frames.length) (e : (ge d.frames p).label = (ge d.frames q).label) : p = q := by
  rcases Nat.lt_trichotomy p q with h1 | h1 | h1
  · exact absurd e (Zm1 h h1 hq)
  · exact h1
  · exact absurd e.symm (Zm1 h h1 hp)
theorem Zmy (d : Db) : AtI d 0 [] := fun s j => by simp [X7]
theorem Zmz {d : Db} (h : Yz d = 0) {k : Nat} (hk : k < d.frames.length) {L : List (ByteArray × Int)} (hL : AtI d k L) : AtI d (k + 1) (Ql L (ge d.frames k).label (k : Int)) := fun s j => by
  rw [XC]
  by_cases e : s = (ge d.frames k).label
  · rw [if_pos e]
    constructor
    · intro hj
      exact ⟨k, by omega, by simpa using hj.symm, e.symm⟩
    · rintro ⟨p, h1, h2, h3⟩
      have : p = k := ZfQ h (by omega) hk (by rw [h3, e])
      rw [h2, this]
  · rw [if_neg e, hL s j]
    constructor
    · rintro ⟨p, h1, h2, h3⟩; exact ⟨p, by omega, h2, h3⟩
    · rintro ⟨p, h1, h2, h3⟩
      refine ⟨p, ?_, h2, h3⟩
      rcases Nat.lt_or_ge p k with h4 | h4
      · exact h4
      · have : p = k := by omega
        subst this
        exact absurd h3.symm e
theorem Zkm {d : Db} (h : Yz d = 0) {k : Nat} (hk : k < d.frames.length) {xs : List Int} (hx : Zih d k (YE (ge d.frames k).proof) xs) : Y3 xs = ZN d k := by
  unfold ZN
  by_cases ht : (ge d.frames k).thm = true
  · rw [if_pos ht]
    refine ZaR hx.1 (Zep _ _ _) fun x => ?_
    rw [hx.2 x, Qt, List.mem_map]
    constructor
    · rintro ⟨p, h1, h2, h3⟩
      exact ⟨p, by rw [List.mem_filter, List.mem_range]; exact ⟨h1, by simpa using h3⟩, h2.symm⟩
    · rintro ⟨p, h1, h2⟩
      rw [List.mem_filter, List.mem_range] at h1
      exact ⟨p, h1.1, h2.symm, by simpa using h1.2⟩
  · rw [if_neg ht]
    have hp := ZnL (ZjO h k hk) (by simpa using ht)
    have : xs = [] := by
      refine List.eq_nil_iff_forall_not_mem.2 fun x hx' => ?_
      obtain ⟨p, _, _, h3⟩ := (hx.2 x).1 hx'
      rw [hp] at h3
      simp [YE] at h3
    rw [this]; simp [Y3]
def usL (d : Db) (k : Nat) : List (List Int) := (List.range k).map fun i => ZN d i
theorem ZbO (d : Db) (k : Nat) : usL d (k + 1) = usL d k ++ [ZN d k] := by rw [usL, List.range_succ, List.map_append]; rfl
theorem YA (d : Db) (k : Nat) : (usL d k).length = k := by simp [usL]
theorem Zc7 {d : Db} {n k : Nat} (h : k < n) : ge (usL d n) k = ZN d k := by
  rw [XR (by rw [YA]; exact h)]
  simp [usL]
def rdE (d : Db) (ns : List Int) : Int := if !decide (Yz d = 0) then Yz d else if ns.any fun i => decide (i < 0) || decide (((d.frames.length : Nat) : Int) ≤ i) then 3 else 0
theorem Zch (d : Db) (i : Int) : rdE d [i] = QV d i := by simp [rdE, QV]
theorem ZaD (d : Db) : rdE d [] = Yz d := by
  unfold rdE
  split
  · rfl
  · rename_i h
    simp at h
    simp [h]
end Go.Proofs.YtnpgmdffjemnbaaGreatDoor
set_option maxHeartbeats 8000000
set_option maxRecDepth 100000
namespace Go.Proofs.YtnpgmdffjemnbaaGreatDoor
open Go.RowKit

theorem Zk0 {J : World → Prop} (hJ : Stab J) (xs : List ByteArray) (s : ByteArray)  : Fn Tryz.prog J 82 [.rd (Zg xs), .str s] (.int (YD (isC s) xs)) := by
 refine Zx (N := 19) Tryz.func82 rfl rfl (lb rfl) fun S w0 hS hJ0 => ?_
 clear hJ0
 refine Zf (fun a w h => Zj h 0 rfl) fun hl1 => Za (rg tb hJ [0, 1] [_] [] [(_, _), (_, _)] rfl rfl rfl rfl trivial (nx (Za (Za (rg tb hJ [0, 1, 1001, 1002] [_, _, _] [1] [(_, _), (_, _), (_, .int xs.length), (_, .int (0 : Int))] rfl rfl rfl rfl ⟨Ys ZB rfl rfl rfl rfl, trivial⟩ (nx (Ze (Zw (ι := Nat) (fun (k : Nat) a w => ((k ≤ xs.length) ∧ (∀ j, j < k → isC s (ge xs j) = false)) ∧ St All S w0 19 [(0, .rd (Zg xs)), (1, .str s), (7, .int xs.length), (8, .int k)] J a w) (fun (k : Nat) => (xs.length - k : Nat)) ?_ ?_))))))))
 intro a w h
 exact ⟨0, (show (0 ≤ xs.length) ∧ (∀ j, j < 0 → isC s (ge xs j) = false) from ⟨Nat.zero_le _, fun j hj => by omega⟩), lz [0, 1, 2, 3] rfl h⟩
 rintro k
 refine ZD fun hF => ?_
 obtain ⟨f1_1, f1_2⟩ := hF
 refine Za (rg tb hJ [0, 1, 2, 3, 1000] [_] [] [(_, _), (_, _), (_, _), (_, _), (_, .bool (decide ((k : Int) < (xs.length : Int))))] rfl rfl rfl rfl trivial (nx (Za (tc 4 rfl rfl (fun hb1 => ?_) (fun hb1 => ?_)))))
 try simp at hb1
 refine Zd (nx (Za (Ze (Za (rg tb hJ [0, 1, 2, 3, 1001] [_, _] [] [(_, _), (_, _), (_, _), (_, _), (_, .int k)] rfl rfl rfl rfl trivial (nx (Za (rg tb hJ [0, 1, 2, 3, 4, 1005] [_, _, _, .ptr [.lit (.string (ge xs k))], _, _] [3] [(_, _), (_, _), (_, _), (_, _), (_, _), (_, .bool (decide (s = (ge xs k))))] rfl rfl rfl rfl ⟨hIx Zk (by first | omega | (simp; omega) | grind [Zb]) rfl rfl rfl rfl rfl rfl, trivial⟩ (nx (tc 5 rfl rfl (fun hb2 => ?_) (fun hb2 => ?_)))))))))))
 try simp at hb2
 refine Za (rg tb hJ [1001] [_, _] [] [(_, .int k)] rfl rfl rfl rfl trivial (nx (Zi (fun a w h => Zh (m := 0) rfl h rfl (congrArg AV.int (show (k : Int) = (YD (isC s) xs) from by first | exact (Y1 hb1 (by simpa [isC] using hb2) f1_2).symm | exact (YJ fun j hj => f1_2 j (by omega)).symm))))))
 try simp at hb2
 refine Zd (nx (rg tb hJ [0, 1, 2, 1001] [.int ((k + 1 : Nat) : Int), _] [0] [(_, _), (_, _), (_, _), (_, .int ((k + 1 : Nat) : Int))] rfl rfl rfl rfl ⟨Yc (by first | omega | (simp; omega) | grind [Zb]) rfl rfl rfl rfl rfl, trivial⟩ ?_))
 intro a w h; change ∃ j, _ ∧ _
 exact ⟨k + 1, ⟨⟨(show (k + 1) ≤ xs.length from by omega), (show ∀ j, j < (k + 1) → isC s (ge xs j) = false from ZW f1_2 (by simpa [isC] using hb2))⟩, lz [0, 1, 2, 3] rfl h⟩, (show xs.length - (k + 1) < xs.length - k from by first | omega | (simp; omega))⟩
 try simp at hb1
 refine Zv (nx (Za (rg tb hJ [1000] [_] [] [(_, .int (-1 : Int))] rfl rfl rfl rfl trivial (nx (Zi (fun a w h => Zh (m := 0) rfl h rfl (congrArg AV.int (show (-1 : Int) = (YD (isC s) xs) from by first | exact (Y1 hb1 (by simpa [isC] using hb2) f1_2).symm | exact (YJ fun j hj => f1_2 j (by omega)).symm))))))))
theorem Znv {J : World → Prop} (hJ : Stab J) (l : List ByteArray)  : Fn Tryz.prog J 71 [.rd (Zg l)] (.rd (Zg (YE l))) := by
 refine Zx (N := 25) Tryz.func71 rfl rfl (lb rfl) fun S w0 hS hJ0 => ?_
 clear hJ0
 refine Zf (fun a w h => Zj h 0 rfl) fun hl1 => Za (rg tb hJ [0] [_] [] [(_, _)] rfl rfl rfl rfl trivial (nx (Za (Za (rg tb hJ [0, 1008] [_, .int l.length, _, _, _, .ptr [.lit (.string (ge l 0))], _, _, _] [1, 5] [(_, _), (_, .bool ((decide ((l.length : Int) = (0 : Int))) || (!decide ((ge l 0) = (⟨#[40]⟩ : ByteArray)))))] rfl rfl rfl rfl ⟨Ys ZB rfl rfl rfl rfl, fun _ _ _ hx hl hc => ZI (i := ((0 : Nat) : Int)) Zk rfl (hl.dep 4 9 _ rfl rfl rfl hc) (Rel.of_lit (Go.Value.int Go.IntKind.i64 0)) (Int.natCast_nonneg _) (ZL (xs := l) (k := 0) (by have hc' : ((decide ((l.length : Int) = (0 : Int))) == false) = true := hc; (try simp at hc'); (first | omega | (simp; omega) | grind [Zb]))) rfl hx, trivial⟩ (nx (tc 1 rfl rfl (fun hb1 => ?_) (fun hb1 => ?_))))))))
 refine Za (rg tb hJ [1001] [_, _] [] [(_, .rd (Zg l))] rfl rfl rfl rfl trivial (nx (Zi (fun a w h => Zh (m := 0) rfl h rfl (congrArg (fun z => AV.rd (Zg z)) (show l = (YE l) from by first | exact QC (fun h0 h1 => by rw [h1, decide_eq_false (by omega)] at hb1; exact absurd hb1 (by decide)) | exact ZdQ e1.1 e1.2 (of_decide_eq_true hb2) | exact Zcp e1.1 e1.2 (of_decide_eq_false hb2)))))))
 have e1 : 0 < l.length ∧ ge l 0 = ⟨#[40]⟩ := by simp only [Bool.or_eq_false_iff, decide_eq_false_iff_not, Bool.not_eq_false', decide_eq_true_eq] at hb1; exact ⟨by omega, hb1.2⟩
 refine Zd (nx (Za (rg tb hJ [1001, 1002] [_, _, _] [1] [(_, .rd (Zg (l.drop 1))), (_, .rd (Zg (l.drop 1)))] rfl rfl rfl rfl ⟨fun _ _ _ hx hl _ => Xb (ys := l.drop 1) (lo := 1) (hi := l.length) (by rw [List.take_length]) Zk (fun _ => rfl) rfl (hl.dep 0 15 _ rfl rfl rfl rfl) (Rel.of_lit (Go.Value.int Go.IntKind.i64 1)) rfl (by omega) (by omega) hx, trivial⟩ (nx (Zf (fun a w h => Zj h 0 rfl) fun hl2 => Za (Za (rg tb hJ [1, 1002] [_, .int (YD (isC (⟨#[41]⟩ : ByteArray)) (l.drop 1)), _] [1] [(_, _), (_, .int (YD (isC (⟨#[41]⟩ : ByteArray)) (l.drop 1)))] rfl rfl rfl rfl ⟨hFn hS hJ (Zk0 hJ (xs := (l.drop 1)) (s := (⟨#[41]⟩ : ByteArray)) ) Zob rfl rfl rfl rfl, trivial⟩ (nx (Za (rg tb hJ [0, 1, 1001] [_, _] [] [(_, _), (_, _), (_, .bool (decide ((0 : Int) ≤ YD (isC (⟨#[41]⟩ : ByteArray)) (l.drop 1))))] rfl rfl rfl rfl trivial (nx ?_)))))))))))
 refine tc 2 rfl rfl (fun hb2 => ?_) (fun hb2 => ?_)
 refine Za ?_
 refine tw (sa 1 rfl (congrArg AV.int (show YD (isC (⟨#[41]⟩ : ByteArray)) (l.drop 1) = (((YD (isC ⟨#[41]⟩) (l.drop 1)).toNat : Nat) : Int) from by have := of_decide_eq_true hb2; omega))) ?_
 refine rg tb hJ [1002, 1003] [_, _, _, _] [2] [(_, .rd (Zg ((l.drop 1).take ((YD (isC ⟨#[41]⟩) (l.drop 1)).toNat)))), (_, .rd (Zg ((l.drop 1).take ((YD (isC ⟨#[41]⟩) (l.drop 1)).toNat))))] rfl rfl rfl rfl ⟨fun _ _ _ hx hl _ => Xb (ys := (l.drop 1).take ((YD (isC ⟨#[41]⟩) (l.drop 1)).toNat)) (lo := 0) (hi := (YD (isC ⟨#[41]⟩) (l.drop 1)).toNat) List.drop_zero Zk (fun _ => rfl) rfl (hl.dep 0 21 _ rfl rfl rfl rfl) rfl (hl.dep 1 22 _ rfl rfl rfl rfl) (by have := (XD (p := isC ⟨#[41]⟩) (xs := l.drop 1) (by have := of_decide_eq_true hb2; omega)).2.1; omega) (by have := (XD (p := isC ⟨#[41]⟩) (xs := l.drop 1) (by have := of_decide_eq_true hb2; omega)).2.1; omega) hx, trivial⟩ (nx (Zf (fun a w h => Zj h 0 rfl) fun hl3 => Zi (fun a w h => Zh (m := 1) rfl h rfl (congrArg (fun z => AV.rd (Zg z)) (show ((l.drop 1).take ((YD (isC ⟨#[41]⟩) (l.drop 1)).toNat)) = (YE l) from by first | exact QC (fun h0 h1 => by rw [h1, decide_eq_false (by omega)] at hb1; exact absurd hb1 (by decide)) | exact ZdQ e1.1 e1.2 (of_decide_eq_true hb2) | exact Zcp e1.1 e1.2 (of_decide_eq_false hb2))))))
 refine Zd (nx (Za (rg tb hJ [1001] [_, _] [] [(_, .rd (Zg (l.drop 1)))] rfl rfl rfl rfl trivial (nx (Zi (fun a w h => Zh (m := 0) rfl h rfl (congrArg (fun z => AV.rd (Zg z)) (show (l.drop 1) = (YE l) from by first | exact QC (fun h0 h1 => by rw [h1, decide_eq_false (by omega)] at hb1; exact absurd hb1 (by decide)) | exact ZdQ e1.1 e1.2 (of_decide_eq_true hb2) | exact Zcp e1.1 e1.2 (of_decide_eq_false hb2)))))))))
theorem ZgL {J : World → Prop} (hJ : Stab J) (d : Db) (ns : List Int) (hw : ∀ f ∈ d.frames, f.wide.length * 32 ≤ 140737488351232) (hG : X5 J) : Fn Tryz.prog J 43 [.agg (dbC d), .rd (ZG ns)] (.tup [gAV (rdE d ns) [Zg d.consts, Zg d.vars, Yn d.frames, ZF (usL d d.frames.length)], .int (rdE d ns)]) := by
 refine Zx (N := 87) Tryz.func43 rfl rfl (lb rfl) fun S w0 hS hJ0 => ?_
 refine tw Yi ?_
 refine Zf (fun a w h => Zj h 1 rfl) fun hl1 => Za (rgo tb hJ [1, 1000] [_, _, _] [0] [(_, _), (_, .ptr (dbC d))] rfl rfl rfl rfl ⟨fun _ _ hk hx hl _ => Yv rfl (hl.env 0 0 _ rfl rfl) (Zr hS _ hk hx _ (Nat.le_refl _)) (jo hJ hx), trivial⟩ (nx (Za (Za (rgo tb hJ [0, 1, 1002] [_, .int (Yz d), _] [1] [(_, _), (_, _), (_, .int (Yz d))] rfl rfl rfl rfl ⟨hFo hS hJ (ZnA hJ (d := d) (hw) (hG)) Zom rfl rfl rfl rfl, trivial⟩ (nx (Za (rgo tb hJ [0, 1, 2, 1001] [_, _] [] [(_, _), (_, _), (_, _), (_, .bool (!decide (Yz d = (0 : Int))))] rfl rfl rfl rfl trivial (nx (tc 3 rfl rfl (fun hb1 => ?_) (fun hb1 => ?_)))))))))))
 have e9 : rdE d ns = Yz d := by rw [rdE, if_pos hb1]
 have e8 : ¬ rdE d ns = 0 := by rw [e9]; exact ZaX hb1
 refine Za (rgo tb hJ [1001, 1002] [_, _, _] [] [(_, .rd (.lit (Go.Value.pointer none))), (_, .int (Yz d))] rfl rfl rfl rfl trivial (nx (Zi (fun a w h => YC (m := 0) (k := 1) rfl (Zl h) rfl rfl (show .rd (.lit (Go.Value.pointer none)) = gAV (rdE d ns) [Zg d.consts, Zg d.vars, Yn d.frames, ZF (usL d d.frames.length)] from by first | exact e9.symm | exact (Zds e8).symm | (rw [ZaA e9, f2_2, show k = d.frames.length by omega])) (congrArg AV.int (show (Yz d) = (rdE d ns) from by first | exact e9.symm | exact (Zds e8).symm | (rw [ZaA e9, f2_2, show k = d.frames.length by omega])))))))
 have e1 : Yz d = 0 := Zek hb1
 have e2 := XZ e1
 refine Zd (nx (Za (Za (rgo tb hJ [1, 1000, 1001, 1002] [_, _, _] [1] [(_, _), (_, .rd (ZG ns)), (_, .int ns.length), (_, .int (0 : Int))] rfl rfl rfl rfl ⟨Ys Yx rfl rfl rfl rfl, trivial⟩ (nx (Ze (Zw (ι := Nat) (fun (k : Nat) a w => ((k ≤ ns.length) ∧ (((ns.take k).any fun i => decide (i < 0) || decide ((d.frames.length : Int) ≤ i)) = false)) ∧ St All (SO S []) w0 87 [(2, .ptr (dbC d)), (23, .rd (ZG ns)), (24, .int ns.length), (25, .int k)] (XO J S w0.heap.size []) a w) (fun (k : Nat) => (ns.length - k : Nat)) ?_ ?_)))))))
 intro a w h
 exact ⟨0, (show (0 ≤ ns.length) ∧ (((ns.take 0).any fun i => decide (i < 0) || decide ((d.frames.length : Int) ≤ i)) = false) from ⟨Nat.zero_le _, rfl⟩), lz [0, 1, 2, 3] rfl h⟩
 rintro k
 refine ZD fun hF => ?_
 obtain ⟨f1_1, f1_2⟩ := hF
 refine Za (rgo tb hJ [0, 1, 2, 3, 1000] [_] [] [(_, _), (_, _), (_, _), (_, _), (_, .bool (decide ((k : Int) < (ns.length : Int))))] rfl rfl rfl rfl trivial (nx (Za (tc 4 rfl rfl (fun hb2 => ?_) (fun hb2 => ?_)))))
 try simp at hb2
 refine Zd (nx (Za (Ze (Za (rgo tb hJ [0, 1, 2, 3, 1002] [.ptr [.lit (.int .i64 (ge ns k))], _, _] [0] [(_, _), (_, _), (_, _), (_, _), (_, .int (ge ns k))] rfl rfl rfl rfl ⟨hIx Zo (by first | omega | (simp; omega) | grind [Zb]) rfl rfl rfl rfl rfl rfl, trivial⟩ (nx (Za (rgo tb hJ [0, 1, 2, 3, 1008] [_, _, _, _, _, _, .int d.frames.length, _, _] [6] [(_, _), (_, _), (_, _), (_, _), (_, .bool ((decide ((ge ns k) < (0 : Int))) || (decide ((d.frames.length : Int) ≤ (ge ns k)))))] rfl rfl rfl rfl ⟨fun _ _ _ hx hl hc => Yy YH rfl (hl.dep 5 34 _ rfl rfl rfl hc) hx, trivial⟩ (nx (tc 4 rfl rfl (fun hb3 => ?_) (fun hb3 => ?_)))))))))))
 try simp at hb3
 have e9 : rdE d ns = 3 := by rw [rdE, if_neg (by rw [e1]; decide), if_pos (Qj (k := k) (by omega) (by simpa using hb3))]
 have e8 : ¬ rdE d ns = 0 := by rw [e9]; decide
 refine Za (rgo tb hJ [1000, 1001] [_, _] [] [(_, .rd (.lit (Go.Value.pointer none))), (_, .int (3 : Int))] rfl rfl rfl rfl trivial (nx (Zi (fun a w h => YC (m := 0) (k := 1) rfl (Zl h) rfl rfl (show .rd (.lit (Go.Value.pointer none)) = gAV (rdE d ns) [Zg d.consts, Zg d.vars, Yn d.frames, ZF (usL d d.frames.length)] from by first | exact e9.symm | exact (Zds e8).symm | (rw [ZaA e9, f2_2, show k = d.frames.length by omega])) (congrArg AV.int (show (3 : Int) = (rdE d ns) from by first | exact e9.symm | exact (Zds e8).symm | (rw [ZaA e9, f2_2, show k = d.frames.length by omega])))))))
 try simp at hb3
 refine Zd (nx (rgo tb hJ [0, 1, 2, 1001] [.int ((k + 1 : Nat) : Int), _] [0] [(_, _), (_, _), (_, _), (_, .int ((k + 1 : Nat) : Int))] rfl rfl rfl rfl ⟨Yc (by first | omega | (simp; omega) | grind [Zb]) rfl rfl rfl rfl rfl, trivial⟩ ?_))
 intro a w h; change ∃ j, _ ∧ _
 exact ⟨k + 1, ⟨⟨(show (k + 1) ≤ ns.length from by omega), (show ((ns.take (k + 1)).any fun i => decide (i < 0) || decide ((d.frames.length : Int) ≤ i)) = false from XH (by omega) f1_2 (by simpa using hb3))⟩, lz [0, 1, 2, 3] rfl h⟩, (show ns.length - (k + 1) < ns.length - k from by first | omega | (simp; omega))⟩
 try simp at hb2
 have e9 : rdE d ns = 0 := by rw [rdE, if_neg (by rw [e1]; decide), XG f1_2 (by omega)]; rfl
 refine Zv (nx (Za (Zn (sv (av := .agg (dbC d)) tb rfl rfl rfl rfl (sq (.agg [Zg d.consts, Zg d.vars, Yn d.frames, .lit (Value.slice none 0 0)]) rfl rfl (lb rfl) (fun _ _ h => ZkM (d := d) Zj6 rfl (h.get 0 rfl) h.x) (ZiA (cs := [Zg d.consts, Zg d.vars, Yn d.frames, .lit (Value.slice none 0 0)]) hJ rfl rfl rfl (lb rfl) (fun a w h => (h.get 0 rfl)) fun b1 => ?_))))))
 refine sv tb rfl rfl rfl rfl (Zy ?_)
 refine kw (lz [0, 4] (env' := [(_, _), (_, _)]) rfl) ?_
 refine kw (YI 28 1 hJ) ?_
 refine kw pm1 ?_
 refine kw pm1 ?_
 refine kw (B := St All (SO S [OB.gr 28 b1 d ((Value.slice none 0 0), ([] : List (List Int)))]) w0 87 [(9, .at b1 0), (2, .ptr (dbC d))] (XO J S w0.heap.size [OB.gr 28 b1 d ((Value.slice none 0 0), ([] : List (List Int)))])) (fun h => Zfz h) ?_
 refine nx (Za (Zn (Zdb keyS (fun z' : Int => AV.int z') hJ rfl rfl rfl (lb rfl) fun m2 => ?_)))
 refine sv tb rfl rfl rfl rfl (Zy ?_)
 refine kw (lz [0, 2, 3] (env' := [(_, _), (_, _), (_, _)]) rfl) ?_
 refine nx (Za (Za (rgo tb hJ [0, 1, 1001, 1002, 1003] [_, _, _, _] [2] [(_, _), (_, _), (_, .rd (Yn d.frames)), (_, .int d.frames.length), (_, .int (0 : Int))] rfl rfl rfl rfl ⟨Ys YH rfl rfl rfl rfl, trivial⟩ (nx (Zf (fun a w h => Zj h 2 rfl) fun hl2 => Ze (Zw (ι := Nat × (Value × List (List Int)) × (List (ByteArray × Int))) (fun (ii' : Nat × (Value × List (List Int)) × (List (ByteArray × Int))) a w => match ii' with | (k, q, at') => ((k ≤ d.frames.length) ∧ (q.2 = usL d k) ∧ (AtI d k at')) ∧ St All (SO S [OB.map keyS (fun z' : Int => AV.int z') m2 (at'), OB.gr 28 b1 d q]) w0 87 [(10, .lit (.map (some m2))), (9, .at b1 0), (44, .rd (Yn d.frames)), (45, .int d.frames.length), (46, .int k)] (XO J S w0.heap.size [OB.map keyS (fun z' : Int => AV.int z') m2 (at'), OB.gr 28 b1 d q]) a w) (fun (ii' : Nat × (Value × List (List Int)) × (List (ByteArray × Int))) => match ii' with | (k, _, _) => (d.frames.length - k : Nat)) ?_ ?_))))))
 intro a w h
 exact ⟨(0, ((Value.slice none 0 0), ([] : List (List Int))), ([] : List (ByteArray × Int))), (show (0 ≤ d.frames.length) ∧ (((Value.slice none 0 0), ([] : List (List Int))).2 = usL d 0) ∧ (AtI d 0 ([] : List (ByteArray × Int))) from ⟨Nat.zero_le _, rfl, Zmy d⟩), lz [0, 1, 2, 3, 4] rfl h⟩
 rintro ⟨k, q, at'⟩
 refine ZD fun hF => ?_
 obtain ⟨f2_1, f2_2, f2_3⟩ := hF
 refine Za (rgo tb hJ [0, 1, 2, 3, 4, 1000] [_] [] [(_, _), (_, _), (_, _), (_, _), (_, _), (_, .bool (decide ((k : Int) < (d.frames.length : Int))))] rfl rfl rfl rfl trivial (nx (Za (tc 5 rfl rfl (fun hb4 => ?_) (fun hb4 => ?_)))))
 try simp at hb4
 refine Zd (nx (Za (Ze (Za (Zn (sv tb rfl rfl rfl rfl (sq (.ptr (frC (ge d.frames k))) rfl rfl (lb rfl) (fun _ _ h => ZI (i := (k : Int)) Ye rfl (h.get 3 rfl) (h.get 5 rfl) (Int.natCast_nonneg _) (ZL (xs := d.frames) (k := k) (by first | omega | (simp; omega) | grind [Zb])) rfl h.x) (sv (av := .agg (frC (ge d.frames k))) tb rfl rfl rfl rfl (Y9 QT hJ rfl rfl rfl (lb rfl) fun b3 => ?_)))))))))
 refine sv tb rfl rfl rfl rfl (Y2 (b := b3) (off := 0) (cs := [.lit (.string (⟨#[]⟩ : ByteArray)), .lit (.bool false), Z4 ([] : List Hy), YG ([] : List Pr), Zg ([] : List ByteArray), Z4 ([] : List Hy), YG ([] : List Pr), Zg ([] : List ByteArray)]) (es := [.lit (.string ((ge d.frames k).label)), .lit (.bool ((ge d.frames k).thm)), Z4 ((ge d.frames k).hyps), YG ((ge d.frames k).apart), Zg ((ge d.frames k).text), Z4 ((ge d.frames k).dummies), YG ((ge d.frames k).wide), Zg ((ge d.frames k).proof)]) (news := [.lit (.string ((ge d.frames k).label)), .lit (.bool ((ge d.frames k).thm)), Z4 ((ge d.frames k).hyps), YG ((ge d.frames k).apart), Zg ((ge d.frames k).text), Z4 ((ge d.frames k).dummies), YG ((ge d.frames k).wide), Zg ((ge d.frames k).proof)]) hJ hJ0 Zev rfl rfl rfl (lb rfl) rfl (fun a w h => ⟨(h.get 1 rfl), (h.get 2 rfl)⟩) ?_)
 refine kw (fun h => Xy hS h (m := 1) (s := 12) rfl) ?_
 refine Zy ?_
 refine kw (lz [0, 1, 5, 6, 7, 8, 9] (env' := [(_, _), (_, _), (_, _), (_, _), (_, _), (_, _), (_, _)]) rfl) ?_
 refine nx (Za (Zn (ZaC keyI hJ rfl rfl rfl (lb rfl) fun m4 => ?_)))
 refine sv tb rfl rfl rfl rfl (Zy ?_)
 refine kw (lz [0, 2, 3, 4, 5, 6, 7, 8] (env' := [(_, _), (_, _), (_, _), (_, _), (_, _), (_, _), (_, _), (_, _)]) rfl) ?_
 refine nx (Za (Za (rgo tb hJ [0, 1, 2, 3, 4, 5, 6, 7, 1001, 1002, 1003, 1004] [_, _, _, _, _] [2, 3] [(_, _), (_, _), (_, _), (_, _), (_, _), (_, _), (_, _), (_, _), (_, .rd (Zg ((ge d.frames k).proof))), (_, .rd (Zg (YE ((ge d.frames k).proof)))), (_, .int (((YE ((ge d.frames k).proof)).length : Nat) : Int)), (_, .int (0 : Int))] rfl rfl rfl rfl ⟨hFo hS hJ (Znv hJ (l := ((ge d.frames k).proof)) ) Zog rfl rfl rfl rfl, Ys ZB rfl rfl rfl rfl, trivial⟩ (nx (Zf (fun a w h => Zj h 8 rfl) fun hl3 => Zf (fun a w h => Zj h 9 rfl) fun hl4 => Ze (Zw (ι := Nat × (List Int)) (fun (ii' : Nat × (List Int)) a w => match ii' with | (n, xs) => ((n ≤ (YE (ge d.frames k).proof).length) ∧ (Zih d k ((YE (ge d.frames k).proof).take n) xs)) ∧ St All (SO S [OB.set keyI m4 xs, OB.map keyS (fun z' : Int => AV.int z') m2 (at'), OB.gr 28 b1 d q]) w0 87 [(13, .lit (.map (some m4))), (12, .ptr (frC (ge d.frames k))), (11, .int k), (10, .lit (.map (some m2))), (9, .at b1 0), (44, .rd (Yn d.frames)), (45, .int d.frames.length), (46, .int k), (54, .rd (Zg (YE ((ge d.frames k).proof)))), (55, .int (((YE ((ge d.frames k).proof)).length : Nat) : Int)), (56, .int n)] (XO J S w0.heap.size [OB.set keyI m4 xs, OB.map keyS (fun z' : Int => AV.int z') m2 (at'), OB.gr 28 b1 d q]) a w) (fun (ii' : Nat × (List Int)) => match ii' with | (n, _) => ((YE (ge d.frames k).proof).length - n : Nat)) ?_ ?_))))))
 intro a w h
 exact ⟨(0, ([] : List Int)), (show (0 ≤ (YE (ge d.frames k).proof).length) ∧ (Zih d k ((YE (ge d.frames k).proof).take 0) ([] : List Int)) from ⟨Nat.zero_le _, ZkA d k⟩), lz [0, 1, 2, 3, 4, 5, 6, 7, 9, 10, 11] rfl h⟩
 rintro ⟨n, xs⟩
 refine ZD fun hF => ?_
 obtain ⟨f3_1, f3_2⟩ := hF
 refine Za (rgo tb hJ [0, 1, 2, 3, 4, 5, 6, 7, 8, 9, 10, 1000] [_] [] [(_, _), (_, _), (_, _), (_, _), (_, _), (_, _), (_, _), (_, _), (_, _), (_, _), (_, _), (_, .bool (decide ((n : Int) < (((YE ((ge d.frames k).proof)).length : Nat) : Int))))] rfl rfl rfl rfl trivial (nx (Za (tc 11 rfl rfl (fun hb5 => ?_) (fun hb5 => ?_)))))
 try simp at hb5
 refine Zd (nx (Za (Ze (Za (rgo tb hJ [0, 1, 2, 3, 4, 5, 6, 7, 8, 9, 10, 1002] [.ptr [.lit (.string (ge (YE ((ge d.frames k).proof)) n))], _, _] [0] [(_, _), (_, _), (_, _), (_, _), (_, _), (_, _), (_, _), (_, _), (_, _), (_, _), (_, _), (_, .str (ge (YE ((ge d.frames k).proof)) n))] rfl rfl rfl rfl ⟨hIx Zk (by first | omega | (simp; omega) | grind [Zb]) rfl rfl rfl rfl rfl rfl, trivial⟩ (nx (Za (rgo tb hJ [0, 1, 2, 3, 4, 5, 6, 7, 8, 9, 10, 1006, 1007] [_, _, .tup [.int ((Zq (at') (ge (YE ((ge d.frames k).proof)) n)).getD default), .bool ((Zq (at') (ge (YE ((ge d.frames k).proof)) n)).isSome)], _, _, _, _, _] [2] [(_, _), (_, _), (_, _), (_, _), (_, _), (_, _), (_, _), (_, _), (_, _), (_, _), (_, _), (_, .int ((Zq (at') (ge (YE ((ge d.frames k).proof)) n)).getD default)), (_, .bool ((Zq (at') (ge (YE ((ge d.frames k).proof)) n)).isSome))] rfl rfl rfl rfl ⟨fun _ _ _ hx hl _ => Xg (Kd := keyS) (f := (fun z' : Int => AV.int z')) (L := (at')) Zcq XL (ge (YE ((ge d.frames k).proof)) n) rfl (ZA hx (mo 1 rfl)) (hl.dep 0 61 _ rfl rfl rfl rfl) (hl.dep 1 62 _ rfl rfl rfl rfl) hx, trivial⟩ (nx (Za (rgo tb hJ [0, 1, 2, 3, 4, 5, 6, 7, 8, 9, 10, 11, 1000] [_] [] [(_, _), (_, _), (_, _), (_, _), (_, _), (_, _), (_, _), (_, _), (_, _), (_, _), (_, _), (_, _), (_, .bool ((Zq (at') (ge (YE ((ge d.frames k).proof)) n)).isSome))] rfl rfl rfl rfl trivial (nx ?_))))))))))))
 refine tc 12 rfl rfl (fun hb6 => ?_) (fun hb6 => ?_)
 try simp at hb6
 refine Zn (sv tb rfl rfl rfl rfl (sv tb rfl rfl rfl rfl (Zbk XQ hJ hJ0 ((Zq (at') (ge (YE ((ge d.frames k).proof)) n)).getD default) rfl rfl (.inl rfl) (fun a w h => ⟨(h.get 1 rfl), (h.get 0 rfl), (Rel.of_lit (Go.Value.bool true))⟩) (Zy ?_))))
 refine kw (lz [2, 3, 4, 5, 6, 7, 8, 9, 10, 11, 12] (env' := [(_, _), (_, _), (_, _), (_, _), (_, _), (_, _), (_, _), (_, _), (_, _), (_, _), (_, _)]) rfl) ?_
 refine nx (rgo tb hJ [0, 1, 2, 3, 4, 5, 6, 7, 8, 9, 1001] [.int ((n + 1 : Nat) : Int), _] [0] [(_, _), (_, _), (_, _), (_, _), (_, _), (_, _), (_, _), (_, _), (_, _), (_, _), (_, .int ((n + 1 : Nat) : Int))] rfl rfl rfl rfl ⟨Yc (by first | omega | (simp; omega) | grind [Zb]) rfl rfl rfl rfl rfl, trivial⟩ ?_)
 intro a w h; change ∃ j, _ ∧ _
 exact ⟨(n + 1, Z5 xs ((Zq (at') (ge (YE ((ge d.frames k).proof)) n)).getD default)), ⟨⟨(show (n + 1) ≤ (YE (ge d.frames k).proof).length from by omega), (show Zih d k ((YE (ge d.frames k).proof).take (n + 1)) (Z5 xs ((Zq (at') (ge (YE ((ge d.frames k).proof)) n)).getD default)) from by rw [ZS (by omega)]; first | exact Zgu f2_3 f3_2 hb6 (fun p q' hp hq => ZfQ e1 (by omega) (by omega)) | exact Zew f2_3 f3_2 (by simpa using hb6))⟩, lz [0, 1, 2, 3, 4, 5, 6, 7, 8, 9, 10] rfl h⟩, (show (YE (ge d.frames k).proof).length - (n + 1) < (YE (ge d.frames k).proof).length - n from by first | omega | (simp; omega))⟩
 try simp at hb6
 refine Zd (nx (rgo tb hJ [0, 1, 2, 3, 4, 5, 6, 7, 8, 9, 1001] [.int ((n + 1 : Nat) : Int), _] [0] [(_, _), (_, _), (_, _), (_, _), (_, _), (_, _), (_, _), (_, _), (_, _), (_, _), (_, .int ((n + 1 : Nat) : Int))] rfl rfl rfl rfl ⟨Yc (by first | omega | (simp; omega) | grind [Zb]) rfl rfl rfl rfl rfl, trivial⟩ ?_))
 intro a w h; change ∃ j, _ ∧ _
 exact ⟨(n + 1, xs), ⟨⟨(show (n + 1) ≤ (YE (ge d.frames k).proof).length from by omega), (show Zih d k ((YE (ge d.frames k).proof).take (n + 1)) xs from by rw [ZS (by omega)]; first | exact Zgu f2_3 f3_2 hb6 (fun p q' hp hq => ZfQ e1 (by omega) (by omega)) | exact Zew f2_3 f3_2 (by simpa using hb6))⟩, lz [0, 1, 2, 3, 4, 5, 6, 7, 8, 9, 10] rfl h⟩, (show (YE (ge d.frames k).proof).length - (n + 1) < (YE (ge d.frames k).proof).length - n from by first | omega | (simp; omega))⟩
 try simp at hb5
 have e5 : Zih d k (YE (ge d.frames k).proof) xs := by have := f3_2; rwa [Zp (by omega)] at this
 refine Zv (nx (Za ?_))
 refine tw pm2 ?_
 refine tw (B := St All (SO S [OB.row q.1 28 1 (q.2.map Z2), OB.var b1 [Zg d.consts, Zg d.vars, Yn d.frames, .lit q.1], OB.set keyI m4 xs, OB.map keyS (fun z' : Int => AV.int z') m2 (at')]) w0 87 [(13, .lit (.map (some m4))), (12, .ptr (frC (ge d.frames k))), (11, .int k), (10, .lit (.map (some m2))), (9, .at b1 0), (44, .rd (Yn d.frames)), (45, .int d.frames.length), (46, .int k), (54, .rd (Zg (YE ((ge d.frames k).proof)))), (55, .int (((YE ((ge d.frames k).proof)).length : Nat) : Int)), (56, .int n), (57, .bool (decide ((n : Int) < (((YE ((ge d.frames k).proof)).length : Nat) : Int))))] (XO J S w0.heap.size [OB.row q.1 28 1 (q.2.map Z2), OB.var b1 [Zg d.consts, Zg d.vars, Yn d.frames, .lit q.1], OB.set keyI m4 xs, OB.map keyS (fun z' : Int => AV.int z') m2 (at')])) (fun h => Ziw h) ?_
 refine fun a w h => Zcg [OB.var b1 [Zg d.consts, Zg d.vars, Yn d.frames, .lit q.1], OB.set keyI m4 xs, OB.map keyS (fun z' : Int => AV.int z') m2 (at')] (γ := Value) (fun ix' => ([.at b1 0, .at b1 0, .at b1 0, .at b1 3, .lit q.1, .lit (.map (some m4)), .rd (ZG (Y3 xs)), .rd (ZF ([(Y3 xs)])), .any, .at b1 0, .at b1 3, .any] : List AV).getD ix' .any) (fun ix' => ([true, true, true, true, true, true, true, true, true, true, true, true] : List Bool).getD ix' true) [(12, fun (g : Value) => .ptr (frC (ge d.frames k))), (11, fun (g : Value) => .int k), (10, fun (g : Value) => .lit (.map (some m2))), (9, fun (g : Value) => .at b1 0), (44, fun (g : Value) => .rd (Yn d.frames)), (45, fun (g : Value) => .int d.frames.length), (46, fun (g : Value) => .int k)] (fun (j' : Nat) (g : Value) => match j' with | 0 => [OB.row q.1 28 1 (q.2.map Z2), OB.var b1 [Zg d.consts, Zg d.vars, Yn d.frames, .lit q.1], OB.set keyI m4 xs, OB.map keyS (fun z' : Int => AV.int z') m2 (at')] | 1 => [OB.row g 28 1 ((q.2 ++ ([(Y3 xs)])).map Z2), OB.var b1 [Zg d.consts, Zg d.vars, Yn d.frames, .lit q.1], OB.set keyI m4 xs, OB.map keyS (fun z' : Int => AV.int z') m2 (at')] | _ => [OB.row g 28 1 ((q.2 ++ ([(Y3 xs)])).map Z2), OB.var b1 [Zg d.consts, Zg d.vars, Yn d.frames, .lit g], OB.set keyI m4 xs, OB.map keyS (fun z' : Int => AV.int z') m2 (at')]) (fun (k' : Nat) (g : Value) => match k' with | 0 => g | 1 => undef | _ => undef) [8, 11] 1 (.slice none 0 0) (fun _ => rfl) h hJ Y0 rfl rfl rfl rfl rfl rfl (fun j' g hj p hp => by rcases j' with _ | _ | _ | j' <;> first | exact hp | exact List.mem_cons_of_mem _ hp | exact List.mem_cons_of_mem _ (List.mem_cons_of_mem _ hp) | (exfalso; omega)) ⟨?o23_1_0, ⟨?o23_1_1, ⟨?o23_1_2, ⟨?o23_1_3, ⟨?o23_1_4, ⟨?o23_1_5, ⟨?o23_1_6, ⟨?o23_1_7, ⟨?o23_1_8, ⟨?o23_1_9, ⟨?o23_1_10, ⟨?o23_1_11, trivial⟩⟩⟩⟩⟩⟩⟩⟩⟩⟩⟩⟩ ⟨?e23_1_0, ⟨?e23_1_1, trivial⟩⟩ ⟨.old 1 12 _ rfl rfl, ⟨.old 2 11 _ rfl rfl, ⟨.old 3 10 _ rfl rfl, ⟨.old 4 9 _ rfl rfl, ⟨.old 5 44 _ rfl rfl, ⟨.old 6 45 _ rfl rfl, ⟨.old 7 46 _ rfl rfl, trivial⟩⟩⟩⟩⟩⟩⟩ ?n23_1
 case o23_1_0 => exact fun _ O' _ => ⟨rfl, fun _ _ _ hx hl _ => Yj rfl (hl.env 4 9 _ rfl rfl) hx⟩
 case o23_1_1 => exact fun _ O' _ => ⟨rfl, fun _ _ _ hx hl _ => Yj rfl (hl.env 4 9 _ rfl rfl) hx⟩
 case o23_1_2 => exact fun _ O' _ => ⟨rfl, fun _ _ _ hx hl _ => ZaE rfl (hl.dep 1 71 _ rfl rfl rfl rfl) hx⟩
 case o23_1_3 => exact fun _ O' _ => ⟨rfl, fun _ _ _ hx hl _ => ZaU Zan rfl (hl.dep 2 72 _ rfl rfl rfl rfl) hx⟩
 case o23_1_4 => exact fun _ O' hO' => ⟨rfl, fun _ _ _ hx hl _ => XU (cs := [Zg d.consts, Zg d.vars, Yn d.frames, .lit q.1]) Zi8 rfl (ZA hx (hO' _ (mo 0 rfl))) (hl.dep 3 73 _ rfl rfl rfl rfl) rfl hx⟩
 case o23_1_5 => exact fun _ O' _ => ⟨rfl, fun _ _ _ hx hl _ => Yj rfl (hl.env 0 13 _ rfl rfl) hx⟩
 case o23_1_6 => exact fun _ O' hO' => ⟨rfl, fun _ _ hk hx hl _ => X1 (ZgK hJ (M := m4) (xs := xs) (fun x hx => by have := (Zgt e5).1 x hx; omega) (by have := (Zgt e5).2; omega)) Zf6 rfl (Zr hS _ hk hx) (hx.1) (Z0 (ZA hx (hO' _ (mo 1 rfl))) ZP) (Zc (hl.dep 5 75 _ rfl rfl rfl rfl) Zm) (jo hJ hx)⟩
 case o23_1_7 => exact fun _ O' _ => ⟨rfl, fun _ _ hk hx hl _ => ZV Z7 Zfr rfl (hl.dep 6 76 _ rfl rfl rfl rfl) (Zr hS _ hk hx _ (Nat.le_refl _)) (jo hJ hx)⟩
 case o23_1_8 => exact Zs rfl
 case o23_1_9 => exact fun _ O' _ => ⟨rfl, fun _ _ _ hx hl _ => ZaE rfl (hl.dep 0 70 _ rfl rfl rfl rfl) hx⟩
 case o23_1_10 => exact fun _ O' _ => ⟨rfl, fun _ _ _ hx hl _ => ZaU Zan rfl (hl.dep 9 79 _ rfl rfl rfl rfl) hx⟩
 case o23_1_11 => exact Zs rfl
 case e23_1_0 => exact ⟨_, rfl, rfl, rfl, rfl, fun _ _ w hk hx hl _ => ZJ (QR (f := Z2) q.2 ([(Y3 xs)]) (fun _ => rfl) Zbd hJ hJ0 rfl hk hx (hl.dep 4 74 _ rfl rfl rfl rfl).lit (hl.dep 7 77 _ rfl rfl rfl rfl) (by rw [f2_2, YA]; simp; omega) (by rw [f2_2, YA]; simp; omega)) fun v w' hp => ⟨v, rfl, fun k' hk' => absurd hk' (Nat.not_lt_zero _), fun _ => rfl, hp⟩⟩
 case e23_1_1 => exact ⟨_, rfl, rfl, rfl, rfl, fun g _ w hk hx hl hs => ZJ (ZlC (off := 3) (cs := [Zg d.consts, Zg d.vars, Yn d.frames, .lit q.1]) (es := [Zg d.consts, Zg d.vars, Yn d.frames, .lit g]) (c := .lit g) hJ hJ0 ZiE rfl hk hx (hl.dep 10 80 _ rfl rfl rfl rfl) (by rw [(hs 0 8 _ 78 (by omega) rfl rfl rfl)]; exact Rel.of_lit _ (Zbn (hx.2.1 _ (mo 0 rfl)))) (lb rfl) rfl) fun v w' hp => ⟨g, rfl, fun _ _ => rfl, fun e => (by cases e), hp⟩⟩
 clear a w h
 intro v5
 change ∀ a w, St All (SO S [OB.row v5 28 1 ((q.2 ++ ([(Y3 xs)])).map Z2), OB.var b1 [Zg d.consts, Zg d.vars, Yn d.frames, .lit v5], OB.set keyI m4 xs, OB.map keyS (fun z' : Int => AV.int z') m2 (at')]) w0 87 [(12, .ptr (frC (ge d.frames k))), (11, .int k), (10, .lit (.map (some m2))), (9, .at b1 0), (44, .rd (Yn d.frames)), (45, .int d.frames.length), (46, .int k)] (XO J S w0.heap.size [OB.row v5 28 1 ((q.2 ++ ([(Y3 xs)])).map Z2), OB.var b1 [Zg d.consts, Zg d.vars, Yn d.frames, .lit v5], OB.set keyI m4 xs, OB.map keyS (fun z' : Int => AV.int z') m2 (at')]) a w → _
 refine kw pm1 ?_
 refine kw pm1 ?_
 refine kw (B := St All (SO S [OB.gr 28 b1 d (v5, q.2 ++ ([(Y3 xs)])), OB.set keyI m4 xs, OB.map keyS (fun z' : Int => AV.int z') m2 (at')]) w0 87 [(12, .ptr (frC (ge d.frames k))), (11, .int k), (10, .lit (.map (some m2))), (9, .at b1 0), (44, .rd (Yn d.frames)), (45, .int d.frames.length), (46, .int k)] (XO J S w0.heap.size [OB.gr 28 b1 d (v5, q.2 ++ ([(Y3 xs)])), OB.set keyI m4 xs, OB.map keyS (fun z' : Int => AV.int z') m2 (at')])) (fun h => Zfz h) ?_
 refine nx (Zn (sv tb rfl rfl rfl rfl (sv (av := .ptr (frC (ge d.frames k))) tb rfl rfl rfl rfl (sv (av := .str ((ge d.frames k).label)) tb rfl rfl rfl rfl (sv tb rfl rfl rfl rfl ?_)))))
 refine kw pm2 ?_
 refine Zet (f := (fun z' : Int => AV.int z')) Zcq hJ hJ0 ((ge d.frames k).label) (k : Int) rfl rfl (.inl rfl) (fun a w h => ⟨(h.get 3 rfl), (h.get 1 rfl), (h.get 0 rfl)⟩) (Zy ?_)
 refine kw (lz [6, 7, 8, 9, 10] (env' := [(_, _), (_, _), (_, _), (_, _), (_, _)]) rfl) ?_
 refine nx (rgo tb hJ [0, 1, 2, 3, 1001] [.int ((k + 1 : Nat) : Int), _] [0] [(_, _), (_, _), (_, _), (_, _), (_, .int ((k + 1 : Nat) : Int))] rfl rfl rfl rfl ⟨Yc (by first | omega | (simp; omega) | grind [Zb]) rfl rfl rfl rfl rfl, trivial⟩ ?_)
 refine kw pm2 ?_
 refine kw Yt ?_
 intro a w h; change ∃ j, _ ∧ _
 exact ⟨(k + 1, (v5, q.2 ++ ([(Y3 xs)])), Ql (at') ((ge d.frames k).label) (k : Int)), ⟨⟨(show (k + 1) ≤ d.frames.length from by omega), (show (v5, q.2 ++ ([(Y3 xs)])).2 = usL d (k + 1) from by rw [ZbO, ← f2_2, ← Zkm e1 (by omega) e5]), (show AtI d (k + 1) (Ql (at') ((ge d.frames k).label) (k : Int)) from Zmz e1 (by omega) f2_3)⟩, lz [0, 1, 2, 3, 4] rfl h⟩, (show d.frames.length - (k + 1) < d.frames.length - k from by first | omega | (simp; omega))⟩
 try simp at hb4
 refine Zv (nx (Za ?_))
 refine tw pm1 ?_
 refine tw (fun h => Zda hS h (m := 1) (s := 9) rfl) ?_
 refine rgo tb hJ [1001, 1002] [_, _, _] [] [(_, .ptr [Zg d.consts, Zg d.vars, Yn d.frames, ZF q.2]), (_, .int (0 : Int))] rfl rfl rfl rfl trivial (nx (Zi (fun a w h => YC (m := 0) (k := 1) rfl (Zl h) rfl rfl (show .ptr [Zg d.consts, Zg d.vars, Yn d.frames, ZF q.2] = gAV (rdE d ns) [Zg d.consts, Zg d.vars, Yn d.frames, ZF (usL d d.frames.length)] from by first | exact e9.symm | exact (Zds e8).symm | (rw [ZaA e9, f2_2, show k = d.frames.length by omega])) (congrArg AV.int (show (0 : Int) = (rdE d ns) from by first | exact e9.symm | exact (Zds e8).symm | (rw [ZaA e9, f2_2, show k = d.frames.length by omega]))))))
end Go.Proofs.YtnpgmdffjemnbaaGreatDoor
namespace Go.Proofs.YtnpgmdffjemnbaaGreatDoor

inductive Rch (us : List (List Int)) : Int → Int → Prop where
  | refl (i : Int) : Rch us i i
  | step (i x y : Int) (h : x ∈ ge us i.toNat) (k : Rch us x y) : Rch us i y
theorem Rch.trans {us : List (List Int)} {a b c : Int} (h : Rch us a b) (k : Rch us b c) : Rch us a c := by
  induction h with
  | refl => exact k
  | step i x y hx _ ih => exact .step i x _ hx (ih k)
theorem Rch.one {us : List (List Int)} {a b : Int} (h : b ∈ ge us a.toNat) : Rch us a b := .step a b b h (.refl b)
def Xe (us : List (List Int)) : Prop := ∀ i, ∀ x ∈ ge us i, 0 ≤ x ∧ x < (i : Int)
theorem Rch.le {us : List (List Int)} (hd : Xe us) {a b : Int} (h : Rch us a b) (ha : 0 ≤ a) : 0 ≤ b ∧ b ≤ a := by
  induction h with
  | refl => exact ⟨ha, Int.le_refl _⟩
  | step i x y hx _ ih =>
    have := hd _ x hx
    have := ih this.1
    omega
structure VIS (us : List (List Int)) (n : Nat) (xs ys : List Int) : Prop where
  sub : ∀ x ∈ xs, x ∈ ys
  self : (n : Int) ∈ ys
  nod : xs.Nodup → ys.Nodup
  new : ∀ y ∈ ys, y ∈ xs ∨ (Rch us n y ∧ ∀ z ∈ ge us y.toNat, z ∈ ys)
structure VIK (us : List (List Int)) (n : Nat) (xs : List Int) (k : Nat) (ys : List Int) : Prop where
  sub : ∀ x ∈ xs, x ∈ ys
  self : (n : Int) ∈ ys
  nod : xs.Nodup → ys.Nodup
  done : ∀ j, j < k → ge (ge us n) j ∈ ys
  new : ∀ y ∈ ys, y ∈ xs ∨ y = (n : Int) ∨ (Rch us n y ∧ ∀ z ∈ ge us y.toNat, z ∈ ys)
theorem VIS.old {us : List (List Int)} {n : Nat} {xs : List Int} (h : (n : Int) ∈ xs) : VIS us n xs xs := ⟨fun _ h => h, h, fun h => h, fun _ h => .inl h⟩
theorem VIK.start (us : List (List Int)) (n : Nat) (xs : List Int) : VIK us n xs 0 (Z5 xs (n : Int)) :=
  ⟨fun _ hx => mem_addS.2 (.inl hx), mem_addS.2 (.inr rfl), Zdn, fun _ hj => absurd hj (Nat.not_lt_zero _), fun _ hy => (mem_addS.1 hy).imp id .inl⟩
theorem VIK.next {us : List (List Int)} {n : Nat} {xs ys zs : List Int} {k m : Nat} (h : VIK us n xs k ys) (hk : k < (ge us n).length) (hm : (m : Int) = ge (ge us n) k) (hz : VIS us m ys zs) : VIK us n xs (k + 1) zs where
  sub := fun x hx => hz.sub x (h.sub x hx)
  self := hz.sub _ h.self
  nod := fun hn => hz.nod (h.nod hn)
  done := fun j hj => by
    by_cases e : j = k
    · rw [e, ← hm]; exact hz.self
    · exact hz.sub _ (h.done j (by omega))
  new := fun y hy => by
    rcases hz.new y hy with h1 | ⟨h1, h2⟩
    · rcases h.new y h1 with h3 | h3 | ⟨h3, h4⟩
      · exact .inl h3
      · exact .inr (.inl h3)
      · exact .inr (.inr ⟨h3, fun z hzz => hz.sub z (h4 z hzz)⟩)
    · refine .inr (.inr ⟨.step _ _ _ ?_ h1, h2⟩)
      rw [hm]
      exact Zb hk
theorem VIK.fin {us : List (List Int)} {n : Nat} {xs ys : List Int} {k : Nat} (h : VIK us n xs k ys) (hk : (ge us n).length ≤ k) : VIS us n xs ys where
  sub := h.sub
  self := h.self
  nod := h.nod
  new := fun y hy => by
    rcases h.new y hy with h3 | h3 | h3
    · exact .inl h3
    · subst h3
      refine .inr ⟨.refl _, fun z hz => ?_⟩
      rw [Int.toNat_natCast] at hz
      obtain ⟨j, hj, rfl⟩ := Xj hz
      exact h.done j (by omega)
    · exact .inr h3
structure IsReach (us : List (List Int)) (n : Nat) (ys : List Int) : Prop where
  nod : ys.Nodup
  iff : ∀ y, y ∈ ys ↔ Rch us n y
theorem VIS.reach {us : List (List Int)} {n : Nat} {ys : List Int} (h : VIS us n [] ys) : IsReach us n ys := by
  have hn : ∀ y ∈ ys, Rch us n y ∧ ∀ z ∈ ge us y.toNat, z ∈ ys := fun y hy => (h.new y hy).resolve_left (by simp)
  refine ⟨h.nod .nil, fun y => ⟨fun hy => (hn y hy).1, fun hy => ?_⟩⟩
  have key : ∀ a b, Rch us a b → a ∈ ys → b ∈ ys := by
    intro a b hab
    induction hab with
    | refl => exact id
    | step i x y hx _ ih => exact fun hi => ih ((hn i hi).2 x hx)
  exact key _ _ hy h.self
theorem ZK (d : Db) (n : Nat) : Xe (usL d n) := fun i x hx => by
  rcases Nat.lt_or_ge i n with h | h
  · rw [Zc7 h, ZN] at hx
    split at hx
    · exact Zgl hx
    · simp at hx
  · rw [ge, List.getD_eq_getElem?_getD, List.getElem?_eq_none (by rw [YA]; exact h)] at hx
    simp [default] at hx
theorem Zkp {d : Db} {n i : Nat} (h : n ≤ i) : ge (usL d n) i = [] := by
  rw [ge, List.getD_eq_getElem?_getD, List.getElem?_eq_none (by rw [YA]; exact h)]; rfl
end Go.Proofs.YtnpgmdffjemnbaaGreatDoor
set_option maxHeartbeats 8000000
set_option maxRecDepth 100000
namespace Go.Proofs.YtnpgmdffjemnbaaGreatDoor
open Go.RowKit

theorem Zi1 {J : World → Prop} (hJ : Stab J) (M : Nat) (bs : Nat) (bg : Nat) (bv : Nat) (d : Db) (us : List (List Int)) (n : Nat) (xs : List Int) (hd : Xe us) (hn : n < us.length) (ih : ∀ (m' : Nat) (xs' : List Int), m' < n → FnM (ι := { q' : List Int // VIS us m' xs' q' }) Tryz.prog J 72 [] [.int m', .at bs 0, .at bg 0, .at bv 0] [OB.set keyI M (xs'), OB.var bs [.lit (.map (some M))], OB.var bg [.ptr [Zg d.consts, Zg d.vars, Yn d.frames, ZF us]], OB.var bv [.lit (.func (.func 72) #[] #[.pointer (some ⟨bs, 0, none⟩), .pointer (some ⟨bg, 0, none⟩), .pointer (some ⟨bv, 0, none⟩)])]] (fun _ => .tup []) (fun i' => [OB.set keyI M (i'.1), OB.var bs [.lit (.map (some M))], OB.var bg [.ptr [Zg d.consts, Zg d.vars, Yn d.frames, ZF us]], OB.var bv [.lit (.func (.func 72) #[] #[.pointer (some ⟨bs, 0, none⟩), .pointer (some ⟨bg, 0, none⟩), .pointer (some ⟨bv, 0, none⟩)])]])) : FnM (ι := { q' : List Int // VIS us n xs q' }) Tryz.prog J 72 [] [.int n, .at bs 0, .at bg 0, .at bv 0] [OB.set keyI M xs, OB.var bs [.lit (.map (some M))], OB.var bg [.ptr [Zg d.consts, Zg d.vars, Yn d.frames, ZF us]], OB.var bv [.lit (.func (.func 72) #[] #[.pointer (some ⟨bs, 0, none⟩), .pointer (some ⟨bg, 0, none⟩), .pointer (some ⟨bv, 0, none⟩)])]] (fun _ => .tup []) (fun i' => [OB.set keyI M (i'.1), OB.var bs [.lit (.map (some M))], OB.var bg [.ptr [Zg d.consts, Zg d.vars, Yn d.frames, ZF us]], OB.var bv [.lit (.func (.func 72) #[] #[.pointer (some ⟨bs, 0, none⟩), .pointer (some ⟨bg, 0, none⟩), .pointer (some ⟨bv, 0, none⟩)])]]) := by
 refine YK (N := 28) Tryz.func72 rfl rfl (lb rfl) fun S w0 R hS hJ0 hH => ?_
 refine XA (B := St All (SO S (OB.set keyI M xs :: OB.var bs [.lit (.map (some M))] :: OB.var bg [.ptr [Zg d.consts, Zg d.vars, Yn d.frames, ZF us]] :: OB.var bv [.lit (.func (.func 72) #[] #[.pointer (some ⟨bs, 0, none⟩), .pointer (some ⟨bg, 0, none⟩), .pointer (some ⟨bv, 0, none⟩)])] :: R)) w0 28 [(0, .int n), (1, .at bs 0), (2, .at bg 0), (3, .at bv 0)] (XO J S w0.heap.size (OB.set keyI M xs :: OB.var bs [.lit (.map (some M))] :: OB.var bg [.ptr [Zg d.consts, Zg d.vars, Yn d.frames, ZF us]] :: OB.var bv [.lit (.func (.func 72) #[] #[.pointer (some ⟨bs, 0, none⟩), .pointer (some ⟨bg, 0, none⟩), .pointer (some ⟨bv, 0, none⟩)])] :: R))) ?_ fun a w h => h
 refine Za (Za (rgo tb hJ [0, 1, 2, 3, 1002] [.lit (.map (some M)), _, _] [0, 2] [(_, _), (_, _), (_, _), (_, _), (_, .bool (decide ((n : Int) ∈ xs)))] rfl rfl rfl rfl ⟨fun _ _ _ hx hl _ => XU (cs := [.lit (.map (some M))]) Zi6 rfl (ZA hx (mo 1 rfl)) (hl.env 1 1 _ rfl rfl) rfl hx, fun _ _ _ hx hl _ => Yo (Kd := keyI) (xs := xs) XQ ZY (n : Int) rfl (ZA hx (mo 0 rfl)) (hl.dep 0 7 _ rfl rfl rfl rfl) (hl.dep 1 8 _ rfl rfl rfl rfl) hx, trivial⟩ (nx (tc 4 rfl rfl (fun hb1 => ?_) (fun hb1 => ?_)))))
 try simp at hb1
 refine tw (ob0 (congrArg (fun z' => OB.set keyI M (z')) (show xs = ((⟨(xs), by first | exact VIS.old hb1 | exact f1_2.fin (by omega)⟩ : { q' : List Int // VIS us n xs q' }).1) from rfl))) ?_
 refine Zi (fun a w h => ZfP  (⟨(xs), by first | exact VIS.old hb1 | exact f1_2.fin (by omega)⟩ : { q' : List Int // VIS us n xs q' }) rfl h rfl)
 try simp at hb1
 refine Zd (nx (Za (Zn (sq (.lit (.map (some M))) rfl rfl (lb rfl) (fun _ _ h => XU (cs := [.lit (.map (some M))]) Zi6 rfl (ZA h.x (mo 1 rfl)) (h.get 1 rfl) rfl h.x) (sv tb rfl rfl rfl rfl (Zbk XQ hJ hJ0 (n : Int) rfl rfl (.inl rfl) (fun a w h => ⟨(h.get 1 rfl), (h.get 0 rfl), (Rel.of_lit (Go.Value.bool true))⟩) (Zy ?_)))))))
 refine kw (lz [2, 4, 5] (env' := [(_, _), (_, _), (_, _)]) rfl) ?_
 refine nx (Za (rgo tb hJ [2, 1003, 1006, 1007, 1008] [.ptr [Zg d.consts, Zg d.vars, Yn d.frames, ZF us], _, _, _, _, .ptr [ZG (ge us n)], _, _, _] [0, 5, 7] [(_, _), (_, .rd (ZF us)), (_, .rd (ZG (ge us n))), (_, .int (((ge us n).length : Nat) : Int)), (_, .int (0 : Int))] rfl rfl rfl rfl ⟨fun _ _ _ hx hl _ => ZiK (cs := [.ptr [Zg d.consts, Zg d.vars, Yn d.frames, ZF us]]) one_62 rfl (ZA hx (mo 2 rfl)) (hl.env 1 2 _ rfl rfl) rfl hx, hIx Z7 (by first | omega | (simp; omega) | grind [Zb]) rfl rfl rfl rfl rfl rfl, Ys Yx rfl rfl rfl rfl, trivial⟩ (nx (Zf (fun a w h => Zj h 1 rfl) fun hl1 => Zf (fun a w h => Zj h 2 rfl) fun hl2 => Ze (Zw (ι := Nat × (List Int)) (fun (ii' : Nat × (List Int)) a w => match ii' with | (k, ys) => ((k ≤ (ge us n).length) ∧ (VIK us n xs k ys)) ∧ St All (SO S (OB.set keyI M ys :: OB.var bs [.lit (.map (some M))] :: OB.var bg [.ptr [Zg d.consts, Zg d.vars, Yn d.frames, ZF us]] :: OB.var bv [.lit (.func (.func 72) #[] #[.pointer (some ⟨bs, 0, none⟩), .pointer (some ⟨bg, 0, none⟩), .pointer (some ⟨bv, 0, none⟩)])] :: R)) w0 28 [(3, .at bv 0), (18, .rd (ZG (ge us n))), (19, .int (((ge us n).length : Nat) : Int)), (20, .int k)] (XO J S w0.heap.size (OB.set keyI M ys :: OB.var bs [.lit (.map (some M))] :: OB.var bg [.ptr [Zg d.consts, Zg d.vars, Yn d.frames, ZF us]] :: OB.var bv [.lit (.func (.func 72) #[] #[.pointer (some ⟨bs, 0, none⟩), .pointer (some ⟨bg, 0, none⟩), .pointer (some ⟨bv, 0, none⟩)])] :: R)) a w) (fun (ii' : Nat × (List Int)) => match ii' with | (k, _) => ((ge us n).length - k : Nat)) ?_ ?_)))))
 intro a w h
 exact ⟨(0, Z5 xs (n : Int)), (show (0 ≤ (ge us n).length) ∧ (VIK us n xs 0 (Z5 xs (n : Int))) from ⟨Nat.zero_le _, VIK.start us n xs⟩), lz [0, 2, 3, 4] rfl h⟩
 rintro ⟨k, ys⟩
 refine ZD fun hF => ?_
 obtain ⟨f1_1, f1_2⟩ := hF
 refine Za (rgo tb hJ [0, 1, 2, 3, 1000] [_] [] [(_, _), (_, _), (_, _), (_, _), (_, .bool (decide ((k : Int) < (((ge us n).length : Nat) : Int))))] rfl rfl rfl rfl trivial (nx (Za (tc 4 rfl rfl (fun hb2 => ?_) (fun hb2 => ?_)))))
 try simp at hb2
 refine Zd (nx (Za (Ze (Za (rgo tb hJ [0, 1, 2, 3, 1002] [.ptr [.lit (.int .i64 (ge (ge us n) k))], _, _] [0] [(_, _), (_, _), (_, _), (_, _), (_, .int (ge (ge us n) k))] rfl rfl rfl rfl ⟨hIx Zo (by first | omega | (simp; omega) | grind [Zb]) rfl rfl rfl rfl rfl rfl, trivial⟩ (nx ?_))))))
 refine tw (sa 4 rfl (congrArg AV.int (show (ge (ge us n) k) = (((ge (ge us n) k).toNat : Nat) : Int) from by have := hd n _ (Zb (xs := ge us n) (k := k) (by omega)); omega))) ?_
 refine Zn (sq (.lit (.func (.func 72) #[] #[.pointer (some ⟨bs, 0, none⟩), .pointer (some ⟨bg, 0, none⟩), .pointer (some ⟨bv, 0, none⟩)])) rfl rfl (lb rfl) (fun _ _ h => XU (cs := [.lit (.func (.func 72) #[] #[.pointer (some ⟨bs, 0, none⟩), .pointer (some ⟨bg, 0, none⟩), .pointer (some ⟨bv, 0, none⟩)])]) ZmW rfl (ZA h.x (mo 3 rfl)) (h.get 0 rfl) rfl h.x) (sv tb rfl rfl rfl rfl (ZmI (O := [OB.set keyI M ys, OB.var bs [.lit (.map (some M))], OB.var bg [.ptr [Zg d.consts, Zg d.vars, Yn d.frames, ZF us]], OB.var bv [.lit (.func (.func 72) #[] #[.pointer (some ⟨bs, 0, none⟩), .pointer (some ⟨bg, 0, none⟩), .pointer (some ⟨bv, 0, none⟩)])]]) (R := (R)) [.int (((ge (ge us n) k).toNat : Nat) : Int)] [.pointer (some ⟨bs, 0, none⟩), .pointer (some ⟨bg, 0, none⟩), .pointer (some ⟨bv, 0, none⟩)] [.at bs 0, .at bg 0, .at bv 0] (ih  (m' := ((ge (ge us n) k).toNat)) (xs' := ys) (by have := hd n _ (Zb (xs := ge us n) (k := k) (by omega)); omega)) ZjU rfl rfl rfl (lb rfl) hS hJ0 ZP (fun a w h => (h.get 1 rfl).lit) (fun a w h => (Zc (h.get 0 rfl) Zm)) (fun w => (Zc (Rel.of_lit (.pointer (some ⟨bs, 0, none⟩))) (Zc (Rel.of_lit (.pointer (some ⟨bg, 0, none⟩))) (Zc (Rel.of_lit (.pointer (some ⟨bv, 0, none⟩))) Zm)))) fun z1 => ?_)))
 refine Zy ?_
 refine kw (lz [3, 4, 5, 6] (env' := [(_, _), (_, _), (_, _), (_, _)]) rfl) ?_
 refine nx (rgo tb hJ [0, 1, 2, 1001] [.int ((k + 1 : Nat) : Int), _] [0] [(_, _), (_, _), (_, _), (_, .int ((k + 1 : Nat) : Int))] rfl rfl rfl rfl ⟨Yc (by first | omega | (simp; omega) | grind [Zb]) rfl rfl rfl rfl rfl, trivial⟩ ?_)
 intro a w h; change ∃ j, _ ∧ _
 exact ⟨(k + 1, z1.1), ⟨⟨(show (k + 1) ≤ (ge us n).length from by omega), (show VIK us n xs (k + 1) z1.1 from f1_2.next (by omega) (by have := hd n _ (Zb (xs := ge us n) (k := k) (by omega)); omega) z1.2)⟩, lz [0, 1, 2, 3] rfl h⟩, (show (ge us n).length - (k + 1) < (ge us n).length - k from by first | omega | (simp; omega))⟩
 try simp at hb2
 refine Zv ?_
 refine kw (ob0 (congrArg (fun z' => OB.set keyI M (z')) (show ys = ((⟨(ys), by first | exact VIS.old hb1 | exact f1_2.fin (by omega)⟩ : { q' : List Int // VIS us n xs q' }).1) from rfl))) ?_
 exact fun a w h => ZfP  (⟨(ys), by first | exact VIS.old hb1 | exact f1_2.fin (by omega)⟩ : { q' : List Int // VIS us n xs q' }) rfl h rfl
theorem ZkR {J : World → Prop} (hJ : Stab J) (M bs bg bv : Nat) (d : Db) (us : List (List Int)) (hd : Xe us) : ∀ (n : Nat) (xs : List Int), n < us.length → FnM (ι := { q' : List Int // VIS us n xs q' }) Tryz.prog J 72 [] [.int n, .at bs 0, .at bg 0, .at bv 0] [OB.set keyI M xs, OB.var bs [.lit (.map (some M))], OB.var bg [.ptr [Zg d.consts, Zg d.vars, Yn d.frames, ZF us]], OB.var bv [.lit (.func (.func 72) #[] #[.pointer (some ⟨bs, 0, none⟩), .pointer (some ⟨bg, 0, none⟩), .pointer (some ⟨bv, 0, none⟩)])]] (fun _ => .tup []) (fun i' => [OB.set keyI M (i'.1), OB.var bs [.lit (.map (some M))], OB.var bg [.ptr [Zg d.consts, Zg d.vars, Yn d.frames, ZF us]], OB.var bv [.lit (.func (.func 72) #[] #[.pointer (some ⟨bs, 0, none⟩), .pointer (some ⟨bg, 0, none⟩), .pointer (some ⟨bv, 0, none⟩)])]]) := by
  intro n
  induction n using Nat.strongRecOn with
  | ind n ih =>
    intro xs hn
    exact Zi1 hJ M bs bg bv d us n xs hd hn fun m' xs' hlt => ih m' hlt xs' (by omega)

theorem ZdK {J : World → Prop} (hJ : Stab J) (d : Db) (us : List (List Int)) (n : Nat) (hd : Xe us) (hn : n < us.length) : FnM (ι := { q' : Nat × List Int // IsReach us n q'.2 }) Tryz.prog J 47 [] [.ptr [Zg d.consts, Zg d.vars, Yn d.frames, ZF us], .int n] [] (fun i' => .lit (.map (some (i'.1.1)))) (fun i' => [OB.set keyI (i'.1.1) (i'.1.2)]) := by
 refine YK (N := 13) Tryz.func47 rfl rfl (lb rfl) fun S w0 R hS hJ0 hH => ?_
 refine XA (B := St All (SO S (R)) w0 13 [(0, .ptr [Zg d.consts, Zg d.vars, Yn d.frames, ZF us]), (1, .int n)] (XO J S w0.heap.size (R))) ?_ fun a w h => h
 refine Za (Zn (Znm (c := .ptr [Zg d.consts, Zg d.vars, Yn d.frames, ZF us]) hJ rfl rfl rfl (lb rfl) (fun a w h => (ptr_rd.2 (h.get 0 rfl))) fun b1 => ?_))
 refine sq (.rd (.lit (Go.Value.map none))) rfl rfl (lb rfl) (fun _ _ h => QH rfl (Rel.of_lit (Go.Value.map none)) h.x) (Zy ?_)
 refine kw (lz [1, 3] (env' := [(_, _), (_, _)]) rfl) ?_
 refine nx (Za (Zn (ZaC keyI hJ rfl rfl rfl (lb rfl) fun m2 => ?_)))
 refine Y9 Zir hJ rfl rfl rfl (lb rfl) fun b3 => ?_
 refine Qa (b := b3) (off := 0) (cs := [.lit (.map none)]) (es := [.lit (.map (some m2))]) hJ hJ0 ZiD rfl rfl rfl (lb rfl) rfl (fun a w h => ⟨(h.get 0 rfl), (h.get 1 rfl)⟩) (Zy ?_)
 refine kw (lz [0, 2, 3] (env' := [(_, _), (_, _), (_, _)]) rfl) ?_
 refine nx (Za (Zn (Y9 Ziq hJ rfl rfl rfl (lb rfl) fun b4 => ?_)))
 refine Zy (nx (Za (Zn (sq (.lit (.func (.func 72) #[] #[.pointer (some ⟨b3, 0, none⟩), .pointer (some ⟨b1, 0, none⟩), .pointer (some ⟨b4, 0, none⟩)])) rfl rfl (lb rfl) (fun _ _ h => ZiJ (caps := [(Go.Operand.tmp 5), (Go.Operand.tmp 2), (Go.Operand.tmp 6)]) rfl (map_cons (h.get 1 rfl).lit (map_cons (h.get 2 rfl).lit (map_cons (h.get 0 rfl).lit map_nil))) h.x) (Qa (b := b4) (off := 0) (cs := [.lit .nilFunc]) (es := [.lit (.func (.func 72) #[] #[.pointer (some ⟨b3, 0, none⟩), .pointer (some ⟨b1, 0, none⟩), .pointer (some ⟨b4, 0, none⟩)])]) hJ hJ0 ZiC rfl rfl rfl (lb rfl) rfl (fun a w h => ⟨(h.get 1 rfl), (h.get 0 rfl)⟩) (Zy ?_))))))
 refine kw (lz [1, 2, 4] (env' := [(_, _), (_, _), (_, _)]) rfl) ?_
 refine nx (Za (Zn (sq (.lit (.func (.func 72) #[] #[.pointer (some ⟨b3, 0, none⟩), .pointer (some ⟨b1, 0, none⟩), .pointer (some ⟨b4, 0, none⟩)])) rfl rfl (lb rfl) (fun _ _ h => XU (cs := [.lit (.func (.func 72) #[] #[.pointer (some ⟨b3, 0, none⟩), .pointer (some ⟨b1, 0, none⟩), .pointer (some ⟨b4, 0, none⟩)])]) ZmW rfl (ZA h.x (mo 0 rfl)) (h.get 0 rfl) rfl h.x) (sv tb rfl rfl rfl rfl ?_))))
 refine kw pm3 ?_
 refine kw pm2 ?_
 refine kw pm3 ?_
 refine ZmI (O := [OB.set keyI m2 ([] : List Int), OB.var b3 [.lit (.map (some m2))], OB.var b1 [.ptr [Zg d.consts, Zg d.vars, Yn d.frames, ZF us]], OB.var b4 [.lit (.func (.func 72) #[] #[.pointer (some ⟨b3, 0, none⟩), .pointer (some ⟨b1, 0, none⟩), .pointer (some ⟨b4, 0, none⟩)])]]) (R := (R)) [.int n] [.pointer (some ⟨b3, 0, none⟩), .pointer (some ⟨b1, 0, none⟩), .pointer (some ⟨b4, 0, none⟩)] [.at b3 0, .at b1 0, .at b4 0] (ZkR hJ (M := m2) (bs := b3) (bg := b1) (bv := b4) (d := d) (us := us) (n := n) (xs := ([] : List Int)) (hd) (hn)) ZjU rfl rfl rfl (lb rfl) hS hJ0 ZP (fun a w h => (h.get 1 rfl).lit) (fun a w h => (Zc (h.get 0 rfl) Zm)) (fun w => (Zc (Rel.of_lit (.pointer (some ⟨b3, 0, none⟩))) (Zc (Rel.of_lit (.pointer (some ⟨b1, 0, none⟩))) (Zc (Rel.of_lit (.pointer (some ⟨b4, 0, none⟩))) Zm)))) fun z5 => ?_
 refine Zy ?_
 refine kw (lz [4] (env' := [(_, _)]) rfl) ?_
 refine nx (Za (rgo tb hJ [1001] [.lit (.map (some m2)), _] [0] [(_, .lit (.map (some m2)))] rfl rfl rfl rfl ⟨fun _ _ _ hx hl _ => XU (cs := [.lit (.map (some m2))]) Zi6 rfl (ZA hx (mo 1 rfl)) (hl.env 0 5 _ rfl rfl) rfl hx, trivial⟩ (nx ?_)))
 refine tw pm1 ?_
 refine tw Yt ?_
 refine tw pm1 ?_
 refine tw Yt ?_
 refine tw pm1 ?_
 refine tw Yt ?_
 refine tw (ob0 (congrArg (fun z' => OB.set keyI m2 (z')) (show z5.1 = ((⟨(m2, z5.1), z5.2.reach⟩ : { q' : Nat × List Int // IsReach us n q'.2 }).1.2) from rfl))) ?_
 refine Zi (fun a w h => Yh  (m := 0) (⟨(m2, z5.1), z5.2.reach⟩ : { q' : Nat × List Int // IsReach us n q'.2 }) rfl h rfl rfl)
end Go.Proofs.YtnpgmdffjemnbaaGreatDoor
namespace Go.Proofs.YtnpgmdffjemnbaaGreatDoor

open Classical in
noncomputable def ZeR (us : List (List Int)) (n : Nat) : List Int := ((List.range n).filter fun (p : Nat) => decide (Rch us n (p : Int))).map fun (p : Nat) => (p : Int)
open Classical in
theorem nedL_mem {us : List (List Int)} {n : Nat} {x : Int} : x ∈ ZeR us n ↔ 0 ≤ x ∧ x < n ∧ Rch us n x := by
  unfold ZeR
  rw [List.mem_map]
  constructor
  · rintro ⟨p, hp, rfl⟩
    rw [List.mem_filter, List.mem_range, decide_eq_true_eq] at hp
    exact ⟨by omega, by omega, hp.2⟩
  · rintro ⟨h1, h2, h3⟩
    refine ⟨x.toNat, ?_, by omega⟩
    rw [List.mem_filter, List.mem_range, decide_eq_true_eq, show ((x.toNat : Nat) : Int) = x by omega]
    exact ⟨by omega, h3⟩
open Classical in
theorem ZdP (us : List (List Int)) (n : Nat) : (ZeR us n).Pairwise (· < ·) := by
  unfold ZeR
  rw [List.pairwise_map]
  refine List.Pairwise.imp (R := (· < ·)) (fun {a b} h => by omega) ?_
  exact List.pairwise_lt_range.filter _
open Classical in
theorem Zla (us : List (List Int)) (n : Nat) : (ZeR us n).length ≤ n := by
  rw [ZeR, List.length_map]
  exact Nat.le_trans (List.length_filter_le _ _) (by simp)
theorem ZdF {us : List (List Int)} {n : Nat} {ys : List Int} (h : IsReach us n ys) (hd : Xe us) : ∀ x ∈ ys, 0 ≤ x ∧ x ≤ n := fun x hx => ((h.iff x).1 hx).le hd (by omega)
theorem ZeB {us : List (List Int)} {n : Nat} {ys : List Int} (h : IsReach us n ys) (hd : Xe us) : ys.length ≤ n + 1 := by
  have := Zco h.nod (ys := (List.range (n + 1)).map fun (p : Nat) => (p : Int)) fun x hx => by
    have := ZdF h hd x hx
    rw [List.mem_map]
    exact ⟨x.toNat, by rw [List.mem_range]; omega, by omega⟩
  simpa using this
theorem ZeA {us : List (List Int)} {n : Nat} {ys : List Int} (h : IsReach us n ys) (hd : Xe us) : Y3 (ys.erase (n : Int)) = ZeR us n := by
  refine ZaR (h.nod.erase _) (ZdP us n) fun x => ?_
  rw [h.nod.mem_erase_iff, h.iff, nedL_mem]
  constructor
  · rintro ⟨h1, h2⟩
    have := h2.le hd (by omega)
    exact ⟨this.1, by omega, h2⟩
  · rintro ⟨h1, h2, h3⟩
    exact ⟨by omega, h3⟩
def Zid (acc : List Int) (l : List Int) : Int := l.foldl (fun m x => max m (ge acc x.toNat + 1)) 0
def ZT (us : List (List Int)) : List Int := us.foldl (fun acc l => acc ++ [Zid acc l]) []
theorem Za7 (us : List (List Int)) (l : List Int) : ZT (us ++ [l]) = ZT us ++ [Zid (ZT us) l] := by simp [ZT]
theorem XV (us : List (List Int)) : (ZT us).length = us.length := by
  rw [← List.reverse_reverse us]
  induction us.reverse with
  | nil => rfl
  | cons l m ih => rw [List.reverse_cons, Za7, List.length_append, ih]; simp
theorem ZcF (acc l : List Int) (x : Int) : Zid acc (l ++ [x]) = max (Zid acc l) (ge acc x.toNat + 1) := by simp [Zid]
theorem ZnV {acc : List Int} {b : Int} (h0 : 0 ≤ b) (h : ∀ x ∈ acc, x + 1 ≤ b) (h1 : 1 ≤ b) : ∀ l, 0 ≤ Zid acc l ∧ Zid acc l ≤ b := by
  intro l
  rw [← List.reverse_reverse l]
  induction l.reverse with
  | nil => exact ⟨Int.le_refl _, h0⟩
  | cons x m ih =>
    rw [List.reverse_cons, ZcF]
    have hg : ge acc x.toNat + 1 ≤ b := by
      rcases Nat.lt_or_ge x.toNat acc.length with hl | hl
      · exact h _ (Zb hl)
      · rw [ge, List.getD_eq_getElem?_getD, List.getElem?_eq_none hl]
        exact h1
    omega
theorem ZcG (us : List (List Int)) : ∀ x ∈ ZT us, 0 ≤ x ∧ x ≤ us.length := by
  rw [← List.reverse_reverse us]
  induction us.reverse with
  | nil => simp [ZT]
  | cons l m ih =>
    intro x hx
    rw [List.reverse_cons, Za7] at hx
    rw [List.reverse_cons, List.length_append, List.length_singleton]
    rcases List.mem_append.1 hx with hx | hx
    · have := ih x hx; omega
    · rw [List.mem_singleton.1 hx]
      have := ZnV (acc := ZT m.reverse) (b := (m.reverse.length : Int) + 1) (by omega) (fun y hy => by have := ih y hy; omega) (by omega) l
      omega
def ZdZ (us : List (List Int)) (n k j : Nat) : List Int := (ZT (us.take k) ++ List.replicate (n - k) 0).set k (Zid (ZT (us.take k)) ((ge us k).take j))
theorem ZlA {us : List (List Int)} {n k j : Nat} (hn : n = us.length) (hk : k ≤ n) : (ZdZ us n k j).length = n := by
  rw [ZdZ, List.length_set, List.length_append, XV, List.length_replicate, List.length_take]; omega
theorem ZjI {us : List (List Int)} {n k : Nat} (hn : n = us.length) (hk : k < n) : ZT (us.take k) ++ List.replicate (n - k) 0 = ZdZ us n k 0 := by
  have hl : (ZT (us.take k)).length = k := by rw [XV, List.length_take]; omega
  rw [ZdZ, List.take_zero]
  refine X4 (by rw [List.length_set]) fun j hj => ?_
  rw [QU (by simp [hl]; omega)]
  by_cases e : j = k
  · rw [if_pos e, e, ge, List.getD_eq_getElem?_getD, List.getElem?_append_right (by omega), hl, Nat.sub_self, List.getElem?_replicate, if_pos (by omega)]
    rfl
  · rw [if_neg e]
theorem ZnW {us : List (List Int)} {n k j : Nat} (hn : n = us.length) (hk : k < n) : ge (ZdZ us n k j) k = Zid (ZT (us.take k)) ((ge us k).take j) := by
  have hl : (ZT (us.take k)).length = k := by rw [XV, List.length_take]; omega
  rw [ZdZ, QU (by simp [hl]; omega), if_pos rfl]
theorem Zha {us : List (List Int)} {n k j p : Nat} (hn : n = us.length) (hk : k < n) (hp : p < k) : ge (ZdZ us n k j) p = ge (ZT (us.take k)) p := by
  have hl : (ZT (us.take k)).length = k := by rw [XV, List.length_take]; omega
  rw [ZdZ, QU (by simp [hl]; omega), if_neg (by omega), ge, ge, List.getD_eq_getElem?_getD, List.getD_eq_getElem?_getD, List.getElem?_append_left (by omega)]
theorem ZjJ {us : List (List Int)} {n k j : Nat} (hd : Xe us) (hn : n = us.length) (hk : k < n) (hj : j < (ge us k).length) : (ZdZ us n k j).set k (max (ge (ZdZ us n k j) k) (ge (ZdZ us n k j) (ge (ge us k) j).toNat + 1)) = ZdZ us n k (j + 1) := by
  have hx := hd k _ (Zb hj)
  rw [ZnW hn hk, Zha hn hk (by omega), ZdZ, List.set_set, ZdZ, ZS hj, ZcF]
theorem ZlB {us : List (List Int)} {n k j : Nat} (hn : n = us.length) (hk : k < n) (hj : (ge us k).length ≤ j) : ZdZ us n k j = ZT (us.take (k + 1)) ++ List.replicate (n - (k + 1)) 0 := by
  have hl : (ZT (us.take k)).length = k := by rw [XV, List.length_take]; omega
  rw [ZdZ, Zp hj, ZS (by omega), Za7, List.set_append_right _ _ (by omega), hl, Nat.sub_self, show n - k = (n - (k + 1)) + 1 by omega, List.replicate_succ, List.set_cons_zero, List.append_assoc]
  rfl
end Go.Proofs.YtnpgmdffjemnbaaGreatDoor
set_option maxHeartbeats 8000000
set_option maxRecDepth 100000
namespace Go.Proofs.YtnpgmdffjemnbaaGreatDoor
open Go.RowKit

theorem ZkV {J : World → Prop} (hJ : Stab J) (d : Db) (us : List (List Int)) (hd : Xe us) (hl : us.length ≤ 400) : Fn Tryz.prog J 52 [.ptr [Zg d.consts, Zg d.vars, Yn d.frames, ZF us]] (.rd (ZG (ZT us))) := by
 refine Zx (N := 46) Tryz.func52 rfl rfl (lb rfl) fun S w0 hS hJ0 => ?_
 refine tw Yi ?_
 refine Za (rgo tb hJ [0] [_] [] [(_, _)] rfl rfl rfl rfl trivial (nx (Za (Zn (sv tb rfl rfl rfl rfl (sv (av := .ptr [Zg d.consts, Zg d.vars, Yn d.frames, ZF us]) tb rfl rfl rfl rfl (sv (av := .ptr [ZF us]) tb rfl rfl rfl rfl (sv (av := .rd (ZF us)) tb rfl rfl rfl rfl (sq (.int us.length) rfl rfl (lb rfl) (fun _ _ h => Yy Xw rfl (h.get 0 rfl) h.x) (Zdc (f := Yq) (k := us.length) (0 : Int) ZhP rfl hJ rfl rfl rfl (lb rfl) (fun a w h => ⟨(h.get 0 rfl), (h.get 0 rfl)⟩) (by omega) (by omega) fun v1 => ?_))))))))))
 refine sv tb rfl rfl rfl rfl (Zy ?_)
 refine kw (lz [0, 3, 7] (env' := [(_, _), (_, _), (_, _)]) rfl) ?_
 refine nx (Zf (fun a w h => Zj h 1 rfl) fun hl1 => Za (Za (rgo tb hJ [0, 1003, 1004, 1005] [_, _, _, _, _, _] [4] [(_, _), (_, .rd (ZF us)), (_, .int us.length), (_, .int (0 : Int))] rfl rfl rfl rfl ⟨Ys Xw rfl rfl rfl rfl, trivial⟩ (nx (Ze (Zw (ι := Nat × Value × (List Int)) (fun (ii' : Nat × Value × (List Int)) a w => match ii' with | (k, vo, out) => ((k ≤ us.length) ∧ (out = ZT (us.take k) ++ List.replicate (us.length - k) 0)) ∧ St All (SO S [OB.row vo 3 1 (out.map Yq)]) w0 46 [(17, .rd (ZF us)), (18, .int us.length), (19, .int k), (3, .lit vo)] (XO J S w0.heap.size [OB.row vo 3 1 (out.map Yq)]) a w) (fun (ii' : Nat × Value × (List Int)) => match ii' with | (k, _, _) => (us.length - k : Nat)) ?_ ?_))))))
 intro a w h
 exact ⟨(0, v1, List.replicate us.length (0 : Int)), (show (0 ≤ us.length) ∧ ((List.replicate us.length (0 : Int)) = ZT (us.take 0) ++ List.replicate (us.length - 0) 0) from ⟨Nat.zero_le _, by simp [ZT]⟩), lz [1, 2, 3, 0] rfl h⟩
 rintro ⟨k, vo, out⟩
 refine ZD fun hF => ?_
 obtain ⟨f1_1, f1_2⟩ := hF
 refine Za (rgo tb hJ [0, 1, 2, 3, 1000] [_] [] [(_, _), (_, _), (_, _), (_, _), (_, .bool (decide ((k : Int) < (us.length : Int))))] rfl rfl rfl rfl trivial (nx (Za (tc 4 rfl rfl (fun hb1 => ?_) (fun hb1 => ?_)))))
 try simp at hb1
 refine Zd (nx (Za (Ze (Za (rgo tb hJ [0, 1, 2, 3, 1002, 1003, 1004] [_, .ptr [ZG (ge us k)], _, _, _] [1] [(_, _), (_, _), (_, _), (_, _), (_, .rd (ZG (ge us k))), (_, .int k), (_, .rd (ZG (ge us k)))] rfl rfl rfl rfl ⟨hIx Z7 (by first | omega | (simp; omega) | grind [Zb]) rfl rfl rfl rfl rfl rfl, trivial⟩ (nx (Zf (fun a w h => Zj h 4 rfl) fun hl2 => Za (rgo tb hJ [0, 1, 2, 3, 5, 1000, 1001, 1002] [_, _, _] [1] [(_, _), (_, _), (_, _), (_, _), (_, _), (_, .rd (ZG (ge us k))), (_, .int (((ge us k).length : Nat) : Int)), (_, .int (0 : Int))] rfl rfl rfl rfl ⟨Ys Yx rfl rfl rfl rfl, trivial⟩ (nx (Ze (Zw (ι := Nat × Value × (List Int)) (fun (ii' : Nat × Value × (List Int)) a w => match ii' with | (j, vp, ou2) => ((j ≤ (ge us k).length) ∧ (ou2 = ZdZ us us.length k j)) ∧ St All (SO S [OB.row vp 3 1 (ou2.map Yq)]) w0 46 [(17, .rd (ZF us)), (18, .int us.length), (19, .int k), (4, .int k), (24, .rd (ZG (ge us k))), (25, .int (((ge us k).length : Nat) : Int)), (26, .int j), (3, .lit vp)] (XO J S w0.heap.size [OB.row vp 3 1 (ou2.map Yq)]) a w) (fun (ii' : Nat × Value × (List Int)) => match ii' with | (j, _, _) => ((ge us k).length - j : Nat)) ?_ ?_)))))))))))
 intro a w h
 exact ⟨(0, vo, out), (show (0 ≤ (ge us k).length) ∧ (out = ZdZ us us.length k 0) from ⟨Nat.zero_le _, by rw [f1_2]; exact ZjI rfl (by omega)⟩), lz [0, 1, 2, 4, 5, 6, 7, 3] rfl h⟩
 rintro ⟨j, vp, ou2⟩
 refine ZD fun hF => ?_
 obtain ⟨f2_1, f2_2⟩ := hF
 refine Za (rgo tb hJ [0, 1, 2, 3, 4, 5, 6, 7, 1000] [_] [] [(_, _), (_, _), (_, _), (_, _), (_, _), (_, _), (_, _), (_, _), (_, .bool (decide ((j : Int) < (((ge us k).length : Nat) : Int))))] rfl rfl rfl rfl trivial (nx (Za (tc 8 rfl rfl (fun hb2 => ?_) (fun hb2 => ?_)))))
 try simp at hb2
 have e3 : ou2.length = us.length := by rw [f2_2]; exact ZlA rfl (by omega)
 have e4 := hd k _ (Zb (xs := ge us k) (k := j) (by omega))
 have e5 : 0 ≤ ge ou2 (ge (ge us k) j).toNat ∧ ge ou2 (ge (ge us k) j).toNat ≤ 400 := by rw [f2_2, Zha rfl (by omega) (by omega)]; have := ZcG (us.take k) _ (Zb (xs := ZT (us.take k)) (k := (ge (ge us k) j).toNat) (by rw [XV, List.length_take]; omega)); rw [List.length_take] at this; omega
 refine Zd (nx (Za (Ze (Za (rgo tb hJ [0, 1, 2, 3, 4, 5, 6, 7, 1002] [.ptr [.lit (.int .i64 (ge (ge us k) j))], _, _] [0] [(_, _), (_, _), (_, _), (_, _), (_, _), (_, _), (_, _), (_, _), (_, .int (ge (ge us k) j))] rfl rfl rfl rfl ⟨hIx Zo (by first | omega | (simp; omega) | grind [Zb]) rfl rfl rfl rfl rfl rfl, trivial⟩ (nx ?_))))))
 refine fun a w h => Xo (γ := Unit) (fun ix' => ([.lit vp, .int k, .lit vp, .int k, .lit (XI vp (k * 1)), .int (ge ou2 k), .lit vp, .int (ge (ge us k) j), .lit (XI vp ((ge (ge us k) j).toNat * 1)), .int (ge ou2 ((ge (ge us k) j).toNat)), .int ((ge ou2 ((ge (ge us k) j).toNat)) + (1 : Int)), .int (max (ge ou2 k) ((ge ou2 ((ge (ge us k) j).toNat)) + (1 : Int))), .lit (XI vp (k * 1)), .any] : List AV).getD ix' .any) (fun ix' => ([true, true, true, true, true, true, true, true, true, true, true, true, true, true] : List Bool).getD ix' true) [(17, fun (g : Unit) => .rd (ZF us)), (18, fun (g : Unit) => .int us.length), (19, fun (g : Unit) => .int k), (4, fun (g : Unit) => .int k), (24, fun (g : Unit) => .rd (ZG (ge us k))), (25, fun (g : Unit) => .int (((ge us k).length : Nat) : Int)), (26, fun (g : Unit) => .int j), (3, fun (g : Unit) => .lit vp)] (fun (j' : Nat) (g : Unit) => match j' with | 0 => [OB.row vp 3 1 (ou2.map Yq)] | _ => [OB.row vp 3 1 ((ou2.set k (max (ge ou2 k) ((ge ou2 ((ge (ge us k) j).toNat)) + (1 : Int)))).map Yq)]) (fun (k' : Nat) (g : Unit) => match k' with | 0 => undef | _ => undef) [13] 0 () (fun _ => rfl) h hJ Y0 rfl rfl rfl rfl rfl rfl (fun j' g hj p hp => by rcases j' with _ | _ | _ | j' <;> first | exact hp | exact List.mem_cons_of_mem _ hp | exact List.mem_cons_of_mem _ (List.mem_cons_of_mem _ hp) | (exfalso; omega)) ⟨?o8_1_0, ⟨?o8_1_1, ⟨?o8_1_2, ⟨?o8_1_3, ⟨?o8_1_4, ⟨?o8_1_5, ⟨?o8_1_6, ⟨?o8_1_7, ⟨?o8_1_8, ⟨?o8_1_9, ⟨?o8_1_10, ⟨?o8_1_11, ⟨?o8_1_12, ⟨?o8_1_13, trivial⟩⟩⟩⟩⟩⟩⟩⟩⟩⟩⟩⟩⟩⟩ ⟨?e8_1_0, trivial⟩ ⟨.old 0 17 _ rfl rfl, ⟨.old 1 18 _ rfl rfl, ⟨.old 2 19 _ rfl rfl, ⟨.old 3 4 _ rfl rfl, ⟨.old 4 24 _ rfl rfl, ⟨.old 5 25 _ rfl rfl, ⟨.old 6 26 _ rfl rfl, ⟨.old 7 3 _ rfl rfl, trivial⟩⟩⟩⟩⟩⟩⟩⟩ ?n8_1
 case o8_1_0 => exact fun _ O' _ => ⟨rfl, fun _ _ _ hx hl _ => Yj rfl (hl.env 7 3 _ rfl rfl) hx⟩
 case o8_1_1 => exact fun _ O' _ => ⟨rfl, fun _ _ _ hx hl _ => Yj rfl (hl.env 3 4 _ rfl rfl) hx⟩
 case o8_1_2 => exact fun _ O' _ => ⟨rfl, fun _ _ _ hx hl _ => Yj rfl (hl.env 7 3 _ rfl rfl) hx⟩
 case o8_1_3 => exact fun _ O' _ => ⟨rfl, fun _ _ _ hx hl _ => Yj rfl (hl.env 3 4 _ rfl rfl) hx⟩
 case o8_1_4 => exact fun _ O' hO' => ⟨rfl, fun _ _ _ hx hl _ => Yu (i := (k : Int)) Zo rfl (ZA hx (hO' _ (mo 0 rfl))) (hl.dep 2 32 _ rfl rfl rfl rfl) (hl.dep 3 33 _ rfl rfl rfl rfl) (Int.natCast_nonneg _) (by rw [List.length_map]; exact Int.ofNat_lt.2 (by omega)) hx⟩
 case o8_1_5 => exact fun _ O' hO' => ⟨rfl, fun _ _ _ hx hl _ => XP (i := k) Zi9 rfl (ZA hx (hO' _ (mo 0 rfl))) (hl.dep 4 34 _ rfl rfl rfl rfl) (ZaS (xs := ou2) (k := k) (by omega)) hx⟩
 case o8_1_6 => exact fun _ O' _ => ⟨rfl, fun _ _ _ hx hl _ => Yj rfl (hl.env 7 3 _ rfl rfl) hx⟩
 case o8_1_7 => exact fun _ O' _ => ⟨rfl, fun _ _ _ hx hl _ => Yj rfl (hl.env 8 7 _ rfl rfl) hx⟩
 case o8_1_8 => exact fun _ O' hO' => ⟨rfl, fun _ _ _ hx hl _ => Yu (i := (ge (ge us k) j)) Zo rfl (ZA hx (hO' _ (mo 0 rfl))) (hl.dep 6 36 _ rfl rfl rfl rfl) (hl.dep 7 37 _ rfl rfl rfl rfl) (by omega) (by rw [List.length_map]; exact (by omega)) hx⟩
 case o8_1_9 => exact fun _ O' hO' => ⟨rfl, fun _ _ _ hx hl _ => XP (i := (ge (ge us k) j).toNat) Zi9 rfl (ZA hx (hO' _ (mo 0 rfl))) (hl.dep 8 38 _ rfl rfl rfl rfl) (ZaS (xs := ou2) (k := (ge (ge us k) j).toNat) (by omega)) hx⟩
 case o8_1_10 => exact fun _ O' _ => ⟨rfl, fun _ _ _ hx hl _ => ZkN (i := (ge ou2 ((ge (ge us k) j).toNat))) (j := (1 : Int)) rfl (hl.dep 9 39 _ rfl rfl rfl rfl) (Rel.of_lit (Go.Value.int Go.IntKind.i64 1)) (by first | omega | (simp; omega) | grind [Zb]) (by first | omega | (simp; omega) | grind [Zb]) hx⟩
 case o8_1_11 => exact fun _ O' _ => ⟨rfl, fun _ _ _ hx hl _ => r_max rfl (hl.dep 5 35 _ rfl rfl rfl rfl) (hl.dep 10 40 _ rfl rfl rfl rfl) hx⟩
 case o8_1_12 => exact fun _ O' hO' => ⟨rfl, fun _ _ _ hx hl _ => Yu (i := (k : Int)) Zo rfl (ZA hx (hO' _ (mo 0 rfl))) (hl.dep 0 30 _ rfl rfl rfl rfl) (hl.dep 1 31 _ rfl rfl rfl rfl) (Int.natCast_nonneg _) (by rw [List.length_map]; exact Int.ofNat_lt.2 (by omega)) hx⟩
 case o8_1_13 => exact Zs rfl
 case e8_1_0 => exact ⟨_, rfl, rfl, rfl, rfl, fun g _ w hk hx hl _ => ZJ (ZcH (f := Yq) (i := k) (max (ge ou2 k) ((ge ou2 ((ge (ge us k) j).toNat)) + (1 : Int))) rfl hJ hJ0 Zkz rfl hk hx (hl.dep 12 42 _ rfl rfl rfl rfl) (hl.dep 11 41 _ rfl rfl rfl rfl) (by omega)) fun v w' hp => ⟨g, rfl, fun _ _ => rfl, fun e => (by cases e), hp⟩⟩
 clear a w h
 intro _
 change ∀ a w, St All (SO S [OB.row vp 3 1 ((ou2.set k (max (ge ou2 k) ((ge ou2 ((ge (ge us k) j).toNat)) + (1 : Int)))).map Yq)]) w0 46 [(17, .rd (ZF us)), (18, .int us.length), (19, .int k), (4, .int k), (24, .rd (ZG (ge us k))), (25, .int (((ge us k).length : Nat) : Int)), (26, .int j), (3, .lit vp)] (XO J S w0.heap.size [OB.row vp 3 1 ((ou2.set k (max (ge ou2 k) ((ge ou2 ((ge (ge us k) j).toNat)) + (1 : Int)))).map Yq)]) a w → _
 refine nx (rgo tb hJ [0, 1, 2, 3, 4, 5, 7, 1001] [.int ((j + 1 : Nat) : Int), _] [0] [(_, _), (_, _), (_, _), (_, _), (_, _), (_, _), (_, _), (_, .int ((j + 1 : Nat) : Int))] rfl rfl rfl rfl ⟨Yc (by first | omega | (simp; omega) | grind [Zb]) rfl rfl rfl rfl rfl, trivial⟩ ?_)
 intro a w h; change ∃ j, _ ∧ _
 exact ⟨(j + 1, vp, ou2.set k (max (ge ou2 k) ((ge ou2 ((ge (ge us k) j).toNat)) + (1 : Int)))), ⟨⟨(show (j + 1) ≤ (ge us k).length from by omega), (show (ou2.set k (max (ge ou2 k) ((ge ou2 ((ge (ge us k) j).toNat)) + (1 : Int)))) = ZdZ us us.length k (j + 1) from by rw [f2_2]; exact ZjJ hd rfl (by omega) (by omega))⟩, lz [0, 1, 2, 3, 4, 5, 7, 6] rfl h⟩, (show (ge us k).length - (j + 1) < (ge us k).length - j from by first | omega | (simp; omega))⟩
 try simp at hb2
 refine Zv (nx (rgo tb hJ [0, 1, 7, 1001] [.int ((k + 1 : Nat) : Int), _] [0] [(_, _), (_, _), (_, _), (_, .int ((k + 1 : Nat) : Int))] rfl rfl rfl rfl ⟨Yc (by first | omega | (simp; omega) | grind [Zb]) rfl rfl rfl rfl rfl, trivial⟩ ?_))
 intro a w h; change ∃ j, _ ∧ _
 exact ⟨(k + 1, vp, ou2), ⟨⟨(show (k + 1) ≤ us.length from by omega), (show ou2 = ZT (us.take (k + 1)) ++ List.replicate (us.length - (k + 1)) 0 from by rw [f2_2]; exact ZlB rfl (by omega) (by omega))⟩, lz [0, 1, 3, 2] rfl h⟩, (show us.length - (k + 1) < us.length - k from by first | omega | (simp; omega))⟩
 try simp at hb1
 refine Zv (nx (Za (rgo tb hJ [1001] [_, _] [] [(_, .lit vo)] rfl rfl rfl rfl trivial (nx ?_))))
 refine tw (fun h => ZO hS h (m := 0) (s := 2) rfl) ?_
 refine Zi (fun a w h => Zh (m := 0) rfl (Zl h) rfl (congrArg (fun z => AV.rd (ZG z)) (show out = (ZT us) from by rw [f1_2, Zp (by omega), show us.length - k = 0 by omega]; simp)))
end Go.Proofs.YtnpgmdffjemnbaaGreatDoor
set_option maxHeartbeats 8000000
set_option maxRecDepth 100000
namespace Go.Proofs.YtnpgmdffjemnbaaGreatDoor
open Go.RowKit

theorem Zi0 {J : World → Prop} (hJ : Stab J) (M : Nat) (xs : List Int) (hx : ∀ x ∈ xs, 0 ≤ x ∧ x < 1000) (hl : xs.length ≤ 1000) : FnM (ι := Value) Tryz.prog J 48 [] [.lit (.map (some M))] [OB.set keyI M xs] (fun i' => .lit i') (fun i' => [OB.row i' 3 1 ((Y3 xs).map Yq), OB.set keyI M xs]) := by
  intro S w0 R w vs hS hJ0 _ hk0 hxo ha
  simp only [RelL] at ha
  obtain ⟨u, us, rfl, h1, rfl⟩ := ha
  rw [h1.lit]
  have hi := hxo.2.1 (OB.set keyI M xs) (by simp)
  obtain ⟨D0, hown, hp, hsz⟩ := Zgs hi (fun x hxx => by have := hx x hxx; simp [Lit.wf, IntKind.min, IntKind.max, IntKind.bits, IntKind.signed]; omega) (by unfold maxLen; omega)
  refine (Zgp M xs.length D0 _ w hown (by rw [hsz]; unfold maxLen; omega) (by rw [hsz]; omega)).mono fun e w' ⟨v, ss, he, hS', hrow, _, hb⟩ => ?_
  have hk : Keeps All w w' := (Keeps.of_below hb).sub fun k hk _ => hk
  have e0 : ss.mergeSort (fun x y => decide (x ≤ y)) = Y3 xs := mergeSort_of_perm_i (hS'.trans hp)
  rw [e0] at hrow
  have hlen : (Y3 xs).length = ss.length := by rw [← e0, List.length_mergeSort]
  have hcells : ∀ (S : Nat → Prop) (w : World) (l : List Int), RdL S w ((l.map Yq).flatten) (l.map encZ) := by
    intro S w l
    induction l with
    | nil => trivial
    | cons x l ih => exact ⟨.lit _ True.intro, ih⟩
  have hinv : ∀ lo S, lo ≤ w.heap.size → (OB.row v 3 1 ((Y3 xs).map Yq)).inv lo S w' := fun lo S hlo => ⟨(Y3 xs).map encZ, by rw [List.length_map, hlen]; exact ownsRow_base_a hrow hlo, hcells S w' _, fun r hr => by obtain ⟨x, _, rfl⟩ := List.mem_map.1 hr; rfl⟩
  have hadd := Xn (o := OB.row v 3 1 ((Y3 xs).map Yq)) hJ hk0 hxo hk (fun k hb => ((OB.row v 3 1 ((Y3 xs).map Yq)).lt (hinv w.heap.size All (Nat.le_refl _)) k hb).1) (hinv _ _ hk0.size)
  exact ⟨v, v, he, Rel.of_lit _ (Zbn (hinv w.heap.size All (Nat.le_refl _))), hadd.1, hadd.2.1⟩

theorem Zny {J : World → Prop} (hJ : Stab J) (d : Db) (i : Int) (hw : ∀ f ∈ d.frames, f.wide.length * 32 ≤ 140737488351232) (hG : X5 J) : FnM (ι := Value) Tryz.prog J 15 [] [.agg (dbC d), .int i] [] (fun i' => .tup [.lit (i'), .int (QV d i)]) (fun i' => [OB.row i' 3 1 ((if QV d i = 0 then ZeR (usL d d.frames.length) i.toNat else []).map Yq)]) := by
 refine YK (N := 26) Tryz.func15 rfl rfl (lb rfl) fun S w0 R hS hJ0 hH => ?_
 refine XA (B := St All (SO S (R)) w0 26 [(0, .agg (dbC d)), (1, .int i)] (XO J S w0.heap.size (R))) ?_ fun a w h => h
 refine Za (rgo tb hJ [1, 1000] [_, _, _] [0] [(_, _), (_, .ptr (dbC d))] rfl rfl rfl rfl ⟨fun _ _ hk hx hl _ => Yv rfl (hl.env 0 0 _ rfl rfl) (Zr hS _ hk hx _ (Nat.le_refl _)) (jo hJ hx), trivial⟩ (nx (Za (rgo tb hJ [0, 1002, 1007, 1008] [_, _, _, .tup [gAV (rdE d ([i])) [Zg d.consts, Zg d.vars, Yn d.frames, ZF (usL d d.frames.length)], .int (rdE d ([i]))], _, _, _, _, _] [2, 3] [(_, _), (_, .rd (ZG ([i]))), (_, gAV (rdE d ([i])) [Zg d.consts, Zg d.vars, Yn d.frames, ZF (usL d d.frames.length)]), (_, .int (rdE d ([i])))] rfl rfl rfl rfl ⟨fun _ _ hk hx hl _ => ZV Zo Xu rfl (hl.dep 1 11 _ rfl rfl rfl rfl) (Zr hS _ hk hx _ (Nat.le_refl _)) (jo hJ hx), hFo hS hJ (ZgL hJ (d := d) (ns := ([i])) (hw) (hG)) Zd9 rfl rfl rfl rfl, trivial⟩ (nx (Zf (fun a w h => Zj h 1 rfl) fun hl1 => Za (Za (rgo tb hJ [0, 2, 3, 1001] [_, _] [] [(_, _), (_, _), (_, _), (_, .bool (!decide (rdE d ([i]) = (0 : Int))))] rfl rfl rfl rfl trivial (nx (tc 3 rfl rfl (fun hb1 => ?_) (fun hb1 => ?_)))))))))))
 have c1 : ¬ QV d i = 0 := by rw [← Zch]; exact ZaX hb1
 refine Za (rgo tb hJ [1001, 1002] [_, _, _] [] [(_, .lit (.slice none 0 0)), (_, .int (rdE d ([i])))] rfl rfl rfl rfl trivial (nx ?_))
 refine tw (YI 3 1 hJ) ?_
 refine tw (ob0 (congrArg (fun z' => OB.row (.slice none 0 0) 3 1 ((z').map Yq)) (show ([] : List Int) = (if QV d i = 0 then ZeR (usL d d.frames.length) i.toNat else []) from by first | (rw [if_neg c1]; done) | (rw [if_pos c0]; exact ZeA z1.2 (ZK _ _))))) ?_
 refine Zi (fun a w h => Zjn  (m := 0) (k := 1) (.slice none 0 0) rfl h rfl rfl (tup2 rfl (congrArg AV.int (show (rdE d ([i])) = (QV d i) from by first | exact Zch d i | exact c0.symm))))
 have c0 : QV d i = 0 := by rw [← Zch]; exact Zek hb1
 have c2 := Zh5 c0
 have c3 := XZ c2.1
 refine tw (sa 1 rfl (show (gAV (rdE d ([i])) [Zg d.consts, Zg d.vars, Yn d.frames, ZF (usL d d.frames.length)] : AV) = .ptr [Zg d.consts, Zg d.vars, Yn d.frames, ZF (usL d d.frames.length)] from ZaA (by rw [Zch]; exact c0))) ?_
 refine Zd (nx (Za ?_))
 refine tw (sa 0 rfl (congrArg AV.int (show i = (i.toNat : Int) from by omega))) ?_
 refine Zn (sv tb rfl rfl rfl rfl (sv tb rfl rfl rfl rfl (Zat (O := []) (R := (R)) (ZdK hJ (d := d) (us := (usL d d.frames.length)) (n := i.toNat) (ZK _ _) (by rw [YA]; omega)) Zd7 rfl rfl rfl (lb rfl) hS hJ0 ZP (fun a w h => (Zc (h.get 1 rfl) (Zc (h.get 0 rfl) Zm))) fun z1 => ?_)))
 refine sv tb rfl rfl rfl rfl (Zy ?_)
 refine kw (lz [0, 4] (env' := [(_, _), (_, _)]) rfl) ?_
 refine nx (Za (Zn (sv tb rfl rfl rfl rfl (sv tb rfl rfl rfl rfl (Znl XQ hJ hJ0 (i.toNat : Int) rfl rfl (fun a w h => ⟨(h.get 1 rfl), (h.get 0 rfl)⟩) rfl (Zy ?_))))))
 refine kw (lz [2] (env' := [(_, _)]) rfl) ?_
 refine nx (Za (Zn (sv tb rfl rfl rfl rfl (Zat (O := [OB.set keyI z1.1.1 (z1.1.2.erase (i.toNat : Int))]) (R := (R)) (Zi0 hJ (M := z1.1.1) (xs := (z1.1.2.erase (i.toNat : Int))) (fun x hx => by have := ZdF z1.2 (ZK _ _) x (List.mem_of_mem_erase hx); omega) (by have := ZeB z1.2 (ZK _ _); have := List.length_erase_le (a := (i.toNat : Int)) (l := z1.1.2); omega)) Zf6 rfl rfl rfl (lb rfl) hS hJ0 ZP (fun a w h => (Zc (h.get 0 rfl) Zm)) fun z2 => ?_))))
 refine sv tb rfl rfl rfl rfl (sv tb rfl rfl rfl rfl (Zy ?_))
 refine kw (lz [0, 1] (env' := [(_, _), (_, _)]) rfl) ?_
 refine nx ?_
 refine tw pm1 ?_
 refine tw Yt ?_
 refine tw (ob0 (congrArg (fun z' => OB.row z2 3 1 ((z').map Yq)) (show (Y3 (z1.1.2.erase (i.toNat : Int))) = (if QV d i = 0 then ZeR (usL d d.frames.length) i.toNat else []) from by first | (rw [if_neg c1]; done) | (rw [if_pos c0]; exact ZeA z1.2 (ZK _ _))))) ?_
 refine Zi (fun a w h => Zjn  (m := 1) (k := 0) z2 rfl h rfl rfl (tup2 rfl (congrArg AV.int (show (0 : Int) = (QV d i) from by first | exact Zch d i | exact c0.symm))))
end Go.Proofs.YtnpgmdffjemnbaaGreatDoor
namespace Go.Proofs.YtnpgmdffjemnbaaGreatDoor

inductive RchW (us : List (List Int)) (wo : Int) (a : Int) : Int → Prop where
  | refl : RchW us wo a a
  | snoc (r b : Int) (h : RchW us wo a r) (h1 : r ≠ wo) (h2 : b ∈ ge us r.toNat) (h3 : b ≠ wo) : RchW us wo a b
theorem RchW.le {us : List (List Int)} (hd : Xe us) {wo a b : Int} (h : RchW us wo a b) (ha : 0 ≤ a) : 0 ≤ b ∧ b ≤ a := by
  induction h with
  | refl => exact ⟨ha, Int.le_refl _⟩
  | snoc r b _ _ h2 _ ih =>
    have := hd _ b h2
    omega
theorem RchW.all {us : List (List Int)} (hd : Xe us) {a b : Int} (ha : 0 ≤ a) : RchW us (-1) a b ↔ Rch us a b := by
  constructor
  · intro h
    induction h with
    | refl => exact .refl _
    | snoc r b _ _ h2 _ ih => exact ih.trans (.one h2)
  · intro h
    have key : ∀ x y, Rch us x y → RchW us (-1) a x → RchW us (-1) a y := by
      intro x y hxy
      induction hxy with
      | refl => exact id
      | step i x y hx _ ih => exact fun hi => ih (.snoc _ _ hi (by have := hi.le hd ha; omega) hx (by have := hd _ x hx; omega))
    exact key _ _ h .refl
def MkI (us : List (List Int)) (wo : Int) (i q : Nat) (mk : List Bool) : Prop := ∀ p, p < mk.length → (ge mk p = true ↔ (p = i ∨ ∃ r : Nat, q ≤ r ∧ RchW us wo i r ∧ (r : Int) ≠ wo ∧ (p : Int) ∈ ge us r ∧ (p : Int) ≠ wo))
def MkJ (us : List (List Int)) (wo : Int) (i k j : Nat) (mk : List Bool) : Prop := ∀ p, p < mk.length → (ge mk p = true ↔ (p = i ∨ (∃ r : Nat, k < r ∧ RchW us wo i r ∧ (r : Int) ≠ wo ∧ (p : Int) ∈ ge us r ∧ (p : Int) ≠ wo) ∨ ∃ j', j' < j ∧ (p : Int) = ge (ge us k) j' ∧ (p : Int) ≠ wo))
section
variable {us : List (List Int)} {wo : Int} {i q : Nat} {mk : List Bool}
theorem Zlc {n : Nat} (hd : Xe us) (hi : i < n) : MkI us wo i (i + 1) ((List.replicate n false).set i true) := fun p hp => by
  rw [QU (by simpa using hi)]
  by_cases e : p = i
  · simp [e]
  · rw [if_neg e]
    have : ge (List.replicate n false) p = false := by
      rw [ge, List.getD_eq_getElem?_getD, List.getElem?_replicate]
      split <;> rfl
    rw [this]
    constructor
    · intro h; cases h
    · rintro (h | ⟨r, h1, h2, _⟩)
      · exact absurd h e
      · have := h2.le hd (by omega); omega
theorem ZmZ (hd : Xe us) (h : MkI us wo i q mk) (hq : 0 < q) (hl : q - 1 < mk.length) : ge mk (q - 1) = true ↔ RchW us wo i ((q - 1 : Nat) : Int) := by
  rw [h (q - 1) hl]
  constructor
  · rintro (h | ⟨r, _, h2, h3, h4, h5⟩)
    · rw [h]; exact .refl
    · exact .snoc _ _ h2 h3 (by rw [Int.toNat_natCast]; exact h4) h5
  · intro h
    generalize hb : ((q - 1 : Nat) : Int) = b at h
    cases h with
    | refl => exact .inl (by omega)
    | snoc r _ h1 h2 h3 h4 =>
      have hr := h1.le hd (by omega)
      have hx := hd _ _ h3
      refine .inr ⟨r.toNat, by omega, by rw [show ((r.toNat : Nat) : Int) = r by omega]; exact h1, by rw [show ((r.toNat : Nat) : Int) = r by omega]; exact h2, h3, h4⟩
theorem ZgV (hd : Xe us) (h : MkI us wo i q mk) (hq : 0 < q) (hl : q - 1 < mk.length) (hs : ge mk (q - 1) = false ∨ ((q - 1 : Nat) : Int) = wo) : MkI us wo i (q - 1) mk := fun p hp => by
  rw [h p hp]
  refine or_congr Iff.rfl ⟨?_, ?_⟩
  · rintro ⟨r, h1, h2⟩; exact ⟨r, by omega, h2⟩
  · rintro ⟨r, h1, h2, h3, h4⟩
    refine ⟨r, ?_, h2, h3, h4⟩
    rcases Nat.lt_or_ge r q with hlt | hge
    · exfalso
      have : r = q - 1 := by omega
      subst this
      rcases hs with hs | hs
      · have := (ZmZ hd h hq hl).2 h2
        rw [hs] at this; cases this
      · exact h3 hs
    · exact hge
theorem Zlb (h : MkI us wo i q mk) (hq : 0 < q) : MkJ us wo i (q - 1) 0 mk := fun p hp => by
  rw [h p hp]
  refine or_congr Iff.rfl ⟨?_, ?_⟩
  · rintro ⟨r, h1, h2⟩; exact .inl ⟨r, by omega, h2⟩
  · rintro (⟨r, h1, h2⟩ | ⟨j, hj, _⟩)
    · exact ⟨r, by omega, h2⟩
    · omega
theorem Zje {k j : Nat} (h : MkJ us wo i k j mk) (h0 : 0 ≤ ge (ge us k) j) (hl : (ge (ge us k) j).toNat < mk.length) (hw : ge (ge us k) j ≠ wo) : MkJ us wo i k (j + 1) (mk.set (ge (ge us k) j).toNat true) := fun p hp => by
  rw [List.length_set] at hp
  rw [QU hl]
  by_cases e : p = (ge (ge us k) j).toNat
  · rw [if_pos e]
    simp only [true_iff]
    exact .inr (.inr ⟨j, by omega, by omega, by omega⟩)
  · rw [if_neg e, h p hp]
    refine or_congr Iff.rfl (or_congr Iff.rfl ⟨?_, ?_⟩)
    · rintro ⟨j', h1, h2⟩; exact ⟨j', by omega, h2⟩
    · rintro ⟨j', h1, h2, h3⟩
      refine ⟨j', ?_, h2, h3⟩
      rcases Nat.lt_or_ge j' j with h4 | h4
      · exact h4
      · have : j' = j := by omega
        subst this
        omega
theorem ZgU {k j : Nat} (h : MkJ us wo i k j mk) (hw : ge (ge us k) j = wo) : MkJ us wo i k (j + 1) mk := fun p hp => by
  rw [h p hp]
  refine or_congr Iff.rfl (or_congr Iff.rfl ⟨?_, ?_⟩)
  · rintro ⟨j', h1, h2⟩; exact ⟨j', by omega, h2⟩
  · rintro ⟨j', h1, h2, h3⟩
    refine ⟨j', ?_, h2, h3⟩
    rcases Nat.lt_or_ge j' j with h4 | h4
    · exact h4
    · have : j' = j := by omega
      subst this
      exact absurd (h2.trans hw) h3
theorem Zjf {j : Nat} (hd : Xe us) {mk0 : List Bool} (h0 : MkI us wo i q mk0) (hm : ge mk0 (q - 1) = true) (hl0 : q - 1 < mk0.length) (hw : ((q - 1 : Nat) : Int) ≠ wo) (hq : 0 < q) (h : MkJ us wo i (q - 1) j mk) (hj : (ge us (q - 1)).length ≤ j) (hj2 : j ≤ (ge us (q - 1)).length) : MkI us wo i (q - 1) mk := fun p hp => by
  rw [h p hp]
  refine or_congr Iff.rfl ⟨?_, ?_⟩
  · rintro (⟨r, h1, h2⟩ | ⟨j', h1, h2, h3⟩)
    · exact ⟨r, by omega, h2⟩
    · refine ⟨q - 1, Nat.le_refl _, (ZmZ hd h0 hq hl0).1 hm, hw, ?_, h3⟩
      rw [h2]
      exact Zb (by omega)
  · rintro ⟨r, h1, h2, h3, h4, h5⟩
    rcases Nat.lt_or_ge (q - 1) r with h6 | h6
    · exact .inl ⟨r, h6, h2, h3, h4, h5⟩
    · have : r = q - 1 := by omega
      subst this
      obtain ⟨j', hj', e⟩ := Xj h4
      exact .inr ⟨j', by omega, e.symm, h5⟩
end
open Classical in
noncomputable def Zic (us : List (List Int)) (wo : Int) (i : Nat) : List Int := ((List.range i).filter fun (p : Nat) => decide (RchW us wo i (p : Int))).map fun (p : Nat) => (p : Int)
noncomputable def Zk9 (us : List (List Int)) (wo : Int) (i m : Nat) : List Int := by
  classical
  exact ((List.range m).filter fun (p : Nat) => decide (RchW us wo i (p : Int))).map fun (p : Nat) => (p : Int)
theorem ZeQ {us : List (List Int)} {wo : Int} {i m : Nat} {b : Bool} (h : b = true ↔ RchW us wo i (m : Int)) : Zk9 us wo i (m + 1) = Zk9 us wo i m ++ (if b then [(m : Int)] else []) := by
  classical
  unfold Zk9
  rw [List.range_succ, List.filter_append, List.map_append]
  by_cases hr : RchW us wo i (m : Int)
  · simp [hr, h.2 hr]
  · have : b = false := by
      cases hb : b with
      | false => rfl
      | true => exact absurd (h.1 hb) hr
    simp [hr, this]
theorem ZgP (us : List (List Int)) (wo : Int) (i m : Nat) : (Zk9 us wo i m).length ≤ m := by
  classical
  unfold Zk9
  rw [List.length_map]
  exact Nat.le_trans (List.length_filter_le _ _) (by simp)
theorem Zjg {us : List (List Int)} {wo : Int} {i m : Nat} {mk : List Bool} (hd : Xe us) (h : MkI us wo i 0 mk) (hm : m < mk.length) : ge mk m = true ↔ RchW us wo i (m : Int) := by
  rw [h m hm]
  constructor
  · rintro (h | ⟨r, _, h2, h3, h4, h5⟩)
    · rw [h]; exact .refl
    · exact .snoc _ _ h2 h3 (by rw [Int.toNat_natCast]; exact h4) h5
  · intro h
    generalize hb : (m : Int) = b at h
    cases h with
    | refl => exact .inl (by omega)
    | snoc r _ h1 h2 h3 h4 =>
      have hr := h1.le hd (by omega)
      refine .inr ⟨r.toNat, Nat.zero_le _, by rw [show ((r.toNat : Nat) : Int) = r by omega]; exact h1, by rw [show ((r.toNat : Nat) : Int) = r by omega]; exact h2, h3, h4⟩
end Go.Proofs.YtnpgmdffjemnbaaGreatDoor
namespace Go.Proofs.YtnpgmdffjemnbaaGreatDoor

noncomputable def Xr (us : List (List Int)) (n : Nat) : List Int := ZeR us n ++ [(n : Int)]
theorem ZeC {us : List (List Int)} {n : Nat} {ys : List Int} (h : IsReach us n ys) (hd : Xe us) : Y3 ys = Xr us n := by
  refine ZaR h.nod ?_ fun x => ?_
  · unfold Xr
    rw [List.pairwise_append]
    exact ⟨ZdP us n, by simp, fun a ha b hb => by rw [List.mem_singleton.1 hb]; exact (nedL_mem.1 ha).2.1⟩
  · rw [h.iff, Xr, List.mem_append, nedL_mem, List.mem_singleton]
    constructor
    · intro hx
      have := hx.le hd (by omega)
      by_cases e : x = n
      · exact .inr e
      · exact .inl ⟨this.1, by omega, hx⟩
    · rintro (⟨_, _, h3⟩ | rfl)
      · exact h3
      · exact .refl _
theorem ZgC (us : List (List Int)) (n : Nat) : (Xr us n).length ≤ n + 1 := by
  have := Zla us n
  simp [Xr]; omega
theorem ZgB {us : List (List Int)} {n : Nat} {x : Int} (h : x ∈ Xr us n) : 0 ≤ x ∧ x ≤ n := by
  rcases List.mem_append.1 h with h | h
  · have := nedL_mem.1 h; omega
  · rw [List.mem_singleton.1 h]; omega
theorem ZcC {us : List (List Int)} (hd : Xe us) (i : Nat) : Xe (us.set i []) := fun k x hx => by
  by_cases hi : i < us.length
  · rw [QU hi] at hx
    split at hx
    · simp at hx
    · exact hd k x hx
  · rw [List.set_eq_of_length_le (by omega)] at hx
    exact hd k x hx
open Classical in
noncomputable def ZcZ (us : List (List Int)) (f t : Nat) (i : Int) : Bool := (!decide (i = f) && !decide (i = t)) && !decide (Rch (us.set i.toNat []) f t)
theorem ZfN {us : List (List Int)} {f t : Nat} {i : Int} (h : (decide (i = f) || decide (i = t)) = true) : ZcZ us f t i = false := by rw [ZcZ, ← Bool.not_or, h]; rfl
open Classical in
theorem ZgR {us : List (List Int)} {f t : Nat} {i : Int} (h : (decide (i = f) || decide (i = t)) = false) (hr : ¬ Rch (us.set i.toNat []) f t) : ZcZ us f t i = true := by rw [ZcZ, ← Bool.not_or, h, decide_eq_false hr]; rfl
open Classical in
theorem ZgS {us : List (List Int)} {f t : Nat} {i : Int} (h : (decide (i = f) || decide (i = t)) = false) (hr : Rch (us.set i.toNat []) f t) : ZcZ us f t i = false := by rw [ZcZ, ← Bool.not_or, h, decide_eq_true hr]; rfl
noncomputable def Zau (us : List (List Int)) (f t : Nat) : List Int := (Xr us f).filter (ZcZ us f t)
open Classical in
noncomputable def Z8 (d : Db) (f t : Int) : Int := if !decide (rdE d [f, t] = 0) then rdE d [f, t] else if !decide (Rch (usL d d.frames.length) f t) then 5 else 0
theorem ZdG {d : Db} {f t : Int} (h : rdE d [f, t] = 0) : Yz d = 0 ∧ (0 ≤ f ∧ f < d.frames.length) ∧ 0 ≤ t ∧ t < d.frames.length := by
  unfold rdE at h
  by_cases h1 : Yz d = 0
  · rw [if_neg (by simp [h1])] at h
    by_cases h2 : ([f, t].any fun i => decide (i < 0) || decide (((d.frames.length : Nat) : Int) ≤ i)) = true
    · rw [if_pos h2] at h; exact absurd h (by decide)
    · simp only [List.any_cons, List.any_nil, Bool.or_false, Bool.or_eq_true, decide_eq_true_eq, not_or] at h2
      exact ⟨h1, by omega, by omega⟩
  · rw [if_pos (by simp [h1])] at h
    exact absurd h h1
end Go.Proofs.YtnpgmdffjemnbaaGreatDoor
set_option maxHeartbeats 8000000
set_option maxRecDepth 100000
namespace Go.Proofs.YtnpgmdffjemnbaaGreatDoor
open Go.RowKit

theorem Zk7 {J : World → Prop} (hJ : Stab J) (xs : List (List Int)) (b : xs.length * 24 ≤ 140737488351232) : FnM (ι := Value) Tryz.prog J 56 [] [.rd (ZF xs)] [] (fun i' => .lit (i')) (fun i' => [OB.row i' 28 1 (xs.map Z2)]) := by
 refine YK (N := 8) Tryz.func56 rfl rfl (lb rfl) fun S w0 R hS hJ0 hH => ?_
 refine XA (B := St All (SO S (R)) w0 8 [(0, .rd (ZF xs))] (XO J S w0.heap.size (R))) ?_ fun a w h => h
 refine Zf (fun a w h => Zj h 0 rfl) fun hl1 => Za (rgo tb hJ [0] [_] [] [(_, _)] rfl rfl rfl rfl trivial (nx (Za (Za (Zn (sv tb rfl rfl rfl rfl (ZbQ (f := Z2) (xs := xs) Xw rfl rfl rfl (lb rfl) (fun a w h => (h.get 0 rfl)) fun g1 hg1 => ?_)))))))
 refine Zy ?_
 refine kw (lz [0, 2] (env' := [(_, _), (_, _)]) rfl) ?_
 refine nx (tc 0 rfl rfl (fun hb1 => ?_) (fun hb1 => ?_))
 try simp at hb1
 refine Za (rgo tb hJ [1000] [_] [] [(_, .lit (.slice none 0 0))] rfl rfl rfl rfl trivial (nx ?_))
 refine tw (YI 28 1 hJ) ?_
 refine tw (ob0 (congrArg (fun z' => OB.row (.slice none 0 0) 28 1 ((z').map Z2)) (show ([] : List (List Int)) = xs from by first | exact (hg1 (by assumption)).symm | simp))) ?_
 refine Zi (fun a w h => Yh  (m := 0) (.slice none 0 0) rfl h rfl rfl)
 try simp at hb1
 refine Zd (nx (Za ?_))
 refine fun a w h => Qp (id := 3) (t := 44) (e := 28) (size := 1) (bytes := 24) (i0 := 0) (fol := 3) (d := 2) (ch := [(2, (xs.map Z2))]) (fun ix' => ([.any, .rd (ZF xs), .any, .any] : List AV).getD ix' .any) (fun ix' => ([true, true, true, true] : List Bool).getD ix' true) [] (xs.map Z2) (by simp) ?r3_1 hJ hJ0 h Y0 rfl rfl rfl rfl ⟨?o3_1_0, ⟨?o3_1_1, ⟨?o3_1_2, ⟨?o3_1_3, trivial⟩⟩⟩⟩ trivial (fun v2 => ?n3_1)
 case r3_1 =>
  refine Row.mk' Zbd ⟨_, rfl, rfl, rfl, rfl, rfl⟩ ⟨?x3_1_0, trivial⟩ ⟨_, _, _, _, rfl, rfl, rfl, rfl, rfl, rfl, rfl, rfl, rfl⟩ rfl rfl rfl
  case x3_1_0 => exact ⟨_, _, _, _, rfl, rfl, rfl, rfl, rfl, rfl, rfl, rfl, Y5 (f := Z2) (fun _ => rfl), (by have hm : maxLen = 9223372036854775807 := rfl; simp [upto]; first | omega | (simp; omega)), (by have hm : maxLen = 9223372036854775807 := rfl; simp [upto]; first | omega | (simp; omega)), fun _ _ _ _ _ hl => (hl.dep 1 6 _ rfl rfl rfl rfl)⟩
 case o3_1_0 => exact fun h => Zs rfl h
 case o3_1_1 => exact fun _ _ => ⟨rfl, fun _ _ _ hx hl _ => Yj rfl (hl.env 1 0 _ rfl rfl) hx⟩
 case o3_1_2 => exact fun h => Zs rfl h
 case o3_1_3 => exact fun h => Zs rfl h
 clear a w h
 refine nx (Zi (fun a w h => Yh  (m := 0) v2 rfl h rfl rfl))
theorem ZmU {J : World → Prop} (hJ : Stab J) (d : Db) (f : Int) (t : Int) (hw : ∀ f ∈ d.frames, f.wide.length * 32 ≤ 140737488351232) (hG : X5 J) : Fn Tryz.prog J 23 [.agg (dbC d), .int f, .int t] (.tup [.rd (ZG (if Z8 d f t = 0 then Zau (usL d d.frames.length) f.toNat t.toNat else [])), .int (Z8 d f t)]) := by
 refine Zx (N := 77) Tryz.func23 rfl rfl (lb rfl) fun S w0 hS hJ0 => ?_
 refine tw Yi ?_
 refine Za (rgo tb hJ [1, 2, 1000] [_, _, _] [0] [(_, _), (_, _), (_, .ptr (dbC d))] rfl rfl rfl rfl ⟨fun _ _ hk hx hl _ => Yv rfl (hl.env 0 0 _ rfl rfl) (Zr hS _ hk hx _ (Nat.le_refl _)) (jo hJ hx), trivial⟩ (nx (Za (rgo tb hJ [0, 1, 1003, 1008, 1009] [_, _, _, _, .tup [gAV (rdE d ([f, t] : List Int)) [Zg d.consts, Zg d.vars, Yn d.frames, ZF (usL d d.frames.length)], .int (rdE d ([f, t] : List Int))], _, _, _, _, _] [3, 4] [(_, _), (_, _), (_, .rd (ZG ([f, t] : List Int))), (_, gAV (rdE d ([f, t] : List Int)) [Zg d.consts, Zg d.vars, Yn d.frames, ZF (usL d d.frames.length)]), (_, .int (rdE d ([f, t] : List Int)))] rfl rfl rfl rfl ⟨fun a _ hk hx hl _ => X6 (k := 2) (us := [a.eval (Go.Operand.tmp 16), a.eval (Go.Operand.tmp 17)]) Zo Zb2 rfl (by simp) (ZX (hl.dep 1 16 _ rfl rfl rfl rfl) (ZX (hl.dep 2 17 _ rfl rfl rfl rfl) X0)) rfl (by decide) (by decide) (Zr hS _ hk hx _ (Nat.le_refl _)) (jo hJ hx), hFo hS hJ (ZgL hJ (d := d) (ns := ([f, t] : List Int)) (hw) (hG)) Zd9 rfl rfl rfl rfl, trivial⟩ (nx (Zf (fun a w h => Zj h 2 rfl) fun hl1 => Za (Za (rgo tb hJ [0, 1, 3, 4, 1001] [_, _] [] [(_, _), (_, _), (_, _), (_, _), (_, .bool (!decide (rdE d ([f, t] : List Int) = (0 : Int))))] rfl rfl rfl rfl trivial (nx (tc 4 rfl rfl (fun hb1 => ?_) (fun hb1 => ?_)))))))))))
 have c1 : Z8 d f t = rdE d [f, t] := by rw [Z8, if_pos hb1]
 have c9 : ¬ Z8 d f t = 0 := by rw [c1]; exact ZaX hb1
 refine Za (rgo tb hJ [1001, 1002] [_, _, _] [] [(_, .lit (.slice none 0 0)), (_, .int (rdE d ([f, t] : List Int)))] rfl rfl rfl rfl trivial (nx ?_))
 refine tw (fun h => Y8 h (m := 0) (s := 6) rfl) ?_
 refine Zi (fun a w h => YC (m := 0) (k := 1) rfl (Zl h) rfl rfl (congrArg (fun z => AV.rd (ZG z)) (show ([] : List Int) = (if Z8 d f t = 0 then Zau (usL d d.frames.length) f.toNat t.toNat else []) from by first | exact c1.symm | exact c0.symm | (rw [if_neg c9]; done) | (rw [if_pos c0, f1_2, Zp (by omega)]; rfl))) (congrArg AV.int (show (rdE d ([f, t] : List Int)) = (Z8 d f t) from by first | exact c1.symm | exact c0.symm | (rw [if_neg c9]; done) | (rw [if_pos c0, f1_2, Zp (by omega)]; rfl))))
 have e0 : rdE d [f, t] = 0 := Zek hb1
 have c2 := ZdG e0
 have c3 := XZ c2.1
 have hf' : (f.toNat : Int) = f := by omega
 have ht' : (t.toNat : Int) = t := by omega
 have hul := YA d d.frames.length
 refine tw (sa 2 rfl (show (gAV (rdE d ([f, t] : List Int)) [Zg d.consts, Zg d.vars, Yn d.frames, ZF (usL d d.frames.length)] : AV) = .ptr [Zg d.consts, Zg d.vars, Yn d.frames, ZF (usL d d.frames.length)] from ZaA e0)) ?_
 refine Zd (nx (Za (Za ?_)))
 refine tw (sa 0 rfl (congrArg AV.int (show f = (f.toNat : Int) from by omega))) ?_
 refine tw (sa 1 rfl (congrArg AV.int (show t = (t.toNat : Int) from by omega))) ?_
 refine Zn (sv tb rfl rfl rfl rfl (sv tb rfl rfl rfl rfl (Zat (O := []) (R := []) (ZdK hJ (d := d) (us := (usL d d.frames.length)) (n := f.toNat) (by first | exact ZK _ _ | exact ZcC (ZK _ _) _) (by first | omega | (rw [List.length_set]; omega))) Zd7 rfl rfl rfl (lb rfl) hS hJ0 ZP (fun a w h => (Zc (h.get 1 rfl) (Zc (h.get 0 rfl) Zm))) fun z1 => ?_)))
 refine sv tb rfl rfl rfl rfl (sq (.bool (decide ((t.toNat : Int) ∈ z1.1.2))) rfl rfl (lb rfl) (fun _ _ h => Yo (Kd := keyI) (xs := z1.1.2) XQ ZY (t.toNat : Int) rfl (ZA h.x (mo 0 rfl)) (h.get 1 rfl) (h.get 0 rfl) h.x) (sv (av := .bool (!(decide ((t.toNat : Int) ∈ z1.1.2)))) tb rfl rfl rfl rfl (Zy ?_)))
 refine kw (lz [0, 6, 7, 8] (env' := [(_, _), (_, _), (_, _), (_, _)]) rfl) ?_
 refine nx (tc 0 rfl rfl (fun hb2 => ?_) (fun hb2 => ?_))
 have e2 : ¬ Rch (usL d d.frames.length) f t := fun h => ZaX hb2 ((z1.2.iff _).2 (by rw [hf', ht']; exact h))
 have c1 : Z8 d f t = 5 := by rw [Z8, if_neg (by rw [e0]; decide), if_pos (by simpa using e2)]
 have c9 : ¬ Z8 d f t = 0 := by rw [c1]; decide
 refine Za (rgo tb hJ [1000, 1001] [_, _] [] [(_, .lit (.slice none 0 0)), (_, .int (5 : Int))] rfl rfl rfl rfl trivial (nx ?_))
 refine tw (fun h => Y8 h (m := 0) (s := 6) rfl) ?_
 refine Zi (fun a w h => YC (m := 0) (k := 1) rfl (Zl h) rfl rfl (congrArg (fun z => AV.rd (ZG z)) (show ([] : List Int) = (if Z8 d f t = 0 then Zau (usL d d.frames.length) f.toNat t.toNat else []) from by first | exact c1.symm | exact c0.symm | (rw [if_neg c9]; done) | (rw [if_pos c0, f1_2, Zp (by omega)]; rfl))) (congrArg AV.int (show (5 : Int) = (Z8 d f t) from by first | exact c1.symm | exact c0.symm | (rw [if_neg c9]; done) | (rw [if_pos c0, f1_2, Zp (by omega)]; rfl))))
 have e2 : Rch (usL d d.frames.length) f t := by have := (z1.2.iff _).1 (Zek hb2); rwa [hf', ht'] at this
 have c0 : Z8 d f t = 0 := by rw [Z8, if_neg (by rw [e0]; decide), if_neg (by simpa using e2)]
 refine Zd (nx (Za (rgo tb hJ [1, 2, 3, 1000] [_] [] [(_, _), (_, _), (_, _), (_, .lit (.slice none 0 0))] rfl rfl rfl rfl trivial (nx (Za (Za (Zn (sv tb rfl rfl rfl rfl (sv tb rfl rfl rfl rfl (Zat (O := []) (R := [OB.set keyI z1.1.1 z1.1.2]) (ZdK hJ (d := d) (us := (usL d d.frames.length)) (n := f.toNat) (by first | exact ZK _ _ | exact ZcC (ZK _ _) _) (by first | omega | (rw [List.length_set]; omega))) Zd7 rfl rfl rfl (lb rfl) hS hJ0 ZP (fun a w h => (Zc (h.get 1 rfl) (Zc (h.get 0 rfl) Zm))) fun z2 => ?_))))))))))
 refine sq (.rd (ZG (Y3 z2.1.2))) rfl rfl (lb rfl) (fun _ _ h => X1 (ZgK hJ (M := z2.1.1) (xs := z2.1.2) (fun x hxx => by have := ZdF z2.2 (ZK _ _) x hxx; omega) (by have := ZeB z2.2 (ZK _ _); omega)) Zf6 rfl (Zr hS _ h.keep h.x) (h.x.1) (Z0 (ZA h.x (mo 0 rfl)) ZP) (Zc (h.get 0 rfl) Zm) (jo hJ h.x)) (sq (.int (((Y3 z2.1.2).length : Nat) : Int)) rfl rfl (lb rfl) (fun _ _ h => Yy Yx rfl (h.get 0 rfl) h.x) (sv tb rfl rfl rfl rfl (Zy ?_)))
 refine kw (lz [0, 1, 2, 6, 7, 8, 9] (env' := [(_, _), (_, _), (_, _), (_, _), (_, _), (_, _), (_, _)]) rfl) ?_
 refine kw (sa 2 rfl (congrArg (fun z' => AV.rd (ZG z')) (show (Y3 z2.1.2) = (Xr (usL d d.frames.length) f.toNat) from ZeC z2.2 (ZK _ _)))) ?_
 refine kw (sa 1 rfl (congrArg AV.int (show (((Y3 z2.1.2).length : Nat) : Int) = (((Xr (usL d d.frames.length) f.toNat).length : Nat) : Int) from by rw [ZeC z2.2 (ZK _ _)]))) ?_
 refine nx (Zf (fun a w h => Zj h 2 rfl) fun hl2 => Ze ?_)
 refine tw (YI 3 1 hJ) ?_
 refine Zw (ι := Nat × Value × (List Int)) (fun (ii' : Nat × Value × (List Int)) a w => match ii' with | (k, vo, out) => ((k ≤ (Xr (usL d d.frames.length) f.toNat).length) ∧ (out = ((Xr (usL d d.frames.length) f.toNat).take k).filter (ZcZ (usL d d.frames.length) f.toNat t.toNat)) ∧ (out.length ≤ k)) ∧ St All (SO S [OB.row vo 3 1 (out.map Yq), OB.set keyI z2.1.1 z2.1.2, OB.set keyI z1.1.1 z1.1.2]) w0 77 [(35, .int (((Xr (usL d d.frames.length) f.toNat).length : Nat) : Int)), (34, .rd (ZG (Xr (usL d d.frames.length) f.toNat))), (1, .int f.toNat), (2, .int t.toNat), (8, .ptr [Zg d.consts, Zg d.vars, Yn d.frames, ZF (usL d d.frames.length)]), (36, .int k), (10, .lit vo)] (XO J S w0.heap.size [OB.row vo 3 1 (out.map Yq), OB.set keyI z2.1.1 z2.1.2, OB.set keyI z1.1.1 z1.1.2]) a w) (fun (ii' : Nat × Value × (List Int)) => match ii' with | (k, _, _) => ((Xr (usL d d.frames.length) f.toNat).length - k : Nat)) ?_ ?_
 intro a w h
 exact ⟨(0, (.slice none 0 0), ([] : List Int)), (show (0 ≤ (Xr (usL d d.frames.length) f.toNat).length) ∧ (([] : List Int) = ((Xr (usL d d.frames.length) f.toNat).take 0).filter (ZcZ (usL d d.frames.length) f.toNat t.toNat)) ∧ (([] : List Int).length ≤ 0) from ⟨Nat.zero_le _, rfl, Nat.zero_le _⟩), lz [1, 2, 3, 4, 5, 0, 6] rfl h⟩
 rintro ⟨k, vo, out⟩
 refine ZD fun hF => ?_
 obtain ⟨f1_1, f1_2, f1_3⟩ := hF
 refine Za (rgo tb hJ [0, 1, 2, 3, 4, 5, 6, 1000] [_] [] [(_, _), (_, _), (_, _), (_, _), (_, _), (_, _), (_, _), (_, .bool (decide ((k : Int) < (((Xr (usL d d.frames.length) f.toNat).length : Nat) : Int))))] rfl rfl rfl rfl trivial (nx (Za (tc 7 rfl rfl (fun hb3 => ?_) (fun hb3 => ?_)))))
 try simp at hb3
 have e5 := ZgB (Zb (xs := (Xr (usL d d.frames.length) f.toNat)) (k := k) (by omega))
 refine Zd (nx (Za (Ze (Za (rgo tb hJ [0, 1, 2, 3, 4, 5, 6, 1002] [.ptr [.lit (.int .i64 (ge (Xr (usL d d.frames.length) f.toNat) k))], _, _] [0] [(_, _), (_, _), (_, _), (_, _), (_, _), (_, _), (_, _), (_, .int (ge (Xr (usL d d.frames.length) f.toNat) k))] rfl rfl rfl rfl ⟨hIx Zo (by first | omega | (simp; omega) | grind [Zb]) rfl rfl rfl rfl rfl rfl, trivial⟩ (nx (Za (Za (rgo tb hJ [0, 1, 2, 3, 4, 5, 6, 7, 1007] [_, _, _, _, _, _, _, _] [] [(_, _), (_, _), (_, _), (_, _), (_, _), (_, _), (_, _), (_, _), (_, .bool ((decide ((ge (Xr (usL d d.frames.length) f.toNat) k) = (f.toNat : Int))) || (decide ((ge (Xr (usL d d.frames.length) f.toNat) k) = (t.toNat : Int)))))] rfl rfl rfl rfl trivial (nx (tc 8 rfl rfl (fun hb4 => ?_) (fun hb4 => ?_))))))))))))
 have e6 : ZcZ (usL d d.frames.length) f.toNat t.toNat (ge (Xr (usL d d.frames.length) f.toNat) k) = false := ZfN hb4
 refine Zv (nx (rgo tb hJ [0, 1, 2, 3, 4, 6, 1001] [.int ((k + 1 : Nat) : Int), _] [0] [(_, _), (_, _), (_, _), (_, _), (_, _), (_, _), (_, .int ((k + 1 : Nat) : Int))] rfl rfl rfl rfl ⟨Yc (by first | omega | (simp; omega) | grind [Zb]) rfl rfl rfl rfl rfl, trivial⟩ ?_))
 intro a w h; change ∃ j, _ ∧ _
 exact ⟨(k + 1, vo, out), ⟨⟨(show (k + 1) ≤ (Xr (usL d d.frames.length) f.toNat).length from by omega), (show out = ((Xr (usL d d.frames.length) f.toNat).take (k + 1)).filter (ZcZ (usL d d.frames.length) f.toNat t.toNat) from by rw [ZM (by omega), e6, ← f1_2]; simp), (show out.length ≤ (k + 1) from by first | omega | (simp; omega))⟩, lz [0, 1, 2, 3, 4, 6, 5] rfl h⟩, (show (Xr (usL d d.frames.length) f.toNat).length - (k + 1) < (Xr (usL d d.frames.length) f.toNat).length - k from by first | omega | (simp; omega))⟩
 refine Zd (nx (Za ?_))
 refine fun a w h => Xo (γ := Value × Value × Nat) (fun ix' => ([.ptr [Zg d.consts, Zg d.vars, Yn d.frames, ZF (usL d d.frames.length)], .ptr [Zg d.consts, Zg d.vars, Yn d.frames, ZF (usL d d.frames.length)], .ptr [Zg d.consts, Zg d.vars, Yn d.frames, ZF (usL d d.frames.length)], .agg (dbC d), .ptr [Zg d.consts, Zg d.vars, Yn d.frames, ZF (usL d d.frames.length)], .ptr [Zg d.consts, Zg d.vars, Yn d.frames, ZF (usL d d.frames.length)], .ptr [ZF (usL d d.frames.length)], .rd (ZF (usL d d.frames.length)), .any, .any, .any, .any] : List AV).getD ix' .any) (fun ix' => ([true, true, true, true, true, true, true, true, true, true, true, true] : List Bool).getD ix' true) [(35, fun (g : Value × Value × Nat) => .int (((Xr (usL d d.frames.length) f.toNat).length : Nat) : Int)), (34, fun (g : Value × Value × Nat) => .rd (ZG (Xr (usL d d.frames.length) f.toNat))), (1, fun (g : Value × Value × Nat) => .int f.toNat), (2, fun (g : Value × Value × Nat) => .int t.toNat), (8, fun (g : Value × Value × Nat) => .ptr [Zg d.consts, Zg d.vars, Yn d.frames, ZF (usL d d.frames.length)]), (36, fun (g : Value × Value × Nat) => .int k), (10, fun (g : Value × Value × Nat) => .lit vo), (12, fun (g : Value × Value × Nat) => .int (ge (Xr (usL d d.frames.length) f.toNat) k)), (13, fun (g : Value × Value × Nat) => .at g.2.2 0)] (fun (j' : Nat) (g : Value × Value × Nat) => match j' with | 0 => [OB.row vo 3 1 (out.map Yq), OB.set keyI z2.1.1 z2.1.2, OB.set keyI z1.1.1 z1.1.2] | 1 => [OB.row g.1 28 1 ((usL d d.frames.length).map Z2), OB.row vo 3 1 (out.map Yq), OB.set keyI z2.1.1 z2.1.2, OB.set keyI z1.1.1 z1.1.2] | 2 => [Zm9 [Zg d.consts, Zg d.vars, Yn d.frames, .lit g.1] g.2.1, OB.row g.1 28 1 ((usL d d.frames.length).map Z2), OB.row vo 3 1 (out.map Yq), OB.set keyI z2.1.1 z2.1.2, OB.set keyI z1.1.1 z1.1.2] | 3 => [OB.var g.2.2 [Zg d.consts, Zg d.vars, Yn d.frames, .lit g.1], OB.row g.1 28 1 ((usL d d.frames.length).map Z2), OB.row vo 3 1 (out.map Yq), OB.set keyI z2.1.1 z2.1.2, OB.set keyI z1.1.1 z1.1.2] | _ => [OB.var g.2.2 [Zg d.consts, Zg d.vars, Yn d.frames, .lit g.1], OB.row g.1 28 1 ((usL d d.frames.length).map Z2), OB.row vo 3 1 (out.map Yq), OB.set keyI z2.1.1 z2.1.2, OB.set keyI z1.1.1 z1.1.2]) (fun (k' : Nat) (g : Value × Value × Nat) => match k' with | 0 => g.1 | 1 => g.2.1 | 2 => (.pointer (some ⟨g.2.2, 0, none⟩)) | 3 => (.pointer (some ⟨g.2.2, 0, none⟩)) | _ => undef) [8, 9, 10, 11] 4 ((.slice none 0 0), (.slice none 0 0), 0) (fun _ => rfl) h hJ Y0 rfl rfl rfl rfl rfl rfl (fun j' g hj p hp => by rcases j' with _ | _ | _ | _ | _ | j' <;> first | exact hp | exact List.mem_cons_of_mem _ hp | exact List.mem_cons_of_mem _ (List.mem_cons_of_mem _ hp) | (exfalso; omega)) ⟨?o11_1_0, ⟨?o11_1_1, ⟨?o11_1_2, ⟨?o11_1_3, ⟨?o11_1_4, ⟨?o11_1_5, ⟨?o11_1_6, ⟨?o11_1_7, ⟨?o11_1_8, ⟨?o11_1_9, ⟨?o11_1_10, ⟨?o11_1_11, trivial⟩⟩⟩⟩⟩⟩⟩⟩⟩⟩⟩⟩ ⟨?e11_1_0, ⟨?e11_1_1, ⟨?e11_1_2, ⟨?e11_1_3, trivial⟩⟩⟩⟩ ⟨.old 0 35 _ rfl rfl, ⟨.old 1 34 _ rfl rfl, ⟨.old 2 1 _ rfl rfl, ⟨.old 3 2 _ rfl rfl, ⟨.old 4 8 _ rfl rfl, ⟨.old 5 36 _ rfl rfl, ⟨.old 6 10 _ rfl rfl, ⟨.old 7 12 _ rfl rfl, ⟨.eff 3 11 13 (fun (g : Value × Value × Nat) => (.pointer (some ⟨g.2.2, 0, none⟩))) rfl rfl (fun _ => rfl) (fun _ => True.intro), trivial⟩⟩⟩⟩⟩⟩⟩⟩⟩ ?n11_1
 case o11_1_0 => exact fun _ O' _ => ⟨rfl, fun _ _ _ hx hl _ => Yj rfl (hl.env 4 8 _ rfl rfl) hx⟩
 case o11_1_1 => exact fun _ O' _ => ⟨rfl, fun _ _ _ hx hl _ => YO rfl (hl.dep 0 48 _ rfl rfl rfl rfl) hx⟩
 case o11_1_2 => exact fun _ O' _ => ⟨rfl, fun _ _ _ hx hl _ => Ym ZhZ rfl (hl.dep 1 49 _ rfl rfl rfl rfl) hx⟩
 case o11_1_3 => exact fun _ O' _ => ⟨rfl, fun _ _ _ hx hl _ => ZdI (k := 3) Zho rfl (hl.dep 2 50 _ rfl rfl rfl rfl) (lb rfl) hx⟩
 case o11_1_4 => exact fun _ O' _ => ⟨rfl, fun _ _ _ hx hl _ => Yj rfl (hl.env 4 8 _ rfl rfl) hx⟩
 case o11_1_5 => exact fun _ O' _ => ⟨rfl, fun _ _ _ hx hl _ => YO rfl (hl.dep 4 52 _ rfl rfl rfl rfl) hx⟩
 case o11_1_6 => exact fun _ O' _ => ⟨rfl, fun _ _ _ hx hl _ => Ym Zan rfl (hl.dep 5 53 _ rfl rfl rfl rfl) hx⟩
 case o11_1_7 => exact fun _ O' _ => ⟨rfl, fun _ _ _ hx hl _ => Ya Zi8 rfl (hl.dep 6 54 _ rfl rfl rfl rfl) hx⟩
 case o11_1_8 => exact Zs rfl
 case o11_1_9 => exact Zs rfl
 case o11_1_10 => exact Zs rfl
 case o11_1_11 => exact Zs rfl
 case e11_1_0 => exact ⟨_, rfl, rfl, rfl, rfl, fun g _ w hk hx hl _ => ZJ (d_fn (O := []) (R := [OB.row vo 3 1 (out.map Yq), OB.set keyI z2.1.1 z2.1.2, OB.set keyI z1.1.1 z1.1.2]) (Zk7 hJ (xs := (usL d d.frames.length)) (by omega)) Zol rfl hS hJ0 ZP hk hx (Zc (hl.dep 7 55 _ rfl rfl rfl rfl) Zm)) fun v w' ⟨i, hp, hv⟩ => ⟨(i, g.2.1, g.2.2), rfl, fun k' hk' => absurd hk' (Nat.not_lt_zero _), fun _ => hv.lit, hp⟩⟩
 case e11_1_1 => exact ⟨_, rfl, rfl, rfl, rfl, fun g _ w hk hx hl hs => ZJ (ZlE (cs := [Zg d.consts, Zg d.vars, Yn d.frames, .lit g.1]) hk (ZiM (d := d) (v := g.1) Zh8 rfl (hl.dep 3 51 _ rfl rfl rfl rfl) (hs 0 8 _ 56 (by omega) rfl rfl rfl) (ZiH (hx.2.1 _ (mo 0 rfl))) hx)) fun v w' hp => ⟨(g.1, v, g.2.2), rfl, fun k' hk' => by rcases k' with _ | _ | _ | k' <;> first | rfl | omega, fun _ => rfl, hp⟩⟩
 case e11_1_2 => exact ⟨_, rfl, rfl, rfl, rfl, fun g _ w hk hx _ hs => ZJ (d_boxW (cs := [Zg d.consts, Zg d.vars, Yn d.frames, .lit g.1]) hJ rfl (hs 1 9 _ 57 (by omega) rfl rfl rfl) hk hx) fun v w' ⟨g', hv, hp⟩ => ⟨(g.1, g.2.1, g'), rfl, fun k' hk' => by rcases k' with _ | _ | _ | k' <;> first | rfl | omega, fun _ => hv, hp⟩⟩
 case e11_1_3 => exact ⟨_, rfl, rfl, rfl, rfl, fun g _ w hk hx _ hs => ZJ (ZbV (.inl rfl) (hs 2 10 _ 58 (by omega) rfl rfl rfl) hk hx) fun v w' hp => ⟨g, rfl, fun _ _ => rfl, fun _ => hp.1, hp.2⟩⟩
 clear a w h
 rintro ⟨z3, x4, b5⟩
 change ∀ a w, St All (SO S [OB.var b5 [Zg d.consts, Zg d.vars, Yn d.frames, .lit z3], OB.row z3 28 1 ((usL d d.frames.length).map Z2), OB.row vo 3 1 (out.map Yq), OB.set keyI z2.1.1 z2.1.2, OB.set keyI z1.1.1 z1.1.2]) w0 77 [(35, .int (((Xr (usL d d.frames.length) f.toNat).length : Nat) : Int)), (34, .rd (ZG (Xr (usL d d.frames.length) f.toNat))), (1, .int f.toNat), (2, .int t.toNat), (8, .ptr [Zg d.consts, Zg d.vars, Yn d.frames, ZF (usL d d.frames.length)]), (36, .int k), (10, .lit vo), (12, .int (ge (Xr (usL d d.frames.length) f.toNat) k)), (13, .at b5 0)] (XO J S w0.heap.size [OB.var b5 [Zg d.consts, Zg d.vars, Yn d.frames, .lit z3], OB.row z3 28 1 ((usL d d.frames.length).map Z2), OB.row vo 3 1 (out.map Yq), OB.set keyI z2.1.1 z2.1.2, OB.set keyI z1.1.1 z1.1.2]) a w → _
 refine nx (Zf (fun a w h => Zj h 1 rfl) fun hl3 => Za (Zn (sv tb rfl rfl rfl rfl (sq (.at b5 0) rfl rfl (lb rfl) (fun _ _ h => ZaE rfl (h.get 0 rfl) h.x) (sq (.at b5 3) rfl rfl (lb rfl) (fun _ _ h => ZaU Zan rfl (h.get 0 rfl) h.x) (sq (.lit z3) rfl rfl (lb rfl) (fun _ _ h => XU (cs := [Zg d.consts, Zg d.vars, Yn d.frames, .lit z3]) Zi8 rfl (ZA h.x (mo 0 rfl)) (h.get 0 rfl) rfl h.x) (sv tb rfl rfl rfl rfl (sq (.lit (XI z3 ((ge (Xr (usL d d.frames.length) f.toNat) k).toNat * 1))) rfl rfl (lb rfl) (fun _ _ h => Yu (i := (ge (Xr (usL d d.frames.length) f.toNat) k)) Z7 rfl (ZA h.x (mo 1 rfl)) (h.get 1 rfl) (h.get 0 rfl) (by first | omega | (simp; omega) | grind [Zb]) (by rw [List.length_map]; exact (by first | omega | (simp; omega) | grind [Zb])) h.x) ?_))))))))
 refine kw pm1 ?_
 refine Qo (c := ZG ([] : List Int)) (i := (ge (Xr (usL d d.frames.length) f.toNat) k).toNat) hJ hJ0 Zcc rfl rfl rfl (by rw [List.length_map]; exact (by first | omega | (simp; omega) | grind [Zb])) (fun a w h => ⟨(h.get 0 rfl), (QL (Rel.of_lit (Go.Value.slice none 0 0)))⟩) ?_
 rw [show ((usL d d.frames.length).map Z2).set ((ge (Xr (usL d d.frames.length) f.toNat) k).toNat) [ZG ([] : List Int)] = ((usL d d.frames.length).set ((ge (Xr (usL d d.frames.length) f.toNat) k).toNat) ([] : List Int)).map Z2 from List.map_set.symm]
 refine Zy ?_
 refine kw (lz [6, 7, 8, 9, 10, 11, 12, 13, 14] (env' := [(_, _), (_, _), (_, _), (_, _), (_, _), (_, _), (_, _), (_, _), (_, _)]) rfl) ?_
 refine kw pm1 ?_
 refine kw pm1 ?_
 refine kw (B := St All (SO S [OB.gr 28 b5 d (z3, (usL d d.frames.length).set ((ge (Xr (usL d d.frames.length) f.toNat) k).toNat) ([] : List Int)), OB.row vo 3 1 (out.map Yq), OB.set keyI z2.1.1 z2.1.2, OB.set keyI z1.1.1 z1.1.2]) w0 77 [(35, .int (((Xr (usL d d.frames.length) f.toNat).length : Nat) : Int)), (34, .rd (ZG (Xr (usL d d.frames.length) f.toNat))), (1, .int f.toNat), (2, .int t.toNat), (8, .ptr [Zg d.consts, Zg d.vars, Yn d.frames, ZF (usL d d.frames.length)]), (36, .int k), (10, .lit vo), (12, .int (ge (Xr (usL d d.frames.length) f.toNat) k)), (13, .at b5 0)] (XO J S w0.heap.size [OB.gr 28 b5 d (z3, (usL d d.frames.length).set ((ge (Xr (usL d d.frames.length) f.toNat) k).toNat) ([] : List Int)), OB.row vo 3 1 (out.map Yq), OB.set keyI z2.1.1 z2.1.2, OB.set keyI z1.1.1 z1.1.2])) (fun h => Zfz h) ?_
 refine nx (Za ?_)
 refine tw (fun h => Zda hS h (m := 8) (s := 13) rfl) ?_
 refine Zn (sv tb rfl rfl rfl rfl (sv tb rfl rfl rfl rfl (Zat (O := []) (R := [OB.row vo 3 1 (out.map Yq), OB.set keyI z2.1.1 z2.1.2, OB.set keyI z1.1.1 z1.1.2]) (ZdK hJ (d := d) (us := ((z3, (usL d d.frames.length).set ((ge (Xr (usL d d.frames.length) f.toNat) k).toNat) ([] : List Int)).2)) (n := f.toNat) (by first | exact ZK _ _ | exact ZcC (ZK _ _) _) (by first | omega | (rw [List.length_set]; omega))) Zd7 rfl rfl rfl (lb rfl) hS hJ0 ZP (fun a w h => (Zc (h.get 1 rfl) (Zc (h.get 0 rfl) Zm))) fun z6 => ?_)))
 refine sv tb rfl rfl rfl rfl (sq (.bool (decide ((t.toNat : Int) ∈ z6.1.2))) rfl rfl (lb rfl) (fun _ _ h => Yo (Kd := keyI) (xs := z6.1.2) XQ ZY (t.toNat : Int) rfl (ZA h.x (mo 0 rfl)) (h.get 1 rfl) (h.get 0 rfl) h.x) (sv (av := .bool (!(decide ((t.toNat : Int) ∈ z6.1.2)))) tb rfl rfl rfl rfl (Zy ?_)))
 refine kw (lz [0, 7, 8, 9, 10, 11, 12, 13, 14] (env' := [(_, _), (_, _), (_, _), (_, _), (_, _), (_, _), (_, _), (_, _), (_, _)]) rfl) ?_
 refine nx (tc 0 rfl rfl (fun hb5 => ?_) (fun hb5 => ?_))
 have e6 : ZcZ (usL d d.frames.length) f.toNat t.toNat (ge (Xr (usL d d.frames.length) f.toNat) k) = true := ZgR hb4 fun h => ZaX hb5 ((z6.2.iff _).2 h)
 refine Zn (sv tb rfl rfl rfl rfl (sv tb rfl rfl rfl rfl (sq (.rd (ZG ([(ge (Xr (usL d d.frames.length) f.toNat) k)]))) rfl rfl (lb rfl) (fun _ _ h => ZV Zo Xu rfl (h.get 0 rfl) (Zr hS _ h.keep h.x _ (Nat.le_refl _)) (jo hJ h.x)) ?_)))
 refine kw pm1 ?_
 refine ZR (f := Yq) (m := 2) (s := 71) out ([(ge (Xr (usL d d.frames.length) f.toNat) k)]) (fun _ => rfl) YU hJ hJ0 rfl rfl rfl (lb rfl) rfl rfl (fun a w h => (h.get 0 rfl)) (by have := ZgC (usL d d.frames.length) f.toNat; simp; omega) (by have := ZgC (usL d d.frames.length) f.toNat; simp; omega) fun v7 => ?_
 refine sv tb rfl rfl rfl rfl (Zy ?_)
 refine kw (lz [0, 2, 6, 7, 8, 9, 10, 11] (env' := [(_, _), (_, _), (_, _), (_, _), (_, _), (_, _), (_, _), (_, _)]) rfl) ?_
 refine nx (Zf (fun a w h => Zj h 1 rfl) fun hl4 => rgo tb hJ [0, 2, 3, 4, 5, 6, 1001] [.int ((k + 1 : Nat) : Int), _] [0] [(_, _), (_, _), (_, _), (_, _), (_, _), (_, _), (_, .int ((k + 1 : Nat) : Int))] rfl rfl rfl rfl ⟨Yc (by first | omega | (simp; omega) | grind [Zb]) rfl rfl rfl rfl rfl, trivial⟩ ?_)
 refine kw pm1 ?_
 refine kw Yt ?_
 intro a w h; change ∃ j, _ ∧ _
 exact ⟨(k + 1, v7, out ++ ([(ge (Xr (usL d d.frames.length) f.toNat) k)])), ⟨⟨(show (k + 1) ≤ (Xr (usL d d.frames.length) f.toNat).length from by omega), (show (out ++ ([(ge (Xr (usL d d.frames.length) f.toNat) k)])) = ((Xr (usL d d.frames.length) f.toNat).take (k + 1)).filter (ZcZ (usL d d.frames.length) f.toNat t.toNat) from by rw [ZM (by omega), e6, ← f1_2]; simp), (show (out ++ ([(ge (Xr (usL d d.frames.length) f.toNat) k)])).length ≤ (k + 1) from by first | omega | (simp; omega))⟩, lz [1, 2, 3, 4, 5, 6, 0] rfl h⟩, (show (Xr (usL d d.frames.length) f.toNat).length - (k + 1) < (Xr (usL d d.frames.length) f.toNat).length - k from by first | omega | (simp; omega))⟩
 have e6 : ZcZ (usL d d.frames.length) f.toNat t.toNat (ge (Xr (usL d d.frames.length) f.toNat) k) = false := ZgS hb4 ((z6.2.iff _).1 (Zek hb5))
 refine Zd (nx (rgo tb hJ [1, 2, 3, 4, 5, 7, 1001] [.int ((k + 1 : Nat) : Int), _] [0] [(_, _), (_, _), (_, _), (_, _), (_, _), (_, _), (_, .int ((k + 1 : Nat) : Int))] rfl rfl rfl rfl ⟨Yc (by first | omega | (simp; omega) | grind [Zb]) rfl rfl rfl rfl rfl, trivial⟩ ?_))
 refine kw Yt ?_
 intro a w h; change ∃ j, _ ∧ _
 exact ⟨(k + 1, vo, out), ⟨⟨(show (k + 1) ≤ (Xr (usL d d.frames.length) f.toNat).length from by omega), (show out = ((Xr (usL d d.frames.length) f.toNat).take (k + 1)).filter (ZcZ (usL d d.frames.length) f.toNat t.toNat) from by rw [ZM (by omega), e6, ← f1_2]; simp), (show out.length ≤ (k + 1) from by first | omega | (simp; omega))⟩, lz [0, 1, 2, 3, 4, 6, 5] rfl h⟩, (show (Xr (usL d d.frames.length) f.toNat).length - (k + 1) < (Xr (usL d d.frames.length) f.toNat).length - k from by first | omega | (simp; omega))⟩
 try simp at hb3
 refine Zv (nx (Za (rgo tb hJ [1001, 1002] [_, _, _] [] [(_, .lit vo), (_, .int (0 : Int))] rfl rfl rfl rfl trivial (nx ?_))))
 refine tw (fun h => ZO hS h (m := 0) (s := 6) rfl) ?_
 refine Zi (fun a w h => YC (m := 0) (k := 1) rfl (Zl h) rfl rfl (congrArg (fun z => AV.rd (ZG z)) (show out = (if Z8 d f t = 0 then Zau (usL d d.frames.length) f.toNat t.toNat else []) from by first | exact c1.symm | exact c0.symm | (rw [if_neg c9]; done) | (rw [if_pos c0, f1_2, Zp (by omega)]; rfl))) (congrArg AV.int (show (0 : Int) = (Z8 d f t) from by first | exact c1.symm | exact c0.symm | (rw [if_neg c9]; done) | (rw [if_pos c0, f1_2, Zp (by omega)]; rfl))))
end Go.Proofs.YtnpgmdffjemnbaaGreatDoor
namespace Go.Proofs.YtnpgmdffjemnbaaGreatDoor

def YR (s : ByteArray) (ys : List ByteArray) : Fr := ⟨s, decide (((ys.length : Nat) : Int) > 0), [], [], [(⟨#[124, 45]⟩ : ByteArray), (⟨#[120]⟩ : ByteArray)], [], [], ys⟩
def smallD : Db := ⟨[(⟨#[124, 45]⟩ : ByteArray), (⟨#[120]⟩ : ByteArray)], [], [YR ⟨#[97]⟩ [], YR ⟨#[98]⟩ [], YR ⟨#[116]⟩ [⟨#[97]⟩], YR ⟨#[117]⟩ [⟨#[116]⟩, ⟨#[98]⟩]]⟩
theorem smChd : QV smallD 3 = 0 := by kernel_rfl
theorem smRd : rdE smallD [3, 0] = 0 := by kernel_rfl
theorem Znn : smallD.frames.length = 4 := rfl
theorem smUs : usL smallD 4 = [[], [], [0], [1, 2]] := by kernel_rfl
theorem rch20 : Rch [[], [], [0], [1, 2]] 2 0 := .one (by decide)
theorem rch30 : Rch [[], [], [0], [1, 2]] 3 0 := .step _ 2 _ (by decide) rch20
theorem rch31 : Rch [[], [], [0], [1, 2]] 3 1 := .one (by decide)
theorem rch32 : Rch [[], [], [0], [1, 2]] 3 2 := .one (by decide)
theorem rch1 : Rch ([[], [], [0], [1, 2]].set 1 []) 3 0 := .step _ 2 _ (by decide) (.one (by decide))
theorem ZgO {us : List (List Int)} {a b : Int} (h : Rch us a b) (h0 : ge us a.toNat = []) : a = b := by
  cases h with
  | refl => rfl
  | step _ x _ hx k => rw [h0] at hx; cases hx
theorem rch2 : ¬ Rch ([[], [], [0], [1, 2]].set 2 []) 3 0 := fun h => by
  cases h with
  | step _ x _ hx hk =>
    have : x = 1 ∨ x = 2 := by simpa using (show x ∈ [1, 2] from hx)
    rcases this with rfl | rfl
    · exact absurd (ZgO hk rfl) (by decide)
    · exact absurd (ZgO hk rfl) (by decide)
theorem smNed : ZeR (usL smallD smallD.frames.length) (3 : Int).toNat = [0, 1, 2] := by
  rw [Znn, smUs]
  unfold ZeR
  rw [show (3 : Int).toNat = 3 from rfl, show List.range 3 = [0, 1, 2] from rfl]
  have h0 := rch30
  have h1 := rch31
  have h2 := rch32
  simp [List.filter, h0, h1, h2]
theorem smMst : Zau (usL smallD smallD.frames.length) (3 : Int).toNat (0 : Int).toNat = [2] := by
  have hn := smNed
  rw [Znn, smUs] at hn ⊢
  have h1 : ZcZ [[], [], [0], [1, 2]] 3 0 0 = false := ZfN (by decide)
  have h2 : ZcZ [[], [], [0], [1, 2]] 3 0 1 = false := ZgS (by decide) rch1
  have h3 : ZcZ [[], [], [0], [1, 2]] 3 0 2 = true := ZgR (by decide) rch2
  have h4 : ZcZ [[], [], [0], [1, 2]] 3 0 3 = false := ZfN (by decide)
  unfold Zau Xr
  rw [hn]
  simp [List.filter, h1, h2, h3, h4]
theorem ZmJ : Z8 smallD 3 0 = 0 := by
  rw [Z8, smRd, Znn, smUs]
  have := rch30
  simp [this]
theorem smHw : ∀ f ∈ smallD.frames, f.wide.length * 32 ≤ 140737488351232 := by
  intro f hf
  have : f = YR ⟨#[97]⟩ [] ∨ f = YR ⟨#[98]⟩ [] ∨ f = YR ⟨#[116]⟩ [⟨#[97]⟩] ∨ f = YR ⟨#[117]⟩ [⟨#[116]⟩, ⟨#[98]⟩] := by simpa [smallD] using hf
  rcases this with rfl | rfl | rfl | rfl <;> exact Nat.zero_le _
def fewD (d : Db) : Bool := decide (((d.frames.length : Nat) : Int) ≤ (30 : Int)) && !(d.frames.any fun f' => decide ((200 : Int) < ((f'.proof.length : Nat) : Int)))
end Go.Proofs.YtnpgmdffjemnbaaGreatDoor
set_option maxHeartbeats 8000000
set_option maxRecDepth 100000
namespace Go.Proofs.YtnpgmdffjemnbaaGreatDoor
open Go.RowKit

theorem ZbN {J : World → Prop} (hJ : Stab J) (s : ByteArray) (ys : List ByteArray)  : Fn Tryz.prog J 70 [.str s, .rd (Zg ys)] (.agg (frC (YR s ys))) := by
 refine Zx (N := 12) Tryz.func70 rfl rfl (lb rfl) fun S w0 hS hJ0 => ?_
 refine tw Yi ?_
 refine Zf (fun a w h => Zj h 1 rfl) fun hl1 => Za (Zn (Y9 QT hJ rfl rfl rfl (lb rfl) fun b1 => ?_))
 refine Zy (nx (Za (Zn (sv tb rfl rfl rfl rfl (sv tb rfl rfl rfl rfl (sq (.int ys.length) rfl rfl (lb rfl) (fun _ _ h => Yy ZB rfl (h.get 0 rfl) h.x) (sv (av := .bool (decide ((0 : Int) < (ys.length : Int)))) tb rfl rfl rfl rfl (sq (.rd (Zg ([(⟨#[124, 45]⟩ : ByteArray), (⟨#[120]⟩ : ByteArray)] : List ByteArray))) rfl rfl (lb rfl) (fun a _ h => X6 (k := 2) (us := [a.eval (Go.Operand.const (Go.Value.string { data := #[124, 45] })), a.eval (Go.Operand.const (Go.Value.string { data := #[120] }))]) Zk Zb1 rfl (by simp) (ZX (Rel.of_lit (Go.Value.string { data := #[124, 45] }) (lb rfl)) (ZX (Rel.of_lit (Go.Value.string { data := #[120] }) (lb rfl)) X0)) rfl (by decide) (by decide) (Zr hS _ h.keep h.x _ (Nat.le_refl _)) (jo hJ h.x)) (sv tb rfl rfl rfl rfl (sq (.agg (frC (⟨s, decide ((0 : Int) < (ys.length : Int)), [], [], ([(⟨#[124, 45]⟩ : ByteArray), (⟨#[120]⟩ : ByteArray)] : List ByteArray), [], [], ys⟩ : Fr))) rfl rfl (lb rfl) (fun _ _ h => ZiN (s := s) (b := (decide ((0 : Int) < (ys.length : Int)))) (xs := ([(⟨#[124, 45]⟩ : ByteArray), (⟨#[120]⟩ : ByteArray)] : List ByteArray)) (ys := ys) Zh9 rfl (h.get 5 rfl) (h.get 2 rfl) (h.get 1 rfl) (h.get 0 rfl) h.x) (Y2 (b := b1) (off := 0) (cs := [.lit (.string (⟨#[]⟩ : ByteArray)), .lit (.bool false), Z4 ([] : List Hy), YG ([] : List Pr), Zg ([] : List ByteArray), Z4 ([] : List Hy), YG ([] : List Pr), Zg ([] : List ByteArray)]) (es := [.lit (.string ((⟨s, decide ((0 : Int) < (ys.length : Int)), [], [], ([(⟨#[124, 45]⟩ : ByteArray), (⟨#[120]⟩ : ByteArray)] : List ByteArray), [], [], ys⟩ : Fr).label)), .lit (.bool ((⟨s, decide ((0 : Int) < (ys.length : Int)), [], [], ([(⟨#[124, 45]⟩ : ByteArray), (⟨#[120]⟩ : ByteArray)] : List ByteArray), [], [], ys⟩ : Fr).thm)), Z4 ((⟨s, decide ((0 : Int) < (ys.length : Int)), [], [], ([(⟨#[124, 45]⟩ : ByteArray), (⟨#[120]⟩ : ByteArray)] : List ByteArray), [], [], ys⟩ : Fr).hyps), YG ((⟨s, decide ((0 : Int) < (ys.length : Int)), [], [], ([(⟨#[124, 45]⟩ : ByteArray), (⟨#[120]⟩ : ByteArray)] : List ByteArray), [], [], ys⟩ : Fr).apart), Zg ((⟨s, decide ((0 : Int) < (ys.length : Int)), [], [], ([(⟨#[124, 45]⟩ : ByteArray), (⟨#[120]⟩ : ByteArray)] : List ByteArray), [], [], ys⟩ : Fr).text), Z4 ((⟨s, decide ((0 : Int) < (ys.length : Int)), [], [], ([(⟨#[124, 45]⟩ : ByteArray), (⟨#[120]⟩ : ByteArray)] : List ByteArray), [], [], ys⟩ : Fr).dummies), YG ((⟨s, decide ((0 : Int) < (ys.length : Int)), [], [], ([(⟨#[124, 45]⟩ : ByteArray), (⟨#[120]⟩ : ByteArray)] : List ByteArray), [], [], ys⟩ : Fr).wide), Zg ((⟨s, decide ((0 : Int) < (ys.length : Int)), [], [], ([(⟨#[124, 45]⟩ : ByteArray), (⟨#[120]⟩ : ByteArray)] : List ByteArray), [], [], ys⟩ : Fr).proof)]) (news := [.lit (.string ((⟨s, decide ((0 : Int) < (ys.length : Int)), [], [], ([(⟨#[124, 45]⟩ : ByteArray), (⟨#[120]⟩ : ByteArray)] : List ByteArray), [], [], ys⟩ : Fr).label)), .lit (.bool ((⟨s, decide ((0 : Int) < (ys.length : Int)), [], [], ([(⟨#[124, 45]⟩ : ByteArray), (⟨#[120]⟩ : ByteArray)] : List ByteArray), [], [], ys⟩ : Fr).thm)), Z4 ((⟨s, decide ((0 : Int) < (ys.length : Int)), [], [], ([(⟨#[124, 45]⟩ : ByteArray), (⟨#[120]⟩ : ByteArray)] : List ByteArray), [], [], ys⟩ : Fr).hyps), YG ((⟨s, decide ((0 : Int) < (ys.length : Int)), [], [], ([(⟨#[124, 45]⟩ : ByteArray), (⟨#[120]⟩ : ByteArray)] : List ByteArray), [], [], ys⟩ : Fr).apart), Zg ((⟨s, decide ((0 : Int) < (ys.length : Int)), [], [], ([(⟨#[124, 45]⟩ : ByteArray), (⟨#[120]⟩ : ByteArray)] : List ByteArray), [], [], ys⟩ : Fr).text), Z4 ((⟨s, decide ((0 : Int) < (ys.length : Int)), [], [], ([(⟨#[124, 45]⟩ : ByteArray), (⟨#[120]⟩ : ByteArray)] : List ByteArray), [], [], ys⟩ : Fr).dummies), YG ((⟨s, decide ((0 : Int) < (ys.length : Int)), [], [], ([(⟨#[124, 45]⟩ : ByteArray), (⟨#[120]⟩ : ByteArray)] : List ByteArray), [], [], ys⟩ : Fr).wide), Zg ((⟨s, decide ((0 : Int) < (ys.length : Int)), [], [], ([(⟨#[124, 45]⟩ : ByteArray), (⟨#[120]⟩ : ByteArray)] : List ByteArray), [], [], ys⟩ : Fr).proof)]) hJ hJ0 Zev rfl rfl rfl (lb rfl) rfl (fun a w h => ⟨(h.get 7 rfl), (h.get 0 rfl)⟩) (Zy ?_))))))))))))
 refine kw (lz [2, 7] (env' := [(_, _), (_, _)]) rfl) ?_
 refine nx (Zf (fun a w h => Zj h 0 rfl) fun hl2 => Zi (fun a w h => ZgX (cs := [.lit (.string ((⟨s, decide ((0 : Int) < (ys.length : Int)), [], [], ([(⟨#[124, 45]⟩ : ByteArray), (⟨#[120]⟩ : ByteArray)] : List ByteArray), [], [], ys⟩ : Fr).label)), .lit (.bool ((⟨s, decide ((0 : Int) < (ys.length : Int)), [], [], ([(⟨#[124, 45]⟩ : ByteArray), (⟨#[120]⟩ : ByteArray)] : List ByteArray), [], [], ys⟩ : Fr).thm)), Z4 ((⟨s, decide ((0 : Int) < (ys.length : Int)), [], [], ([(⟨#[124, 45]⟩ : ByteArray), (⟨#[120]⟩ : ByteArray)] : List ByteArray), [], [], ys⟩ : Fr).hyps), YG ((⟨s, decide ((0 : Int) < (ys.length : Int)), [], [], ([(⟨#[124, 45]⟩ : ByteArray), (⟨#[120]⟩ : ByteArray)] : List ByteArray), [], [], ys⟩ : Fr).apart), Zg ((⟨s, decide ((0 : Int) < (ys.length : Int)), [], [], ([(⟨#[124, 45]⟩ : ByteArray), (⟨#[120]⟩ : ByteArray)] : List ByteArray), [], [], ys⟩ : Fr).text), Z4 ((⟨s, decide ((0 : Int) < (ys.length : Int)), [], [], ([(⟨#[124, 45]⟩ : ByteArray), (⟨#[120]⟩ : ByteArray)] : List ByteArray), [], [], ys⟩ : Fr).dummies), YG ((⟨s, decide ((0 : Int) < (ys.length : Int)), [], [], ([(⟨#[124, 45]⟩ : ByteArray), (⟨#[120]⟩ : ByteArray)] : List ByteArray), [], [], ys⟩ : Fr).wide), Zg ((⟨s, decide ((0 : Int) < (ys.length : Int)), [], [], ([(⟨#[124, 45]⟩ : ByteArray), (⟨#[120]⟩ : ByteArray)] : List ByteArray), [], [], ys⟩ : Fr).proof)]) (m := 1) rfl ZmA h rfl rfl (show [.lit (.string ((⟨s, decide ((0 : Int) < (ys.length : Int)), [], [], ([(⟨#[124, 45]⟩ : ByteArray), (⟨#[120]⟩ : ByteArray)] : List ByteArray), [], [], ys⟩ : Fr).label)), .lit (.bool ((⟨s, decide ((0 : Int) < (ys.length : Int)), [], [], ([(⟨#[124, 45]⟩ : ByteArray), (⟨#[120]⟩ : ByteArray)] : List ByteArray), [], [], ys⟩ : Fr).thm)), Z4 ((⟨s, decide ((0 : Int) < (ys.length : Int)), [], [], ([(⟨#[124, 45]⟩ : ByteArray), (⟨#[120]⟩ : ByteArray)] : List ByteArray), [], [], ys⟩ : Fr).hyps), YG ((⟨s, decide ((0 : Int) < (ys.length : Int)), [], [], ([(⟨#[124, 45]⟩ : ByteArray), (⟨#[120]⟩ : ByteArray)] : List ByteArray), [], [], ys⟩ : Fr).apart), Zg ((⟨s, decide ((0 : Int) < (ys.length : Int)), [], [], ([(⟨#[124, 45]⟩ : ByteArray), (⟨#[120]⟩ : ByteArray)] : List ByteArray), [], [], ys⟩ : Fr).text), Z4 ((⟨s, decide ((0 : Int) < (ys.length : Int)), [], [], ([(⟨#[124, 45]⟩ : ByteArray), (⟨#[120]⟩ : ByteArray)] : List ByteArray), [], [], ys⟩ : Fr).dummies), YG ((⟨s, decide ((0 : Int) < (ys.length : Int)), [], [], ([(⟨#[124, 45]⟩ : ByteArray), (⟨#[120]⟩ : ByteArray)] : List ByteArray), [], [], ys⟩ : Fr).wide), Zg ((⟨s, decide ((0 : Int) < (ys.length : Int)), [], [], ([(⟨#[124, 45]⟩ : ByteArray), (⟨#[120]⟩ : ByteArray)] : List ByteArray), [], [], ys⟩ : Fr).proof)] = [.lit (.string ((YR s ys).label)), .lit (.bool ((YR s ys).thm)), Z4 ((YR s ys).hyps), YG ((YR s ys).apart), Zg ((YR s ys).text), Z4 ((YR s ys).dummies), YG ((YR s ys).wide), Zg ((YR s ys).proof)] from rfl)))
theorem Zna {J : World → Prop} (hJ : Stab J)   : Fn Tryz.prog J 42 [] (.agg (dbC smallD)) := by
 refine Zx (N := 15) Tryz.func42 rfl rfl (lb rfl) fun S w0 hS hJ0 => ?_
 refine tw Yi ?_
 refine Za (Zn (Y9 Zfu hJ rfl rfl rfl (lb rfl) fun b1 => ?_))
 refine Zy (nx (Za (rgo tb hJ [0, 1000] [_] [] [(_, _), (_, .fn 70 [])] rfl rfl rfl rfl trivial (nx (Za (Zn (sq (.rd (Zg ([(⟨#[124, 45]⟩ : ByteArray), (⟨#[120]⟩ : ByteArray)] : List ByteArray))) rfl rfl (lb rfl) (fun a _ h => X6 (k := 2) (us := [a.eval (Go.Operand.const (Go.Value.string { data := #[124, 45] })), a.eval (Go.Operand.const (Go.Value.string { data := #[120] }))]) Zk Zb1 rfl (by simp) (ZX (Rel.of_lit (Go.Value.string { data := #[124, 45] }) (lb rfl)) (ZX (Rel.of_lit (Go.Value.string { data := #[120] }) (lb rfl)) X0)) rfl (by decide) (by decide) (Zr hS _ h.keep h.x _ (Nat.le_refl _)) (jo hJ h.x)) (sv tb rfl rfl rfl rfl (sq (.agg (frC (YR (⟨#[97]⟩ : ByteArray) ([] : List ByteArray)))) rfl rfl (lb rfl) (fun _ _ h => ZaF ((ZbN hJ (⟨#[97]⟩ : ByteArray) ([] : List ByteArray)).r) Zd6 rfl (h.get 0 rfl) (Zr hS _ h.keep h.x) (h.x.1) ZP (Zc (Rel.of_lit (Go.Value.string { data := #[97] }) (lb rfl)) (Zc (QL (Rel.of_lit (Go.Value.slice none 0 0))) Zm)) (jo hJ h.x)) (sv tb rfl rfl rfl rfl (sq (.agg (frC (YR (⟨#[98]⟩ : ByteArray) ([] : List ByteArray)))) rfl rfl (lb rfl) (fun _ _ h => ZaF ((ZbN hJ (⟨#[98]⟩ : ByteArray) ([] : List ByteArray)).r) Zd6 rfl (h.get 0 rfl) (Zr hS _ h.keep h.x) (h.x.1) ZP (Zc (Rel.of_lit (Go.Value.string { data := #[98] }) (lb rfl)) (Zc (QL (Rel.of_lit (Go.Value.slice none 0 0))) Zm)) (jo hJ h.x)) (sv tb rfl rfl rfl rfl ?_))))))))))))
 refine sq (.rd (Zg ([(⟨#[97]⟩ : ByteArray)]))) rfl rfl (lb rfl) (fun _ _ h => ZV Zk Zay rfl (Rel.of_lit (Go.Value.string { data := #[97] }) (lb rfl)) (Zr hS _ h.keep h.x _ (Nat.le_refl _)) (jo hJ h.x)) (sq (.agg (frC (YR (⟨#[116]⟩ : ByteArray) ([(⟨#[97]⟩ : ByteArray)])))) rfl rfl (lb rfl) (fun _ _ h => ZaF ((ZbN hJ (⟨#[116]⟩ : ByteArray) ([(⟨#[97]⟩ : ByteArray)])).r) Zd6 rfl (h.get 1 rfl) (Zr hS _ h.keep h.x) (h.x.1) ZP (Zc (Rel.of_lit (Go.Value.string { data := #[116] }) (lb rfl)) (Zc (h.get 0 rfl) Zm)) (jo hJ h.x)) (sv tb rfl rfl rfl rfl (sq (.rd (Zg ([(⟨#[116]⟩ : ByteArray), (⟨#[98]⟩ : ByteArray)] : List ByteArray))) rfl rfl (lb rfl) (fun a _ h => X6 (k := 2) (us := [a.eval (Go.Operand.const (Go.Value.string { data := #[116] })), a.eval (Go.Operand.const (Go.Value.string { data := #[98] }))]) Zk Zb1 rfl (by simp) (ZX (Rel.of_lit (Go.Value.string { data := #[116] }) (lb rfl)) (ZX (Rel.of_lit (Go.Value.string { data := #[98] }) (lb rfl)) X0)) rfl (by decide) (by decide) (Zr hS _ h.keep h.x _ (Nat.le_refl _)) (jo hJ h.x)) (sq (.agg (frC (YR (⟨#[117]⟩ : ByteArray) ([(⟨#[116]⟩ : ByteArray), (⟨#[98]⟩ : ByteArray)] : List ByteArray)))) rfl rfl (lb rfl) (fun _ _ h => ZaF ((ZbN hJ (⟨#[117]⟩ : ByteArray) ([(⟨#[116]⟩ : ByteArray), (⟨#[98]⟩ : ByteArray)] : List ByteArray)).r) Zd6 rfl (h.get 1 rfl) (Zr hS _ h.keep h.x) (h.x.1) ZP (Zc (Rel.of_lit (Go.Value.string { data := #[117] }) (lb rfl)) (Zc (h.get 0 rfl) Zm)) (jo hJ h.x)) (sq (.rd (Yn ([(YR (⟨#[97]⟩ : ByteArray) ([] : List ByteArray)), (YR (⟨#[98]⟩ : ByteArray) ([] : List ByteArray)), (YR (⟨#[116]⟩ : ByteArray) ([(⟨#[97]⟩ : ByteArray)])), (YR (⟨#[117]⟩ : ByteArray) ([(⟨#[116]⟩ : ByteArray), (⟨#[98]⟩ : ByteArray)] : List ByteArray))]))) rfl rfl (lb rfl) (fun _ _ h => ZhI Ye (fun w => by kernel_rfl) rfl (h.get 8 rfl) (h.get 6 rfl) (h.get 3 rfl) (h.get 0 rfl) (Zr hS _ h.keep h.x _ (Nat.le_refl _)) (jo hJ h.x)) (sq (.agg (dbC (⟨([(⟨#[124, 45]⟩ : ByteArray), (⟨#[120]⟩ : ByteArray)] : List ByteArray), [], [(YR (⟨#[97]⟩ : ByteArray) ([] : List ByteArray)), (YR (⟨#[98]⟩ : ByteArray) ([] : List ByteArray)), (YR (⟨#[116]⟩ : ByteArray) ([(⟨#[97]⟩ : ByteArray)])), (YR (⟨#[117]⟩ : ByteArray) ([(⟨#[116]⟩ : ByteArray), (⟨#[98]⟩ : ByteArray)] : List ByteArray))]⟩ : Db))) rfl rfl (lb rfl) (fun _ _ h => ZiO (xs := ([(⟨#[124, 45]⟩ : ByteArray), (⟨#[120]⟩ : ByteArray)] : List ByteArray)) (fs := ([(YR (⟨#[97]⟩ : ByteArray) ([] : List ByteArray)), (YR (⟨#[98]⟩ : ByteArray) ([] : List ByteArray)), (YR (⟨#[116]⟩ : ByteArray) ([(⟨#[97]⟩ : ByteArray)])), (YR (⟨#[117]⟩ : ByteArray) ([(⟨#[116]⟩ : ByteArray), (⟨#[98]⟩ : ByteArray)] : List ByteArray))])) Zia rfl (h.get 11 rfl) (h.get 0 rfl) h.x) (Y2 (b := b1) (off := 0) (cs := [Zg ([] : List ByteArray), Zg ([] : List ByteArray), Yn ([] : List Fr)]) (es := [Zg ((⟨([(⟨#[124, 45]⟩ : ByteArray), (⟨#[120]⟩ : ByteArray)] : List ByteArray), [], [(YR (⟨#[97]⟩ : ByteArray) ([] : List ByteArray)), (YR (⟨#[98]⟩ : ByteArray) ([] : List ByteArray)), (YR (⟨#[116]⟩ : ByteArray) ([(⟨#[97]⟩ : ByteArray)])), (YR (⟨#[117]⟩ : ByteArray) ([(⟨#[116]⟩ : ByteArray), (⟨#[98]⟩ : ByteArray)] : List ByteArray))]⟩ : Db).consts), Zg ((⟨([(⟨#[124, 45]⟩ : ByteArray), (⟨#[120]⟩ : ByteArray)] : List ByteArray), [], [(YR (⟨#[97]⟩ : ByteArray) ([] : List ByteArray)), (YR (⟨#[98]⟩ : ByteArray) ([] : List ByteArray)), (YR (⟨#[116]⟩ : ByteArray) ([(⟨#[97]⟩ : ByteArray)])), (YR (⟨#[117]⟩ : ByteArray) ([(⟨#[116]⟩ : ByteArray), (⟨#[98]⟩ : ByteArray)] : List ByteArray))]⟩ : Db).vars), Yn ((⟨([(⟨#[124, 45]⟩ : ByteArray), (⟨#[120]⟩ : ByteArray)] : List ByteArray), [], [(YR (⟨#[97]⟩ : ByteArray) ([] : List ByteArray)), (YR (⟨#[98]⟩ : ByteArray) ([] : List ByteArray)), (YR (⟨#[116]⟩ : ByteArray) ([(⟨#[97]⟩ : ByteArray)])), (YR (⟨#[117]⟩ : ByteArray) ([(⟨#[116]⟩ : ByteArray), (⟨#[98]⟩ : ByteArray)] : List ByteArray))]⟩ : Db).frames)]) (news := [Zg ((⟨([(⟨#[124, 45]⟩ : ByteArray), (⟨#[120]⟩ : ByteArray)] : List ByteArray), [], [(YR (⟨#[97]⟩ : ByteArray) ([] : List ByteArray)), (YR (⟨#[98]⟩ : ByteArray) ([] : List ByteArray)), (YR (⟨#[116]⟩ : ByteArray) ([(⟨#[97]⟩ : ByteArray)])), (YR (⟨#[117]⟩ : ByteArray) ([(⟨#[116]⟩ : ByteArray), (⟨#[98]⟩ : ByteArray)] : List ByteArray))]⟩ : Db).consts), Zg ((⟨([(⟨#[124, 45]⟩ : ByteArray), (⟨#[120]⟩ : ByteArray)] : List ByteArray), [], [(YR (⟨#[97]⟩ : ByteArray) ([] : List ByteArray)), (YR (⟨#[98]⟩ : ByteArray) ([] : List ByteArray)), (YR (⟨#[116]⟩ : ByteArray) ([(⟨#[97]⟩ : ByteArray)])), (YR (⟨#[117]⟩ : ByteArray) ([(⟨#[116]⟩ : ByteArray), (⟨#[98]⟩ : ByteArray)] : List ByteArray))]⟩ : Db).vars), Yn ((⟨([(⟨#[124, 45]⟩ : ByteArray), (⟨#[120]⟩ : ByteArray)] : List ByteArray), [], [(YR (⟨#[97]⟩ : ByteArray) ([] : List ByteArray)), (YR (⟨#[98]⟩ : ByteArray) ([] : List ByteArray)), (YR (⟨#[116]⟩ : ByteArray) ([(⟨#[97]⟩ : ByteArray)])), (YR (⟨#[117]⟩ : ByteArray) ([(⟨#[116]⟩ : ByteArray), (⟨#[98]⟩ : ByteArray)] : List ByteArray))]⟩ : Db).frames)]) hJ hJ0 ZiF rfl rfl rfl (lb rfl) rfl (fun a w h => ⟨(h.get 13 rfl), (h.get 0 rfl)⟩) (Zy ?_))))))))
 refine kw (lz [1, 3, 6, 12, 13] (env' := [(_, _), (_, _), (_, _), (_, _), (_, _)]) rfl) ?_
 refine nx (Zf (fun a w h => Zj h 0 rfl) fun hl1 => Zf (fun a w h => Zj h 1 rfl) fun hl2 => Zf (fun a w h => Zj h 2 rfl) fun hl3 => Zf (fun a w h => Zj h 3 rfl) fun hl4 => Zi (fun a w h => ZgX (cs := [Zg ((⟨([(⟨#[124, 45]⟩ : ByteArray), (⟨#[120]⟩ : ByteArray)] : List ByteArray), [], [(YR (⟨#[97]⟩ : ByteArray) ([] : List ByteArray)), (YR (⟨#[98]⟩ : ByteArray) ([] : List ByteArray)), (YR (⟨#[116]⟩ : ByteArray) ([(⟨#[97]⟩ : ByteArray)])), (YR (⟨#[117]⟩ : ByteArray) ([(⟨#[116]⟩ : ByteArray), (⟨#[98]⟩ : ByteArray)] : List ByteArray))]⟩ : Db).consts), Zg ((⟨([(⟨#[124, 45]⟩ : ByteArray), (⟨#[120]⟩ : ByteArray)] : List ByteArray), [], [(YR (⟨#[97]⟩ : ByteArray) ([] : List ByteArray)), (YR (⟨#[98]⟩ : ByteArray) ([] : List ByteArray)), (YR (⟨#[116]⟩ : ByteArray) ([(⟨#[97]⟩ : ByteArray)])), (YR (⟨#[117]⟩ : ByteArray) ([(⟨#[116]⟩ : ByteArray), (⟨#[98]⟩ : ByteArray)] : List ByteArray))]⟩ : Db).vars), Yn ((⟨([(⟨#[124, 45]⟩ : ByteArray), (⟨#[120]⟩ : ByteArray)] : List ByteArray), [], [(YR (⟨#[97]⟩ : ByteArray) ([] : List ByteArray)), (YR (⟨#[98]⟩ : ByteArray) ([] : List ByteArray)), (YR (⟨#[116]⟩ : ByteArray) ([(⟨#[97]⟩ : ByteArray)])), (YR (⟨#[117]⟩ : ByteArray) ([(⟨#[116]⟩ : ByteArray), (⟨#[98]⟩ : ByteArray)] : List ByteArray))]⟩ : Db).frames)]) (m := 4) rfl Zho h rfl rfl (show [Zg ((⟨([(⟨#[124, 45]⟩ : ByteArray), (⟨#[120]⟩ : ByteArray)] : List ByteArray), [], [(YR (⟨#[97]⟩ : ByteArray) ([] : List ByteArray)), (YR (⟨#[98]⟩ : ByteArray) ([] : List ByteArray)), (YR (⟨#[116]⟩ : ByteArray) ([(⟨#[97]⟩ : ByteArray)])), (YR (⟨#[117]⟩ : ByteArray) ([(⟨#[116]⟩ : ByteArray), (⟨#[98]⟩ : ByteArray)] : List ByteArray))]⟩ : Db).consts), Zg ((⟨([(⟨#[124, 45]⟩ : ByteArray), (⟨#[120]⟩ : ByteArray)] : List ByteArray), [], [(YR (⟨#[97]⟩ : ByteArray) ([] : List ByteArray)), (YR (⟨#[98]⟩ : ByteArray) ([] : List ByteArray)), (YR (⟨#[116]⟩ : ByteArray) ([(⟨#[97]⟩ : ByteArray)])), (YR (⟨#[117]⟩ : ByteArray) ([(⟨#[116]⟩ : ByteArray), (⟨#[98]⟩ : ByteArray)] : List ByteArray))]⟩ : Db).vars), Yn ((⟨([(⟨#[124, 45]⟩ : ByteArray), (⟨#[120]⟩ : ByteArray)] : List ByteArray), [], [(YR (⟨#[97]⟩ : ByteArray) ([] : List ByteArray)), (YR (⟨#[98]⟩ : ByteArray) ([] : List ByteArray)), (YR (⟨#[116]⟩ : ByteArray) ([(⟨#[97]⟩ : ByteArray)])), (YR (⟨#[117]⟩ : ByteArray) ([(⟨#[116]⟩ : ByteArray), (⟨#[98]⟩ : ByteArray)] : List ByteArray))]⟩ : Db).frames)] = [Zg smallD.consts, Zg smallD.vars, Yn smallD.frames] from rfl)))
theorem Zio {J : World → Prop} (hJ : Stab J)  (hG : X5 J) : Fn Tryz.prog J 9 [] (.bool true) := by
 refine Zx (N := 33) Tryz.func9 rfl rfl (lb rfl) fun S w0 hS hJ0 => ?_
 refine tw Yi ?_
 refine Za (rgo tb hJ [] [_] [] [] rfl rfl rfl rfl trivial (nx (Za (Zn (sq (.agg (dbC smallD)) rfl rfl (lb rfl) (fun _ _ h => Qk (Zna hJ  ) Zoq rfl (Zr hS _ h.keep h.x) (h.x.1) Zm (jo hJ h.x)) (QZ (cs := dbC smallD) Zkk rfl rfl rfl (lb rfl) rfl rfl rfl (by decide) (m := 0) rfl rfl (fun a w h => Zr hS _ h.keep h.x _ (Nat.le_refl _)) (fun a w h w' hk' => YY hJ _ _ hk' h.x) (Zy ?_)))))))
 refine kw (lz [0] (env' := [(_, _)]) rfl) ?_
 refine nx (Za (Zn (sv (av := .agg (dbC smallD)) tb rfl rfl rfl rfl (Zat (O := []) (R := []) (Zny hJ (d := smallD) (i := (3 : Int)) (by exact smHw) (by exact hG)) Zoy rfl rfl rfl (lb rfl) hS hJ0 ZP (fun a w h => (Zc (h.get 0 rfl) (Zc (Rel.of_lit (Go.Value.int Go.IntKind.i64 3)) Zm))) fun z1 => ?_))))
 refine sv tb rfl rfl rfl rfl (sv tb rfl rfl rfl rfl (sv tb rfl rfl rfl rfl (sv tb rfl rfl rfl rfl (sv tb rfl rfl rfl rfl (Zy ?_)))))
 refine kw (lz [0, 1, 7] (env' := [(_, _), (_, _), (_, _)]) rfl) ?_
 refine nx (Za (rgo tb hJ [0, 1, 1003, 1005, 1006] [_, .tup [.rd (ZG (if Z8 smallD (3 : Int) (0 : Int) = 0 then Zau (usL smallD smallD.frames.length) (3 : Int).toNat (0 : Int).toNat else [])), .int (Z8 smallD (3 : Int) (0 : Int))], _, _, _, _, _] [1] [(_, _), (_, _), (_, .rd (ZG (if Z8 smallD (3 : Int) (0 : Int) = 0 then Zau (usL smallD smallD.frames.length) (3 : Int).toNat (0 : Int).toNat else []))), (_, .rd (ZG (if Z8 smallD (3 : Int) (0 : Int) = 0 then Zau (usL smallD smallD.frames.length) (3 : Int).toNat (0 : Int).toNat else []))), (_, .int (Z8 smallD (3 : Int) (0 : Int)))] rfl rfl rfl rfl ⟨hFo hS hJ (ZmU hJ (d := smallD) (f := (3 : Int)) (t := (0 : Int)) (by exact smHw) (by exact hG)) ZjZ rfl rfl rfl rfl, trivial⟩ (nx (Zf (fun a w h => Zj h 2 rfl) fun hl1 => Za ?_))))
 refine tw (fun h => ZO hS h (m := 1) (s := 2) rfl) ?_
 refine rgo tb hJ [1016] [_, _, _, _, _, _, _, _, .rd (ZG ([(0 : Int), (1 : Int), (2 : Int)] : List Int)), .bool (decide ((if QV smallD (3 : Int) = 0 then ZeR (usL smallD smallD.frames.length) (3 : Int).toNat else []) = ([(0 : Int), (1 : Int), (2 : Int)] : List Int))), _, _, _, .rd (ZG ([(2 : Int)])), .bool (decide ((if Z8 smallD (3 : Int) (0 : Int) = 0 then Zau (usL smallD smallD.frames.length) (3 : Int).toNat (0 : Int).toNat else []) = ([(2 : Int)]))), _, _] [8, 9, 13, 14] [(_, .bool ((((decide (QV smallD (3 : Int) = (0 : Int))) && (decide (Z8 smallD (3 : Int) (0 : Int) = (0 : Int)))) && (decide ((if QV smallD (3 : Int) = 0 then ZeR (usL smallD smallD.frames.length) (3 : Int).toNat else []) = ([(0 : Int), (1 : Int), (2 : Int)] : List Int)))) && (decide ((if Z8 smallD (3 : Int) (0 : Int) = 0 then Zau (usL smallD smallD.frames.length) (3 : Int).toNat (0 : Int).toNat else []) = ([(2 : Int)])))))] rfl rfl rfl rfl ⟨fun a _ hk hx _ _ => X6 (k := 3) (us := [a.eval (Go.Operand.const (Go.Value.int Go.IntKind.i64 0)), a.eval (Go.Operand.const (Go.Value.int Go.IntKind.i64 1)), a.eval (Go.Operand.const (Go.Value.int Go.IntKind.i64 2))]) Zo Zb2 rfl (by simp) (ZX (Rel.of_lit (Go.Value.int Go.IntKind.i64 0)) (ZX (Rel.of_lit (Go.Value.int Go.IntKind.i64 1)) (ZX (Rel.of_lit (Go.Value.int Go.IntKind.i64 2)) X0))) rfl (by decide) (by decide) (Zr hS _ hk hx _ (Nat.le_refl _)) (jo hJ hx), fun _ _ hk hx hl hc => Qk (ZaW hJ (xs := (if QV smallD (3 : Int) = 0 then ZeR (usL smallD smallD.frames.length) (3 : Int).toNat else [])) (ys := ([(0 : Int), (1 : Int), (2 : Int)] : List Int)) ) ZcJ rfl (Zr hS _ hk hx) (hx.1) (Zc (hl.dep 7 24 _ rfl rfl rfl hc) (Zc (hl.dep 8 25 _ rfl rfl rfl hc) Zm)) (jo hJ hx), fun _ _ hk hx _ _ => ZV Zo Xu rfl (Rel.of_lit (Go.Value.int Go.IntKind.i64 2)) (Zr hS _ hk hx _ (Nat.le_refl _)) (jo hJ hx), fun _ _ hk hx hl hc => Qk (ZaW hJ (xs := (if Z8 smallD (3 : Int) (0 : Int) = 0 then Zau (usL smallD smallD.frames.length) (3 : Int).toNat (0 : Int).toNat else [])) (ys := ([(2 : Int)])) ) ZcJ rfl (Zr hS _ hk hx) (hx.1) (Zc (hl.dep 12 29 _ rfl rfl rfl hc) (Zc (hl.dep 13 30 _ rfl rfl rfl hc) Zm)) (jo hJ hx), trivial⟩ (nx (Zi (fun a w h => Zh (m := 0) rfl (Zl h) rfl (congrArg AV.bool (show ((((decide (QV smallD (3 : Int) = (0 : Int))) && (decide (Z8 smallD (3 : Int) (0 : Int) = (0 : Int)))) && (decide ((if QV smallD (3 : Int) = 0 then ZeR (usL smallD smallD.frames.length) (3 : Int).toNat else []) = ([(0 : Int), (1 : Int), (2 : Int)] : List Int)))) && (decide ((if Z8 smallD (3 : Int) (0 : Int) = 0 then Zau (usL smallD smallD.frames.length) (3 : Int).toNat (0 : Int).toNat else []) = ([(2 : Int)])))) = true from by rw [if_pos smChd, if_pos ZmJ, smNed, smMst, smChd, ZmJ]; simp)))))
theorem w_Few1 {J : World → Prop} (hJ : Stab J) (f : Fr)  : Fn Tryz.prog J 41 [.agg (frC f)] (.bool (decide ((200 : Int) < (f.proof.length : Int)))) := by
 refine Zx (N := 7) Tryz.func41 rfl rfl (lb rfl) fun S w0 hS hJ0 => ?_
 clear hJ0
 refine Za (rg tb hJ [1000] [_, _] [0] [(_, .ptr (frC f))] rfl rfl rfl rfl ⟨fun _ _ hk hx hl _ => Yv rfl (hl.env 0 0 _ rfl rfl) (hS _ hk.size) (js hJ hx), trivial⟩ (nx (Za (rg tb hJ [1001, 1004] [_, _, .int f.proof.length, _, _] [2] [(_, .rd (Zg f.proof)), (_, .bool (decide ((200 : Int) < (f.proof.length : Int))))] rfl rfl rfl rfl ⟨Ys ZB rfl rfl rfl rfl, trivial⟩ (nx (Zf (fun a w h => Zj h 0 rfl) fun hl1 => Zi (fun a w h => Zh (m := 1) rfl h rfl rfl)))))))
theorem w_Few {J : World → Prop} (hJ : Stab J) (d : Db)  : Fn Tryz.prog J 8 [.agg (dbC d)] (.bool (fewD d)) := by
 refine Zx (N := 13) Tryz.func8 rfl rfl (lb rfl) fun S w0 hS hJ0 => ?_
 clear hJ0
 refine Za (rg tb hJ [1000] [_, _] [0] [(_, .ptr (dbC d))] rfl rfl rfl rfl ⟨fun _ _ hk hx hl _ => Yv rfl (hl.env 0 0 _ rfl rfl) (hS _ hk.size) (js hJ hx), trivial⟩ (nx (Za (rg tb hJ [1001, 1010] [_, _, .int d.frames.length, _, _, _, _, .bool (d.frames.any (fun (f' : Fr) => decide ((200 : Int) < (f'.proof.length : Int)))), _, _, _] [2, 7] [(_, .rd (Yn d.frames)), (_, .bool ((decide ((d.frames.length : Int) ≤ (30 : Int))) && (!(d.frames.any (fun (f' : Fr) => decide ((200 : Int) < (f'.proof.length : Int)))))))] rfl rfl rfl rfl ⟨Ys YH rfl rfl rfl rfl, fun _ _ hk hx hl hc => X1 (Zcl hJ (xs := d.frames) (f := 41) (caps := []) (Os := []) (p := (fun (f' : Fr) => decide ((200 : Int) < (f'.proof.length : Int)))) (fun q' => (w_Few1 hJ q').rr) (Zor)) Zos rfl (nm hS hk) (hx) ZP (Zc (hl.dep 6 9 _ rfl rfl rfl hc) (Zc (QG 41) Zm)) (js hJ hx), trivial⟩ (nx (Zf (fun a w h => Zj h 0 rfl) fun hl1 => Zi (fun a w h => Zh (m := 1) rfl h rfl (congrArg AV.bool (show ((decide ((d.frames.length : Int) ≤ (30 : Int))) && (!(d.frames.any (fun (f' : Fr) => decide ((200 : Int) < (f'.proof.length : Int)))))) = (fewD d) from rfl)))))))))
end Go.Proofs.YtnpgmdffjemnbaaGreatDoor
set_option maxHeartbeats 8000000
set_option maxRecDepth 100000
namespace Go.Proofs.YtnpgmdffjemnbaaGreatDoor
open Go.RowKit

theorem Zoz {J : World → Prop} (hJ : Stab J) (d : Db) (i : Nat) (wo : Int) (hi : i < d.frames.length) (hf : d.frames.length ≤ 400) : Fn Tryz.prog J 49 [.agg (dbC d), .int i, .int wo] (.rd (ZG (Zic (usL d d.frames.length) wo i))) := by
 refine Zx (N := 71) Tryz.func49 rfl rfl (lb rfl) fun S w0 hS hJ0 => ?_
 refine tw Yi ?_
 refine Za (rgo tb hJ [1, 2, 1000] [_, _] [0] [(_, _), (_, _), (_, .ptr (dbC d))] rfl rfl rfl rfl ⟨fun _ _ hk hx hl _ => Yv rfl (hl.env 0 0 _ rfl rfl) (Zr hS _ hk hx _ (Nat.le_refl _)) (jo hJ hx), trivial⟩ (nx (Za (Zn (sv (av := .ptr [Yn d.frames]) tb rfl rfl rfl rfl (sv (av := .rd (Yn d.frames)) tb rfl rfl rfl rfl (sq (.int d.frames.length) rfl rfl (lb rfl) (fun _ _ h => Yy YH rfl (h.get 0 rfl) h.x) (Zdc (f := ZcM) (k := d.frames.length) false ZhO rfl hJ rfl rfl rfl (lb rfl) (fun a w h => ⟨(h.get 0 rfl), (h.get 0 rfl)⟩) (by omega) (by omega) fun v1 => ?_))))))))
 refine sv tb rfl rfl rfl rfl (Zy ?_)
 refine kw (lz [0, 3, 5, 6, 7] (env' := [(_, _), (_, _), (_, _), (_, _), (_, _)]) rfl) ?_
 refine nx (Zf (fun a w h => Zj h 1 rfl) fun hl1 => Za (Zn (sv tb rfl rfl rfl rfl (sv tb rfl rfl rfl rfl (sq (.lit (XI v1 (i * 1))) rfl rfl (lb rfl) (fun _ _ h => Yu (i := (i : Int)) QP rfl (ZA h.x (mo 0 rfl)) (h.get 1 rfl) (h.get 0 rfl) (Int.natCast_nonneg _) (by rw [List.length_map]; exact Int.ofNat_lt.2 (by first | omega | (simp; omega) | grind [Zb])) h.x) (Qo (i := i) hJ hJ0 Zgq rfl rfl rfl (by rw [List.length_map]; exact (by first | omega | (simp; omega) | grind [Zb])) (fun a w h => ⟨(h.get 0 rfl), (Rel.of_lit (Go.Value.bool true))⟩) ?_))))))
 rw [show ((List.replicate d.frames.length false).map ZcM).set i [.lit (.bool true)] = ((List.replicate d.frames.length false).set i true).map ZcM from List.map_set.symm]
 refine Zy ?_
 refine kw (lz [3, 5, 6, 7] (env' := [(_, _), (_, _), (_, _), (_, _)]) rfl) ?_
 refine nx (Za (Za (rgo tb hJ [0, 1, 2, 3, 1001] [_, _] [] [(_, _), (_, _), (_, _), (_, _), (_, .int i)] rfl rfl rfl rfl trivial ?_)))
 refine kw (sa 4 rfl (congrArg AV.int (show (i : Int) = ((i + 1 : Nat) : Int) - (1 : Int) from by omega))) ?_
 refine nx (Ze (Zw (ι := Nat × Value × (List Bool)) (fun (ii' : Nat × Value × (List Bool)) a w => match ii' with | (q, vm, mk) => ((q ≤ i + 1) ∧ (MkI (usL d d.frames.length) wo i q mk) ∧ (mk.length = d.frames.length)) ∧ St All (SO S [OB.row vm 4 1 (mk.map ZcM)]) w0 71 [(1, .int i), (2, .int wo), (3, .ptr (dbC d)), (8, .int ((q : Int) - (1 : Int))), (7, .lit vm)] (XO J S w0.heap.size [OB.row vm 4 1 (mk.map ZcM)]) a w) (fun (ii' : Nat × Value × (List Bool)) => match ii' with | (q, _, _) => (q : Nat)) ?_ ?_))
 intro a w h
 exact ⟨(i + 1, v1, (List.replicate d.frames.length false).set i true), (show ((i + 1) ≤ i + 1) ∧ (MkI (usL d d.frames.length) wo i (i + 1) ((List.replicate d.frames.length false).set i true)) ∧ (((List.replicate d.frames.length false).set i true).length = d.frames.length) from ⟨Nat.le_refl _, Zlc (ZK _ _) hi, by simp⟩), lz [1, 2, 3, 4, 0] rfl h⟩
 rintro ⟨q, vm, mk⟩
 refine ZD fun hF => ?_
 obtain ⟨f1_1, f1_2, f1_3⟩ := hF
 refine Za (Za (rgo tb hJ [0, 1, 2, 3, 4, 1001] [_, _] [] [(_, _), (_, _), (_, _), (_, _), (_, _), (_, .bool (decide ((0 : Int) ≤ (q : Int) - (1 : Int))))] rfl rfl rfl rfl trivial (nx (tc 5 rfl rfl (fun hb1 => ?_) (fun hb1 => ?_)))))
 try simp at hb1
 refine Zd (nx (Za (Ze (Za (Za ?_)))))
 refine tw (sa 3 rfl (congrArg AV.int (show (q : Int) - (1 : Int) = (((q - 1) : Nat) : Int) from by omega))) ?_
 refine rgo tb hJ [0, 1, 2, 3, 4, 1009] [_, _, .lit (XI vm ((q - 1) * 1)), .bool (ge mk (q - 1)), _, _, _, _, _, _] [2, 3] [(_, _), (_, _), (_, _), (_, _), (_, _), (_, .bool ((!(ge mk (q - 1))) || (decide ((((q - 1) : Nat) : Int) = wo))))] rfl rfl rfl rfl ⟨fun _ _ _ hx hl _ => Yu (i := (((q - 1) : Nat) : Int)) QP rfl (ZA hx (mo 0 rfl)) (hl.dep 0 25 _ rfl rfl rfl rfl) (hl.dep 1 26 _ rfl rfl rfl rfl) (Int.natCast_nonneg _) (by rw [List.length_map]; exact Int.ofNat_lt.2 (by first | omega | (simp; omega) | grind [Zb])) hx, fun _ _ _ hx hl _ => XP (i := (q - 1)) one_4 rfl (ZA hx (mo 0 rfl)) (hl.dep 2 27 _ rfl rfl rfl rfl) (ZaS (xs := mk) (k := (q - 1)) (by first | omega | (simp; omega) | grind [Zb])) hx, trivial⟩ (nx (tc 5 rfl rfl (fun hb2 => ?_) (fun hb2 => ?_)))
 have e2 : ge mk (q - 1) = false ∨ ((q - 1 : Nat) : Int) = wo := by simp only [Bool.or_eq_true, Bool.not_eq_true', decide_eq_true_eq] at hb2; exact hb2
 refine Zv (nx (rgo tb hJ [0, 1, 2, 4, 1002] [_, .int ((((q - 1) : Nat) : Int) - (1 : Int)), _] [1] [(_, _), (_, _), (_, _), (_, _), (_, .int ((((q - 1) : Nat) : Int) - (1 : Int)))] rfl rfl rfl rfl ⟨ZoF (by first | omega | (simp; omega) | grind [Zb]) rfl rfl rfl rfl rfl, trivial⟩ ?_))
 intro a w h; change ∃ j, _ ∧ _
 exact ⟨(q - 1, vm, mk), ⟨⟨(show (q - 1) ≤ i + 1 from by omega), (show MkI (usL d d.frames.length) wo i (q - 1) mk from by first | exact ZgV (ZK _ _) f1_2 (by omega) (by omega) e2 | exact Zjf (ZK _ _) f1_2 e2.1 (by omega) e2.2 (by omega) f2_2 (by omega) (by omega)), (show mk.length = d.frames.length from by omega)⟩, lz [0, 1, 2, 4, 3] rfl h⟩, (show (q - 1) < q from by first | omega | (simp; omega))⟩
 have e2 : ge mk (q - 1) = true ∧ ((q - 1 : Nat) : Int) ≠ wo := by simp only [Bool.or_eq_false_iff, Bool.not_eq_false', decide_eq_false_iff_not] at hb2; exact hb2
 refine Zd (nx (Za (rgo tb hJ [0, 1, 2, 3, 4, 1002, 1003] [_, _, _, _] [2] [(_, _), (_, _), (_, _), (_, _), (_, _), (_, .rd (ZG (ZN d (q - 1)))), (_, .rd (ZG (ZN d (q - 1))))] rfl rfl rfl rfl ⟨hFo hS hJ (Zj1 hJ (d := d) (i := (q - 1)) (by omega) (hf)) Zd8 rfl rfl rfl rfl, trivial⟩ ?_)))
 refine kw (sa 6 rfl (congrArg (fun z' => AV.rd (ZG z')) (show (ZN d (q - 1)) = (ge (usL d d.frames.length) (q - 1)) from by rw [Zc7 (by omega)]))) ?_
 refine nx (Zf (fun a w h => Zj h 5 rfl) fun hl2 => Zf (fun a w h => Zj h 6 rfl) fun hl3 => Za (rgo tb hJ [0, 1, 2, 3, 4, 6, 1000] [_] [] [(_, _), (_, _), (_, _), (_, _), (_, _), (_, _), (_, .int (0 : Int))] rfl rfl rfl rfl trivial (nx (Ze (Zw (ι := Nat × Value × (List Bool)) (fun (ii' : Nat × Value × (List Bool)) a w => match ii' with | (j, vn, mk2) => ((j ≤ (ge (usL d d.frames.length) (q - 1)).length) ∧ (MkJ (usL d d.frames.length) wo i (q - 1) j mk2) ∧ (mk2.length = d.frames.length)) ∧ St All (SO S [OB.row vn 4 1 (mk2.map ZcM)]) w0 71 [(1, .int i), (2, .int wo), (3, .ptr (dbC d)), (8, .int (((q - 1) : Nat) : Int)), (9, .rd (ZG (ge (usL d d.frames.length) (q - 1)))), (10, .int j), (7, .lit vn)] (XO J S w0.heap.size [OB.row vn 4 1 (mk2.map ZcM)]) a w) (fun (ii' : Nat × Value × (List Bool)) => match ii' with | (j, _, _) => ((ge (usL d d.frames.length) (q - 1)).length - j : Nat)) ?_ ?_)))))
 intro a w h
 exact ⟨(0, vm, mk), (show (0 ≤ (ge (usL d d.frames.length) (q - 1)).length) ∧ (MkJ (usL d d.frames.length) wo i (q - 1) 0 mk) ∧ (mk.length = d.frames.length) from ⟨Nat.zero_le _, Zlb f1_2 (by omega), f1_3⟩), lz [0, 1, 2, 3, 5, 6, 4] rfl h⟩
 rintro ⟨j, vn, mk2⟩
 refine ZD fun hF => ?_
 obtain ⟨f2_1, f2_2, f2_3⟩ := hF
 refine Za (Za (rgo tb hJ [0, 1, 2, 3, 4, 5, 6, 1003] [_, _, .int (((ge (usL d d.frames.length) (q - 1)).length : Nat) : Int), _] [2] [(_, _), (_, _), (_, _), (_, _), (_, _), (_, _), (_, _), (_, .bool (decide ((j : Int) < (((ge (usL d d.frames.length) (q - 1)).length : Nat) : Int))))] rfl rfl rfl rfl ⟨Ys Yx rfl rfl rfl rfl, trivial⟩ (nx (tc 7 rfl rfl (fun hb3 => ?_) (fun hb3 => ?_)))))
 try simp at hb3
 have e3 := ZK d d.frames.length (q - 1) _ (Zb (xs := ge (usL d d.frames.length) (q - 1)) (k := j) (by omega))
 refine Zd (nx (Za (Ze (Za (rgo tb hJ [0, 1, 2, 3, 4, 5, 6, 1005] [_, _, .ptr [.lit (.int .i64 (ge (ge (usL d d.frames.length) (q - 1)) j))], _, _, _] [2] [(_, _), (_, _), (_, _), (_, _), (_, _), (_, _), (_, _), (_, .bool (!decide ((ge (ge (usL d d.frames.length) (q - 1)) j) = wo)))] rfl rfl rfl rfl ⟨hIx Zo (by first | omega | (simp; omega) | grind [Zb]) rfl rfl rfl rfl rfl rfl, trivial⟩ (nx (tc 7 rfl rfl (fun hb4 => ?_) (fun hb4 => ?_))))))))
 try simp at hb4
 refine Zn (sv tb rfl rfl rfl rfl (sv tb rfl rfl rfl rfl (sv tb rfl rfl rfl rfl (sq (.ptr [.lit (.int .i64 (ge (ge (usL d d.frames.length) (q - 1)) j))]) rfl rfl (lb rfl) (fun _ _ h => ZI (i := (j : Int)) Zo rfl (h.get 1 rfl) (h.get 0 rfl) (Int.natCast_nonneg _) (ZL (xs := ge (usL d d.frames.length) (q - 1)) (k := j) (by first | omega | (simp; omega) | grind [Zb])) rfl h.x) (sv (av := .int (ge (ge (usL d d.frames.length) (q - 1)) j)) tb rfl rfl rfl rfl (sq (.lit (XI vn ((ge (ge (usL d d.frames.length) (q - 1)) j).toNat * 1))) rfl rfl (lb rfl) (fun _ _ h => Yu (i := (ge (ge (usL d d.frames.length) (q - 1)) j)) QP rfl (ZA h.x (mo 0 rfl)) (h.get 4 rfl) (h.get 0 rfl) (by first | omega | (simp; omega) | grind [Zb]) (by rw [List.length_map]; exact (by first | omega | (simp; omega) | grind [Zb])) h.x) (Qo (i := (ge (ge (usL d d.frames.length) (q - 1)) j).toNat) hJ hJ0 Zgq rfl rfl rfl (by rw [List.length_map]; exact (by first | omega | (simp; omega) | grind [Zb])) (fun a w h => ⟨(h.get 0 rfl), (Rel.of_lit (Go.Value.bool true))⟩) ?_)))))))
 rw [show (mk2.map ZcM).set ((ge (ge (usL d d.frames.length) (q - 1)) j).toNat) [.lit (.bool true)] = (mk2.set ((ge (ge (usL d d.frames.length) (q - 1)) j).toNat) true).map ZcM from List.map_set.symm]
 refine Zy ?_
 refine kw (lz [6, 7, 8, 9, 10, 11, 12] (env' := [(_, _), (_, _), (_, _), (_, _), (_, _), (_, _), (_, _)]) rfl) ?_
 refine nx (rgo tb hJ [0, 1, 2, 3, 4, 6, 1002] [_, .int ((j + 1 : Nat) : Int), _] [1] [(_, _), (_, _), (_, _), (_, _), (_, _), (_, _), (_, .int ((j + 1 : Nat) : Int))] rfl rfl rfl rfl ⟨Yc (by first | omega | (simp; omega) | grind [Zb]) rfl rfl rfl rfl rfl, trivial⟩ ?_)
 intro a w h; change ∃ j, _ ∧ _
 exact ⟨(j + 1, vn, mk2.set ((ge (ge (usL d d.frames.length) (q - 1)) j).toNat) true), ⟨⟨(show (j + 1) ≤ (ge (usL d d.frames.length) (q - 1)).length from by omega), (show MkJ (usL d d.frames.length) wo i (q - 1) (j + 1) (mk2.set ((ge (ge (usL d d.frames.length) (q - 1)) j).toNat) true) from by first | exact Zje f2_2 (by omega) (by omega) (by simpa using hb4) | exact ZgU f2_2 (by simpa using hb4)), (show (mk2.set ((ge (ge (usL d d.frames.length) (q - 1)) j).toNat) true).length = d.frames.length from by first | omega | (rw [List.length_set]; omega))⟩, lz [0, 1, 2, 3, 4, 6, 5] rfl h⟩, (show (ge (usL d d.frames.length) (q - 1)).length - (j + 1) < (ge (usL d d.frames.length) (q - 1)).length - j from by first | omega | (simp; omega))⟩
 try simp at hb4
 refine Zd (nx (rgo tb hJ [0, 1, 2, 3, 4, 6, 1002] [_, .int ((j + 1 : Nat) : Int), _] [1] [(_, _), (_, _), (_, _), (_, _), (_, _), (_, _), (_, .int ((j + 1 : Nat) : Int))] rfl rfl rfl rfl ⟨Yc (by first | omega | (simp; omega) | grind [Zb]) rfl rfl rfl rfl rfl, trivial⟩ ?_))
 intro a w h; change ∃ j, _ ∧ _
 exact ⟨(j + 1, vn, mk2), ⟨⟨(show (j + 1) ≤ (ge (usL d d.frames.length) (q - 1)).length from by omega), (show MkJ (usL d d.frames.length) wo i (q - 1) (j + 1) mk2 from by first | exact Zje f2_2 (by omega) (by omega) (by simpa using hb4) | exact ZgU f2_2 (by simpa using hb4)), (show mk2.length = d.frames.length from by first | omega | (rw [List.length_set]; omega))⟩, lz [0, 1, 2, 3, 4, 6, 5] rfl h⟩, (show (ge (usL d d.frames.length) (q - 1)).length - (j + 1) < (ge (usL d d.frames.length) (q - 1)).length - j from by first | omega | (simp; omega))⟩
 try simp at hb3
 refine Zv (nx (rgo tb hJ [0, 1, 2, 6, 1002] [_, .int ((((q - 1) : Nat) : Int) - (1 : Int)), _] [1] [(_, _), (_, _), (_, _), (_, _), (_, .int ((((q - 1) : Nat) : Int) - (1 : Int)))] rfl rfl rfl rfl ⟨ZoF (by first | omega | (simp; omega) | grind [Zb]) rfl rfl rfl rfl rfl, trivial⟩ ?_))
 intro a w h; change ∃ j, _ ∧ _
 exact ⟨(q - 1, vn, mk2), ⟨⟨(show (q - 1) ≤ i + 1 from by omega), (show MkI (usL d d.frames.length) wo i (q - 1) mk2 from by first | exact ZgV (ZK _ _) f1_2 (by omega) (by omega) e2 | exact Zjf (ZK _ _) f1_2 e2.1 (by omega) e2.2 (by omega) f2_2 (by omega) (by omega)), (show mk2.length = d.frames.length from by omega)⟩, lz [0, 1, 2, 4, 3] rfl h⟩, (show (q - 1) < q from by first | omega | (simp; omega))⟩
 try simp at hb1
 have e1 : MkI (usL d d.frames.length) wo i 0 mk := (show q = 0 by omega) ▸ f1_2
 refine Zv (nx (Za (Zn (XM Zo hJ rfl rfl rfl (lb rfl) fun v2 => ?_))))
 refine sv tb rfl rfl rfl rfl (Zy ?_)
 refine kw (lz [0, 2, 6] (env' := [(_, _), (_, _), (_, _)]) rfl) ?_
 refine nx (Za (Za (rgo tb hJ [0, 1, 2, 1000] [_] [] [(_, _), (_, _), (_, _), (_, .int (0 : Int))] rfl rfl rfl rfl trivial (nx (Ze (Zw (ι := Nat × Value × (List Int)) (fun (ii' : Nat × Value × (List Int)) a w => match ii' with | (m, vo, out) => ((m ≤ i) ∧ (out = Zk9 (usL d d.frames.length) wo i m)) ∧ St All (SO S [OB.row vo 3 1 (out.map Yq), OB.row vm 4 1 (mk.map ZcM)]) w0 71 [(1, .int i), (7, .lit vm), (12, .int m), (11, .lit vo)] (XO J S w0.heap.size [OB.row vo 3 1 (out.map Yq), OB.row vm 4 1 (mk.map ZcM)]) a w) (fun (ii' : Nat × Value × (List Int)) => match ii' with | (m, _, _) => (i - m : Nat)) ?_ ?_))))))
 intro a w h
 exact ⟨(0, v2, ([] : List Int)), (show (0 ≤ i) ∧ (([] : List Int) = Zk9 (usL d d.frames.length) wo i 0) from ⟨Nat.zero_le _, rfl⟩), lz [1, 2, 3, 0] rfl h⟩
 rintro ⟨m, vo, out⟩
 refine ZD fun hF => ?_
 obtain ⟨f3_1, f3_2⟩ := hF
 refine Za (Za (rgo tb hJ [0, 1, 2, 3, 1002] [_, _, _] [] [(_, _), (_, _), (_, _), (_, _), (_, .bool (decide ((m : Int) < (i : Int))))] rfl rfl rfl rfl trivial (nx (tc 4 rfl rfl (fun hb5 => ?_) (fun hb5 => ?_)))))
 try simp at hb5
 refine Zd (nx (Za (Ze (Za (rgo tb hJ [0, 1, 2, 3, 1003] [_, _, .lit (XI vm (m * 1)), _] [2, 3] [(_, _), (_, _), (_, _), (_, _), (_, .bool (ge mk m))] rfl rfl rfl rfl ⟨fun _ _ _ hx hl _ => Yu (i := (m : Int)) QP rfl (ZA hx (mo 1 rfl)) (hl.dep 0 62 _ rfl rfl rfl rfl) (hl.dep 1 63 _ rfl rfl rfl rfl) (Int.natCast_nonneg _) (by rw [List.length_map]; exact Int.ofNat_lt.2 (by first | omega | (simp; omega) | grind [Zb])) hx, fun _ _ _ hx hl _ => XP (i := m) one_4 rfl (ZA hx (mo 1 rfl)) (hl.dep 2 64 _ rfl rfl rfl rfl) (ZaS (xs := mk) (k := m) (by first | omega | (simp; omega) | grind [Zb])) hx, trivial⟩ (nx (tc 4 rfl rfl (fun hb6 => ?_) (fun hb6 => ?_))))))))
 try simp at hb6
 refine Zn (sv tb rfl rfl rfl rfl (sv tb rfl rfl rfl rfl (sq (.rd (ZG ([(m : Int)]))) rfl rfl (lb rfl) (fun _ _ h => ZV Zo Xu rfl (h.get 0 rfl) (Zr hS _ h.keep h.x _ (Nat.le_refl _)) (jo hJ h.x)) (ZR (f := Yq) (m := 2) (s := 66) out ([(m : Int)]) (fun _ => rfl) YU hJ hJ0 rfl rfl rfl (lb rfl) rfl rfl (fun a w h => (h.get 0 rfl)) (by have := ZgP (usL d d.frames.length) wo i m; rw [f3_2]; simp; omega) (by have := ZgP (usL d d.frames.length) wo i m; rw [f3_2]; simp; omega) fun v3 => ?_))))
 refine sv tb rfl rfl rfl rfl (Zy ?_)
 refine kw (lz [0, 2, 5, 6, 7] (env' := [(_, _), (_, _), (_, _), (_, _), (_, _)]) rfl) ?_
 refine nx (Zf (fun a w h => Zj h 1 rfl) fun hl4 => rgo tb hJ [0, 2, 3, 1002] [_, .int ((m + 1 : Nat) : Int), _] [1] [(_, _), (_, _), (_, _), (_, .int ((m + 1 : Nat) : Int))] rfl rfl rfl rfl ⟨Yc (by first | omega | (simp; omega) | grind [Zb]) rfl rfl rfl rfl rfl, trivial⟩ ?_)
 intro a w h; change ∃ j, _ ∧ _
 exact ⟨(m + 1, v3, out ++ ([(m : Int)])), ⟨⟨(show (m + 1) ≤ i from by omega), (show (out ++ ([(m : Int)])) = Zk9 (usL d d.frames.length) wo i (m + 1) from by rw [ZeQ (Zjg (ZK _ _) e1 (by omega)), ← f3_2]; first | (rw [if_pos (by simpa using hb6)]; done) | (rw [if_neg (by simpa using hb6)]; simp; done))⟩, lz [1, 2, 3, 0] rfl h⟩, (show i - (m + 1) < i - m from by first | omega | (simp; omega))⟩
 try simp at hb6
 refine Zd (nx (rgo tb hJ [0, 1, 3, 1002] [_, .int ((m + 1 : Nat) : Int), _] [1] [(_, _), (_, _), (_, _), (_, .int ((m + 1 : Nat) : Int))] rfl rfl rfl rfl ⟨Yc (by first | omega | (simp; omega) | grind [Zb]) rfl rfl rfl rfl rfl, trivial⟩ ?_))
 intro a w h; change ∃ j, _ ∧ _
 exact ⟨(m + 1, vo, out), ⟨⟨(show (m + 1) ≤ i from by omega), (show out = Zk9 (usL d d.frames.length) wo i (m + 1) from by rw [ZeQ (Zjg (ZK _ _) e1 (by omega)), ← f3_2]; first | (rw [if_pos (by simpa using hb6)]; done) | (rw [if_neg (by simpa using hb6)]; simp; done))⟩, lz [0, 1, 3, 2] rfl h⟩, (show i - (m + 1) < i - m from by first | omega | (simp; omega))⟩
 try simp at hb5
 refine Zv (nx (Za (rgo tb hJ [1001] [_, _] [] [(_, .lit vo)] rfl rfl rfl rfl trivial (nx ?_))))
 refine tw (fun h => ZO hS h (m := 0) (s := 6) rfl) ?_
 refine Zi (fun a w h => Zh (m := 0) rfl (Zl h) rfl (congrArg (fun z => AV.rd (ZG z)) (show out = (Zic (usL d d.frames.length) wo i) from by rw [f3_2, show m = i by omega]; rfl)))
theorem Zmp {J : World → Prop} (hJ : Stab J) (d : Db) (hf : d.frames.length ≤ 400) : Fn Tryz.prog J 53 [.agg (dbC d)] (.rd (ZG (ZT (usL d d.frames.length)))) := by
 refine Zx (N := 40) Tryz.func53 rfl rfl (lb rfl) fun S w0 hS hJ0 => ?_
 refine tw Yi ?_
 refine Za (rgo tb hJ [1000] [_, _] [0] [(_, .ptr (dbC d))] rfl rfl rfl rfl ⟨fun _ _ hk hx hl _ => Yv rfl (hl.env 0 0 _ rfl rfl) (Zr hS _ hk hx _ (Nat.le_refl _)) (jo hJ hx), trivial⟩ (nx (Za (Zn (XM Zo hJ rfl rfl rfl (lb rfl) fun v1 => ?_)))))
 refine sv tb rfl rfl rfl rfl (Zy ?_)
 refine kw (lz [0, 2] (env' := [(_, _), (_, _)]) rfl) ?_
 refine nx (Za (Za (rgo tb hJ [0, 1, 1000] [_] [] [(_, _), (_, _), (_, .int (0 : Int))] rfl rfl rfl rfl trivial (nx (Ze (Zw (ι := Nat × Value × (List Int)) (fun (ii' : Nat × Value × (List Int)) a w => match ii' with | (k, vo, out) => ((k ≤ d.frames.length) ∧ (out = ZT (usL d k))) ∧ St All (SO S [OB.row vo 3 1 (out.map Yq)]) w0 40 [(1, .ptr (dbC d)), (4, .int k), (3, .lit vo)] (XO J S w0.heap.size [OB.row vo 3 1 (out.map Yq)]) a w) (fun (ii' : Nat × Value × (List Int)) => match ii' with | (k, _, _) => (d.frames.length - k : Nat)) ?_ ?_))))))
 intro a w h
 exact ⟨(0, v1, ([] : List Int)), (show (0 ≤ d.frames.length) ∧ (([] : List Int) = ZT (usL d 0)) from ⟨Nat.zero_le _, rfl⟩), lz [1, 2, 0] rfl h⟩
 rintro ⟨k, vo, out⟩
 refine ZD fun hF => ?_
 obtain ⟨f1_1, f1_2⟩ := hF
 refine Za (Za (rgo tb hJ [0, 1, 2, 1002, 1004] [_, _, _, .int d.frames.length, _] [3] [(_, _), (_, _), (_, _), (_, .rd (Yn d.frames)), (_, .bool (decide ((k : Int) < (d.frames.length : Int))))] rfl rfl rfl rfl ⟨Ys YH rfl rfl rfl rfl, trivial⟩ (nx (Zf (fun a w h => Zj h 3 rfl) fun hl1 => tc 4 rfl rfl (fun hb1 => ?_) (fun hb1 => ?_)))))
 try simp at hb1
 have e4 : out.length = k := by rw [f1_2, XV, YA]
 refine Zd (nx (Za (Ze (Za (rgo tb hJ [0, 1, 2, 1000] [_] [] [(_, _), (_, _), (_, _), (_, .int (0 : Int))] rfl rfl rfl rfl trivial (nx (Za (rgo tb hJ [0, 1, 2, 3, 1002, 1003] [_, _, _, _] [2] [(_, _), (_, _), (_, _), (_, _), (_, .rd (ZG (ZN d k))), (_, .rd (ZG (ZN d k)))] rfl rfl rfl rfl ⟨hFo hS hJ (Zj1 hJ (d := d) (i := k) (by omega) (hf)) Zd8 rfl rfl rfl rfl, trivial⟩ (nx (Zf (fun a w h => Zj h 4 rfl) fun hl2 => Za (Za ?_)))))))))))
 refine rgo tb hJ [0, 1, 2, 3, 5, 1000] [_] [] [(_, _), (_, _), (_, _), (_, _), (_, _), (_, .int (0 : Int))] rfl rfl rfl rfl trivial (nx (Ze (Zw (ι := Nat × Int) (fun (ii' : Nat × Int) a w => match ii' with | (j, m) => ((j ≤ (ZN d k).length) ∧ (m = Zid out ((ZN d k).take j))) ∧ St All (SO S [OB.row vo 3 1 (out.map Yq)]) w0 40 [(1, .ptr (dbC d)), (4, .int k), (3, .lit vo), (6, .rd (ZG (ZN d k))), (7, .int j), (5, .int m)] (XO J S w0.heap.size [OB.row vo 3 1 (out.map Yq)]) a w) (fun (ii' : Nat × Int) => match ii' with | (j, _) => ((ZN d k).length - j : Nat)) ?_ ?_)))
 intro a w h
 exact ⟨(0, 0), (show (0 ≤ (ZN d k).length) ∧ (0 = Zid out ((ZN d k).take 0)) from ⟨Nat.zero_le _, rfl⟩), lz [0, 1, 2, 4, 5, 3] rfl h⟩
 rintro ⟨j, m⟩
 refine ZD fun hF => ?_
 obtain ⟨f2_1, f2_2⟩ := hF
 refine Za (Za (rgo tb hJ [0, 1, 2, 3, 4, 5, 1003] [_, _, .int (((ZN d k).length : Nat) : Int), _] [2] [(_, _), (_, _), (_, _), (_, _), (_, _), (_, _), (_, .bool (decide ((j : Int) < (((ZN d k).length : Nat) : Int))))] rfl rfl rfl rfl ⟨Ys Yx rfl rfl rfl rfl, trivial⟩ (nx (tc 6 rfl rfl (fun hb2 => ?_) (fun hb2 => ?_)))))
 try simp at hb2
 have e3 : 0 ≤ ge (ZN d k) j ∧ ge (ZN d k) j < k := by have := ZK d d.frames.length k (ge (ZN d k) j); rw [Zc7 (by omega)] at this; exact this (Zb (by omega))
 have e5 := ZcG (usL d k) _ (Zb (xs := ZT (usL d k)) (k := (ge (ZN d k) j).toNat) (by rw [XV, YA]; omega))
 rw [← f1_2, YA] at e5
 refine Zd (nx (Za (Ze (rgo tb hJ [0, 1, 2, 3, 4, 1010] [_, _, _, _, .ptr [.lit (.int .i64 (ge (ZN d k) j))], _, .lit (XI vo ((ge (ZN d k) j).toNat * 1)), .int (ge out ((ge (ZN d k) j).toNat)), .int ((ge out ((ge (ZN d k) j).toNat)) + (1 : Int)), .int (max m ((ge out ((ge (ZN d k) j).toNat)) + (1 : Int))), _] [4, 6, 7, 8, 9] [(_, _), (_, _), (_, _), (_, _), (_, _), (_, .int (max m ((ge out ((ge (ZN d k) j).toNat)) + (1 : Int))))] rfl rfl rfl rfl ⟨hIx Zo (by first | omega | (simp; omega) | grind [Zb]) rfl rfl rfl rfl rfl rfl, fun _ _ _ hx hl _ => Yu (i := (ge (ZN d k) j)) Zo rfl (ZA hx (mo 0 rfl)) (hl.dep 1 26 _ rfl rfl rfl rfl) (hl.dep 5 30 _ rfl rfl rfl rfl) (by omega) (by rw [List.length_map]; exact (by omega)) hx, fun _ _ _ hx hl _ => XP (i := (ge (ZN d k) j).toNat) Zi9 rfl (ZA hx (mo 0 rfl)) (hl.dep 6 31 _ rfl rfl rfl rfl) (ZaS (xs := out) (k := (ge (ZN d k) j).toNat) (by first | omega | (simp; omega) | grind [Zb])) hx, Yc (by omega) rfl rfl rfl rfl rfl, fun _ _ _ hx hl _ => r_max rfl (hl.dep 0 25 _ rfl rfl rfl rfl) (hl.dep 8 33 _ rfl rfl rfl rfl) hx, trivial⟩ (nx (rgo tb hJ [0, 1, 2, 3, 5, 1002] [_, .int ((j + 1 : Nat) : Int), _] [1] [(_, _), (_, _), (_, _), (_, _), (_, _), (_, .int ((j + 1 : Nat) : Int))] rfl rfl rfl rfl ⟨Yc (by first | omega | (simp; omega) | grind [Zb]) rfl rfl rfl rfl rfl, trivial⟩ ?_))))))
 intro a w h; change ∃ j, _ ∧ _
 exact ⟨(j + 1, (max m ((ge out ((ge (ZN d k) j).toNat)) + (1 : Int)))), ⟨⟨(show (j + 1) ≤ (ZN d k).length from by omega), (show (max m ((ge out ((ge (ZN d k) j).toNat)) + (1 : Int))) = Zid out ((ZN d k).take (j + 1)) from by rw [ZS (by omega), ZcF, ← f2_2])⟩, lz [0, 1, 2, 3, 5, 4] rfl h⟩, (show (ZN d k).length - (j + 1) < (ZN d k).length - j from by first | omega | (simp; omega))⟩
 try simp at hb2
 refine Zv (nx (Zn (sv tb rfl rfl rfl rfl (sv tb rfl rfl rfl rfl (sq (.rd (ZG ([m]))) rfl rfl (lb rfl) (fun _ _ h => ZV Zo Xu rfl (h.get 0 rfl) (Zr hS _ h.keep h.x _ (Nat.le_refl _)) (jo hJ h.x)) (ZR (f := Yq) (m := 2) (s := 35) out ([m]) (fun _ => rfl) YU hJ hJ0 rfl rfl rfl (lb rfl) rfl rfl (fun a w h => (h.get 0 rfl)) (by simp; omega) (by simp; omega) fun v2 => ?_))))))
 refine sv tb rfl rfl rfl rfl (Zy ?_)
 refine kw (lz [0, 2, 5, 6] (env' := [(_, _), (_, _), (_, _), (_, _)]) rfl) ?_
 refine nx (Zf (fun a w h => Zj h 1 rfl) fun hl3 => rgo tb hJ [0, 2, 1002] [_, .int ((k + 1 : Nat) : Int), _] [1] [(_, _), (_, _), (_, .int ((k + 1 : Nat) : Int))] rfl rfl rfl rfl ⟨Yc (by first | omega | (simp; omega) | grind [Zb]) rfl rfl rfl rfl rfl, trivial⟩ ?_)
 intro a w h; change ∃ j, _ ∧ _
 exact ⟨(k + 1, v2, out ++ ([m])), ⟨⟨(show (k + 1) ≤ d.frames.length from by omega), (show (out ++ ([m])) = ZT (usL d (k + 1)) from by rw [ZbO, Za7, ← f1_2, f2_2, Zp (by omega)])⟩, lz [1, 2, 0] rfl h⟩, (show d.frames.length - (k + 1) < d.frames.length - k from by first | omega | (simp; omega))⟩
 try simp at hb1
 refine Zv (nx (Za (rgo tb hJ [1001] [_, _] [] [(_, .lit vo)] rfl rfl rfl rfl trivial (nx ?_))))
 refine tw (fun h => ZO hS h (m := 0) (s := 2) rfl) ?_
 refine Zi (fun a w h => Zh (m := 0) rfl (Zl h) rfl (congrArg (fun z => AV.rd (ZG z)) (show out = (ZT (usL d d.frames.length)) from by rw [f1_2, show k = d.frames.length by omega])))
end Go.Proofs.YtnpgmdffjemnbaaGreatDoor
