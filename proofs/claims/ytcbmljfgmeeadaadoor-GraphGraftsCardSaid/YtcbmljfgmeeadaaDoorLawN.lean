/-
  PLAIN LAW: the labels of a graph are those of its tree; the trees of a graft.
-/
import Derived.Test.YtcbmljfgmeeadaaDoorG27
import Derived.Test.YtcbmljfgmeeadaaDoorG21
import Derived.Test.YtcbmljfgmeeadaaDoorLawO
namespace Go.Proofs.YtcbmljfgmeeadaaDoor
open Go.RowKit Go.Shelf Go.Sort

mutual
/-- The labels of a tree. -/
def tlabs : Tree → List ByteArray
  | .node l ks => l :: tlabsL ks
def tlabsL : List Tree → List ByteArray
  | [] => []
  | k :: ks => tlabs k ++ tlabsL ks
end

theorem mem_tlabsL {x : ByteArray} : ∀ (ks : List Tree), x ∈ tlabsL ks ↔ ∃ k ∈ ks, x ∈ tlabs k
  | [] => by simp [tlabsL]
  | k :: ks => by simp [tlabsL, mem_tlabsL ks]

theorem labOf_tree {ss : List Stp} (hok : Okay ss) (i : Nat) (x : ByteArray) : x ∈ tlabs (treeAt ss i) ↔ x = labOf ss i ∨ ∃ a ∈ kidsOf ss i, x ∈ tlabs (treeAt ss a) := by
  rw [treeAt_eq hok.kids]
  simp only [tlabs, List.mem_cons, mem_tlabsL, List.mem_map]
  constructor
  · rintro (h | ⟨k, ⟨a, ha, rfl⟩, hx⟩)
    · exact Or.inl h
    · exact Or.inr ⟨a, ha, hx⟩
  · rintro (h | ⟨a, ha, hx⟩)
    · exact Or.inl h
    · exact Or.inr ⟨_, ⟨a, ha, rfl⟩, hx⟩

theorem trav_labs {ss : List Stp} (hok : Okay ss) : ∀ (f i : Nat) (o : List Nat) (y : Nat), y ∈ trav (kidsOf ss) f i o → y ∈ o ∨ labOf ss y ∈ tlabs (treeAt ss i)
  | 0, _, _, _, h => Or.inl h
  | f + 1, i, o, y, h => by
    simp only [trav] at h
    split at h
    · exact Or.inl h
    · rcases List.mem_append.1 h with h | h
      · have key : ∀ (l : List Nat) (o : List Nat), (∀ a ∈ l, a ∈ kidsOf ss i) → y ∈ l.foldl (fun o a => trav (kidsOf ss) f a o) o → y ∈ o ∨ labOf ss y ∈ tlabs (treeAt ss i) := by
          intro l
          induction l with
          | nil => intro o _ h; exact Or.inl h
          | cons a l ih =>
            intro o hl h
            rcases ih _ (fun b hb => hl b (by simp [hb])) h with h | h
            · rcases trav_labs hok f a o y h with h | h
              · exact Or.inl h
              · exact Or.inr ((labOf_tree hok i _).2 (Or.inr ⟨a, hl a (by simp), h⟩))
            · exact Or.inr h
        exact key _ o (fun _ h => h) h
      · obtain rfl : y = i := by simpa using h
        exact Or.inr ((labOf_tree hok y _).2 (Or.inl rfl))

theorem post_labs {ss : List Stp} (hok : Okay ss) (x : ByteArray) : x ∈ (post ss).map (labOf ss) ↔ x ∈ tlabs (treeM ss) := by
  constructor
  · intro h
    obtain ⟨y, hy, rfl⟩ := List.mem_map.1 h
    rcases trav_labs hok _ _ _ y hy with h | h
    · cases h
    · exact h
  · have key : ∀ i, i ∈ post ss → ∀ x ∈ tlabs (treeAt ss i), x ∈ (post ss).map (labOf ss) := by
      intro i
      induction i using Nat.strongRecOn with
      | ind i ih =>
        intro hi x hx
        rcases (labOf_tree hok i x).1 hx with rfl | ⟨a, ha, hx⟩
        · exact List.mem_map.2 ⟨i, hi, rfl⟩
        · exact ih a (hok.kids i a ha) (post_closed hok hi a ha) x hx
    intro h
    obtain ⟨p, hp⟩ := post_last hok
    exact key (ss.length - 1) (by rw [hp]; simp) x h

theorem mem_compactUpTo {α : Type} [Inhabited α] [DecidableEq α] (d : Array α) : ∀ (m : Nat) (i : Nat), i < m → d[i]! ∈ Lib.compactUpTo d m
  | 0, i, h => by omega
  | m + 1, i, h => by
    have key : d[m]! ∈ Lib.compactUpTo d (m + 1) := by
      rw [Lib.compactUpTo_succ]
      cases hk : Lib.keeps d m with
      | true => simp
      | false =>
        simp only [Lib.keeps, decide_eq_false_iff_not, not_or, ne_eq, Decidable.not_not] at hk
        rw [hk.2]
        exact List.mem_append_left _ (mem_compactUpTo d m (m - 1) (by omega))
    by_cases hi : i = m
    · subst hi; exact key
    · rw [Lib.compactUpTo_succ]
      exact List.mem_append_left _ (mem_compactUpTo d m i (by omega))

theorem mem_compact {α : Type} [Inhabited α] [DecidableEq α] {zs : List α} {x : α} : x ∈ Lib.compact zs ↔ x ∈ zs := by
  constructor
  · intro h
    unfold Lib.compact Lib.compactUpTo at h
    obtain ⟨j, hj, rfl⟩ := List.mem_map.1 h
    have hj2 : j < zs.length := by simpa using (List.mem_filter.1 hj).1
    rw [getElem!_pos _ j (by simpa using hj2)]
    simp
  · intro h
    obtain ⟨i, hi, rfl⟩ := List.getElem_of_mem h
    have := mem_compactUpTo zs.toArray zs.length i hi
    rw [getElem!_pos _ i (by simpa using hi)] at this
    simpa [Lib.compact] using this

theorem mem_setL {xs : List ByteArray} {x : ByteArray} : x ∈ setL xs ↔ x ∈ xs := by
  unfold setL
  rw [List.mem_map]
  constructor
  · rintro ⟨l, hl, rfl⟩
    have h := (List.mergeSort_perm _ _).mem_iff.1 (mem_compact.1 hl)
    obtain ⟨y, hy, rfl⟩ := List.mem_map.1 h
    exact hy
  · intro h
    exact ⟨bytesOf x, mem_compact.2 ((List.mergeSort_perm _ _).mem_iff.2 (List.mem_map.2 ⟨x, h, rfl⟩)), rfl⟩

theorem mem_namesM {ss : List Stp} (hok : Okay ss) (x : ByteArray) : x ∈ namesM ss ↔ x ∈ tlabs (treeM ss) := mem_setL.trans (post_labs hok x)

theorem take_okay {p : List Stp} (hp : Okay p) {k : Nat} (hk : k < p.length) : Okay (p.take (k + 1)) := by
  have hlen : (p.take (k + 1)).length = k + 1 := by rw [List.length_take]; omega
  refine ⟨by omega, by have := hp.2.1; omega, fun i hi => ?_⟩
  rw [hlen] at hi
  simp only [List.getElem_take]
  exact hp.2.2 i (by omega)

theorem kids_append {q r : List Stp} {i : Nat} (h : i < r.length) : kidsOf (q ++ r) (q.length + i) = r[i].args.map Int.toNat := by
  unfold kidsOf
  rw [List.getElem?_append_right (by omega), Nat.add_sub_cancel_left, List.getElem?_eq_getElem h]
  rfl

theorem numAt_graft {n m at_ i : Nat} (h : i < m) : numAt (graftNow n m at_) i = if i = at_ then (n : Int) - 1 else ((n + i : Nat) : Int) := by
  unfold numAt
  rw [List.getD_eq_getElem?_getD, Int.toNat_natCast, graftNow]
  split
  · rename_i e; subst e
    rw [List.getElem?_set_self (by simpa using h)]; rfl
  · rename_i e
    rw [List.getElem?_set_ne (fun h => e h.symm)]
    simp [h]

/-- Where step i of p lies in the graft. -/
def graftAt (n at_ i : Nat) : Nat := if i = at_ then n - 1 else n + i

theorem graftW_kids {p q : List Stp} (hp : Okay p) (hq : Okay q) (at_ : Nat) {i : Nat} (h : i < p.length) : kidsOf (graftW p at_ q) (q.length + i) = (kidsOf p i).map (graftAt q.length at_) := by
  have hq1 := hq.1
  unfold graftW
  rw [kids_append (by simpa using h), kidsOf_lt h]
  simp only [List.getElem_map, renumM, List.map_map]
  refine List.map_congr_left fun a ha => ?_
  have ha2 := (hp.2.2 i h).2 a ha
  have h1 := numAt_graft (n := q.length) (m := p.length) (at_ := at_) (i := a.toNat) (by omega)
  rw [show ((a.toNat : Nat) : Int) = a by omega] at h1
  simp only [Function.comp, h1, graftAt]
  split <;> omega

theorem graftW_treeq {p q : List Stp} (hp : Okay p) (hq : Okay q) (at_ : Nat) (hlen : p.length + q.length ≤ 2000) {i : Nat} (h : i < q.length) : treeAt (graftW p at_ q) i = treeAt q i :=
  Back.ahead hq.back (graftW_okay hp hq at_ hlen).back (List.prefix_append _ _) i h

theorem labOf_graft {p q : List Stp} (at_ : Nat) {i : Nat} (h : i < p.length) : labOf (graftW p at_ q) (q.length + i) = labOf p i := by
  unfold labOf graftW
  rw [List.getElem?_append_right (by omega), Nat.add_sub_cancel_left]
  simp [h, renumM]

/-- Graft of the tree of step at_ itself: the same trees. -/
theorem graftW_same {p q : List Stp} (hp : Okay p) (hq : Okay q) (at_ : Nat) (hlen : p.length + q.length ≤ 2000) (hs : treeM q = treeAt p at_) :
    ∀ i, i < p.length → treeAt (graftW p at_ q) (graftAt q.length at_ i) = treeAt p i := by
  have hok := graftW_okay hp hq at_ hlen
  have hq1 := hq.1
  intro i
  induction i using Nat.strongRecOn with
  | ind i ih =>
    intro hi
    unfold graftAt
    split
    · rename_i e; subst e
      rw [graftW_treeq hp hq i hlen (by omega)]
      exact hs
    · rw [treeAt_eq hok.kids, treeAt_eq hp.kids, graftW_kids hp hq at_ hi]
      have hl := labOf_graft (p := p) (q := q) at_ hi
      unfold labOf at hl
      rw [hl, List.map_map]
      congr 1
      refine List.map_congr_left fun a ha => ?_
      have := hp.kids i a ha
      exact ih a this (by omega)

theorem graftM_same {p : List Stp} (hp : Okay p) (k : Nat) (hk : k < p.length) (hlen : p.length + p.length ≤ 2000) : treeM (graftM p k (p.take (k + 1))) = treeM p := by
  unfold graftM
  split
  · rename_i e
    rw [e, List.take_length]
  · rename_i e
    have hq : Okay (p.take (k + 1)) := take_okay hp (by omega)
    have hql : (p.take (k + 1)).length = k + 1 := by rw [List.length_take]; omega
    have hs : treeM (p.take (k + 1)) = treeAt p k := by
      unfold treeM
      rw [hql]
      exact (Back.ahead hq.back hp.back (List.take_prefix _ _) k (by omega)).symm
    have h := graftW_same hp hq k (by omega) hs (p.length - 1) (by omega)
    unfold graftAt at h
    rw [if_neg (by omega)] at h
    show treeAt _ _ = treeAt p (p.length - 1)
    rw [← h]
    congr 1
    simp [graftW]; omega

/-- The labels of a graft are among those of both. -/
theorem graftW_labs {p q : List Stp} (hp : Okay p) (hq : Okay q) (at_ : Nat) (hlen : p.length + q.length ≤ 2000) :
    ∀ i, i < p.length → ∀ x ∈ tlabs (treeAt (graftW p at_ q) (graftAt q.length at_ i)), x ∈ tlabs (treeAt p i) ∨ x ∈ tlabs (treeM q) := by
  have hok := graftW_okay hp hq at_ hlen
  have hq1 := hq.1
  intro i
  induction i using Nat.strongRecOn with
  | ind i ih =>
    intro hi x hx
    unfold graftAt at hx
    split at hx
    · rw [graftW_treeq hp hq at_ hlen (by omega)] at hx
      exact Or.inr hx
    · rcases (labOf_tree hok _ x).1 hx with rfl | ⟨a, ha, hx⟩
      · rw [labOf_graft at_ hi]
        exact Or.inl ((labOf_tree hp i _).2 (Or.inl rfl))
      · rw [graftW_kids hp hq at_ hi] at ha
        obtain ⟨b, hb, rfl⟩ := List.mem_map.1 ha
        have hlt := hp.kids i b hb
        rcases ih b hlt (by omega) x hx with h | h
        · exact Or.inl ((labOf_tree hp i _).2 (Or.inr ⟨b, hb, h⟩))
        · exact Or.inr h

theorem graftM_labs {p q : List Stp} (hp : Okay p) (hq : Okay q) (k : Nat) (hlen : p.length + q.length ≤ 2000) (x : ByteArray) (hx : x ∈ tlabs (treeM (graftM p k q))) : x ∈ tlabs (treeM p) ∨ x ∈ tlabs (treeM q) := by
  unfold graftM at hx
  split at hx
  · exact Or.inr hx
  · rename_i e
    have hp1 := hp.1
    refine graftW_labs hp hq k hlen (p.length - 1) (by omega) x ?_
    unfold graftAt
    rw [if_neg (by omega)]
    unfold treeM at hx
    rwa [show (graftW p k q).length - 1 = q.length + (p.length - 1) by simp [graftW]; omega] at hx

/-- The names of a graft are among those of both. -/
theorem names_graft {p q : List Stp} (hp : Okay p) (hq : Okay q) (k : Nat) (hlen : p.length + q.length ≤ 2000) (x : ByteArray) (hx : x ∈ namesM (shareM (graftM p k q))) : x ∈ namesM p ∨ x ∈ namesM q := by
  have hg := graftM_okay hp hq k hlen
  rw [mem_namesM (shareM_okay hg), (shareM_back hg).2.2] at hx
  rw [mem_namesM hp, mem_namesM hq]
  exact graftM_labs hp hq k hlen x hx

end Go.Proofs.YtcbmljfgmeeadaaDoor
