/-
  THE WALK OF A GRAPH IN POSTORDER, in plain Lean.
  THE SIZES OF THE TREES OF ALL STEPS, in plain Lean.
  THE TREE OF A PROOF, in plain Lean; its flat form (each step used once), its size.
-/
import Derived.Test.YtcbmljfgmeeadaaDoorJA
namespace Go.Proofs.YtcbmljfgmeeadaaDoor

/-- The kids of x, then x, unless x is there already. -/
def trav {α : Type} [DecidableEq α] (kids : α → List α) : Nat → α → List α → List α
  | 0, _, o => o
  | f + 1, x, o => if x ∈ o then o else (kids x).foldl (fun o a => trav kids f a o) o ++ [x]

section
variable {α : Type} [DecidableEq α] (kids : α → List α)

theorem trav_prefix : ∀ (f : Nat) (x : α) (o : List α), o <+: trav kids f x o
  | 0, _, o => List.prefix_refl o
  | f + 1, x, o => by
    simp only [trav]
    split
    · exact List.prefix_refl o
    · rename_i hx
      clear hx
      refine List.IsPrefix.trans ?_ (List.prefix_append _ _)
      generalize kids x = l
      induction l generalizing o with
      | nil => exact List.prefix_refl o
      | cons a l ih =>
        simp only [List.foldl_cons]
        exact (trav_prefix f a o).trans (ih _)

theorem fold_prefix (f : Nat) (l : List α) (o : List α) : o <+: l.foldl (fun o a => trav kids f a o) o := by
  induction l generalizing o with
  | nil => exact List.prefix_refl o
  | cons a l ih => exact (trav_prefix kids f a o).trans (ih _)

theorem fold_take_prefix (f : Nat) (l : List α) (k : Nat) (o : List α) : (l.take k).foldl (fun o a => trav kids f a o) o <+: l.foldl (fun o a => trav kids f a o) o := by
  conv => rhs; rw [← List.take_append_drop k l]
  rw [List.foldl_append]
  exact fold_prefix kids f _ _

theorem fold_take_succ (f : Nat) (l : List α) (k : Nat) (h : k < l.length) (o : List α) :
    (l.take (k + 1)).foldl (fun o a => trav kids f a o) o = trav kids f l[k] ((l.take k).foldl (fun o a => trav kids f a o) o) := by
  rw [List.take_succ_eq_append_getElem h, List.foldl_append]
  rfl

theorem trav_mem (f : Nat) (x : α) (o : List α) : x ∈ trav kids (f + 1) x o := by
  simp only [trav]
  split
  · assumption
  · simp

variable (r : α → Nat) (hr : ∀ x, ∀ a ∈ kids x, r a < r x)
include hr

/-- Everything that comes new is of no greater rank than x. -/
theorem trav_rank : ∀ (f : Nat) (x : α) (o : List α) (y : α), y ∈ trav kids f x o → y ∈ o ∨ r y ≤ r x
  | 0, _, _, _, h => Or.inl h
  | f + 1, x, o, y, h => by
    simp only [trav] at h
    split at h
    · exact Or.inl h
    · have key : ∀ (l : List α) (o : List α), (∀ a ∈ l, r a < r x) → y ∈ l.foldl (fun o a => trav kids f a o) o → y ∈ o ∨ r y ≤ r x := by
        intro l
        induction l with
        | nil => intro o _ h; exact Or.inl h
        | cons a l ih =>
          intro o hl h
          rcases ih _ (fun b hb => hl b (List.mem_cons_of_mem _ hb)) h with h | h
          · rcases trav_rank f a o y h with h | h
            · exact Or.inl h
            · exact Or.inr (by have := hl a (List.mem_cons_self ..); omega)
          · exact Or.inr h
      rcases List.mem_append.1 h with h | h
      · exact key _ _ (fun a ha => hr x a ha) h
      · exact Or.inr (by simp at h; subst h; omega)

end

/-- Each element comes once, behind its kids. -/
def Shut {α : Type} (kids : α → List α) (o : List α) : Prop := ∀ p x, (p ++ [x]) <+: o → x ∉ p ∧ ∀ a ∈ kids x, a ∈ p

theorem Shut.snoc {α : Type} {kids : α → List α} {o : List α} {x : α} (h : Shut kids o) (hx : x ∉ o) (hk : ∀ a ∈ kids x, a ∈ o) : Shut kids (o ++ [x]) := by
  intro p y hp
  rcases List.prefix_concat_iff.1 hp with h1 | h1
  · obtain ⟨rfl, h2⟩ := List.append_inj' h1 rfl
    simp at h2; subst h2
    exact ⟨hx, hk⟩
  · exact h p y h1

section
variable {α : Type} [DecidableEq α] (kids : α → List α) (r : α → Nat) (hr : ∀ x, ∀ a ∈ kids x, r a < r x)

include hr
theorem trav_shut : ∀ (f : Nat) (x : α) (o : List α), r x < f → Shut kids o → Shut kids (trav kids f x o)
  | 0, _, _, h, _ => by omega
  | f + 1, x, o, hf, ho => by
    simp only [trav]
    split
    · exact ho
    · rename_i hx
      have key : ∀ (l : List α) (o : List α), (∀ a ∈ l, r a < r x) → Shut kids o → x ∉ o → Shut kids (l.foldl (fun o a => trav kids f a o) o) ∧ x ∉ l.foldl (fun o a => trav kids f a o) o ∧ ∀ a ∈ l, a ∈ l.foldl (fun o a => trav kids f a o) o := by
        intro l
        induction l with
        | nil => intro o _ h1 h2; exact ⟨h1, h2, fun a ha => by cases ha⟩
        | cons a l ih =>
          intro o hl h1 h2
          have ha := hl a (List.mem_cons_self ..)
          have h3 := trav_shut f a o (by omega) h1
          have h4 : x ∉ trav kids f a o := fun h => by
            rcases trav_rank kids r hr f a o x h with h | h
            · exact h2 h
            · omega
          obtain ⟨i1, i2, i3⟩ := ih _ (fun b hb => hl b (List.mem_cons_of_mem _ hb)) h3 h4
          refine ⟨i1, i2, fun b hb => ?_⟩
          rcases List.mem_cons.1 hb with rfl | hb
          · obtain ⟨f', rfl⟩ : ∃ f', f = f' + 1 := ⟨f - 1, by omega⟩
            exact (fold_prefix kids (f' + 1) l _).subset (trav_mem kids f' b o)
          · exact i3 b hb
      obtain ⟨i1, i2, i3⟩ := key (kids x) o (fun a ha => hr x a ha) ho hx
      exact i1.snoc i2 i3
end

/-- The kids of step i. -/
def kidsOf (ss : List Stp) (i : Nat) : List Nat := ((ss[i]?.map Stp.args).getD []).map Int.toNat
theorem kidsOf_lt {ss : List Stp} {i : Nat} (h : i < ss.length) : kidsOf ss i = ss[i].args.map Int.toNat := by
  simp [kidsOf, List.getElem?_eq_getElem h]

/-- The form is right. -/
def Okay (ss : List Stp) : Prop := 1 ≤ ss.length ∧ ss.length ≤ 2000 ∧ ∀ i (h : i < ss.length), ss[i].args.length ≤ 40 ∧ ∀ a ∈ ss[i].args, 0 ≤ a ∧ a < i

/-- The needed steps, in postorder. -/
def post (ss : List Stp) : List Nat := trav (kidsOf ss) ss.length (ss.length - 1) []

theorem formGo_zero : ∀ (l : List Stp) (i : Nat), formGo i l = 0 ↔ ∀ j (h : j < l.length), l[j].args.length ≤ 40 ∧ ∀ a ∈ l[j].args, 0 ≤ a ∧ a < ((i + j : Nat) : Int)
  | [], i => by simp [formGo]
  | s :: r, i => by
    have ih := formGo_zero r (i + 1)
    simp only [formGo]
    constructor
    · intro h
      split at h
      · simp at h
      split at h
      · simp at h
      rename_i h1 h2
      intro j hj
      cases j with
      | zero =>
        refine ⟨by simp; omega, fun a ha => ?_⟩
        have := h2
        simp only [List.any_eq_true, not_exists, not_and, Bool.not_eq_true] at this
        have h3 := this a (by simpa using ha)
        simp [badArg] at h3
        simp; omega
      | succ j =>
        have h3 := ih.1 h j (by simp at hj; omega)
        refine ⟨by simpa using h3.1, fun a ha => ?_⟩
        have := h3.2 a (by simpa using ha)
        omega
    · intro h
      have h0 := h 0 (by simp)
      simp only [List.getElem_cons_zero] at h0
      rw [if_neg (by omega), if_neg, ih]
      · intro j hj
        have h1 := h (j + 1) (by simp; omega)
        simp only [List.getElem_cons_succ] at h1
        refine ⟨h1.1, fun a ha => ?_⟩
        have := h1.2 a ha
        omega
      · simp only [List.any_eq_true, not_exists, not_and, Bool.not_eq_true]
        intro a ha
        have := h0.2 a ha
        simp [badArg]; omega

theorem formM_zero (ss : List Stp) : formM ss = 0 ↔ Okay ss := by
  unfold formM Okay
  split
  · simp; omega
  · rw [formGo_zero]
    simp only [Nat.zero_add]
    constructor
    · intro h; exact ⟨by omega, by omega, h⟩
    · intro h; exact h.2.2

theorem shut_nil {α : Type} (kids : α → List α) : Shut kids [] := fun p x h => by
  have := h.length_le
  simp at this

theorem Okay.kid {ss : List Stp} (h : Okay ss) {i a : Nat} (ha : a ∈ kidsOf ss i) : a < i := by
  by_cases hi : i < ss.length
  · rw [kidsOf_lt hi] at ha
    obtain ⟨b, hb, rfl⟩ := List.mem_map.1 ha
    have := (h.2.2 i hi).2 b hb
    omega
  · simp [kidsOf, List.getElem?_eq_none (Nat.le_of_not_lt hi)] at ha

theorem Okay.shut {ss : List Stp} (h : Okay ss) : Shut (kidsOf ss) (post ss) :=
  trav_shut (kidsOf ss) id (fun x a ha => h.kid ha) _ _ _ (by have := h.1; simp only [id]; omega) (shut_nil _)
theorem Okay.post_lt {ss : List Stp} (h : Okay ss) {x : Nat} (hx : x ∈ post ss) : x < ss.length := by
  rcases trav_rank (kidsOf ss) id (fun x a ha => h.kid ha) _ _ _ x hx with h1 | h1
  · simp at h1
  · have := h.1; simp only [id] at h1; omega
theorem Okay.round {ss : List Stp} (h : Okay ss) {pre : List Nat} {x : Nat} (hp : (pre ++ [x]) <+: post ss) :
    x < ss.length ∧ x ∉ pre ∧ ∀ a ∈ kidsOf ss x, a ∈ pre :=
  ⟨h.post_lt (hp.subset (by simp)), h.shut pre x hp⟩

/-- Step x as its numbers in the order o make it. -/
def ordStep (ss : List Stp) (o : List Nat) (x : Nat) : Stp := ⟨(ss[x]?.map Stp.label).getD ByteArray.empty, ((ss[x]?.map Stp.args).getD []).map fun a => ((o.idxOf a.toNat : Nat) : Int)⟩
/-- What Ordered returns. -/
def orderedM (ss : List Stp) : List Stp := (post ss).map (ordStep ss (post ss))

theorem ordStep_lt {ss : List Stp} {o : List Nat} {x : Nat} (h : x < ss.length) : ordStep ss o x = ⟨ss[x].label, ss[x].args.map fun a => ((o.idxOf a.toNat : Nat) : Int)⟩ := by
  simp [ordStep, List.getElem?_eq_getElem h]

theorem idxOf_prefix {o pre : List Nat} {x : Nat} (h : (pre ++ [x]) <+: o) (hx : x ∉ pre) : o.idxOf x = pre.length := by
  obtain ⟨t, rfl⟩ := h
  rw [List.append_assoc, List.idxOf_append, if_neg hx]
  simp

theorem nodup_bound : ∀ (n : Nat) (l : List Nat), l.Nodup → (∀ x ∈ l, x < n) → l.length ≤ n
  | 0, l, _, h => by
    cases l with
    | nil => simp
    | cons a l => have := h a (by simp); omega
  | n + 1, l, hn, h => by
    by_cases hm : n ∈ l
    · have ih := nodup_bound n (l.erase n) (hn.erase n) (fun x hx => by
        have h1 := (List.Nodup.mem_erase_iff hn).1 hx
        have h2 := h x h1.2
        omega)
      rw [List.length_erase_of_mem hm] at ih
      omega
    · have := nodup_bound n l hn (fun x hx => by
        have h2 := h x hx
        have h3 : x ≠ n := fun e => hm (e ▸ hx)
        omega)
      omega

theorem shut_nodup {α : Type} {kids : α → List α} {o : List α} (hs : Shut kids o) : o.Nodup := by
  have key : ∀ k, (o.take k).Nodup := by
    intro k
    induction k with
    | zero => simp
    | succ k ih =>
      rcases Nat.lt_or_ge k o.length with h | h
      · rw [List.take_succ_eq_append_getElem h, List.nodup_append]
        refine ⟨ih, by simp, ?_⟩
        intro a ha b hb e
        simp at hb
        subst hb
        exact (hs (o.take k) o[k] (by rw [← List.take_succ_eq_append_getElem h]; exact List.take_prefix _ _)).1 (e ▸ ha)
      · rw [List.take_of_length_le (by omega)]
        rwa [List.take_of_length_le h] at ih
  have := key o.length
  rwa [List.take_length] at this

theorem post_length_le {ss : List Stp} (h : Okay ss) : (post ss).length ≤ ss.length :=
  nodup_bound _ _ (shut_nodup h.shut) fun _ hx => h.post_lt hx

end Go.Proofs.YtcbmljfgmeeadaaDoor

namespace Go.Proofs.YtcbmljfgmeeadaaDoor

/-- One Arg more: the sum, bounded. -/
def addSize (out : List Int) (acc a : Int) : Int := if acc + out.getD a.toNat 0 < 1000000000 then acc + out.getD a.toNat 0 else 1000000000
/-- The sizes of the first steps. -/
def sizesTo (ss : List Stp) : Nat → List Int
  | 0 => []
  | k + 1 => sizesTo ss k ++ [((ss[k]?.map Stp.args).getD []).foldl (addSize (sizesTo ss k)) 1]
def sizesM (ss : List Stp) : List Int := sizesTo ss ss.length

theorem sizesTo_length (ss : List Stp) : ∀ k, (sizesTo ss k).length = k
  | 0 => rfl
  | k + 1 => by simp [sizesTo, sizesTo_length ss k]

theorem fold_bound (out : List Int) (ho : ∀ x ∈ out, 0 ≤ x ∧ x ≤ 1000000000) : ∀ (l : List Int) (acc : Int), 0 ≤ acc ∧ acc ≤ 1000000000 → 0 ≤ l.foldl (addSize out) acc ∧ l.foldl (addSize out) acc ≤ 1000000000
  | [], acc, h => h
  | a :: l, acc, h => by
    refine fold_bound out ho l _ ?_
    have h1 : 0 ≤ out.getD a.toNat 0 ∧ out.getD a.toNat 0 ≤ 1000000000 := by
      rw [List.getD_eq_getElem?_getD]
      cases hg : out[a.toNat]? with
      | none => simp
      | some y => exact ho y (List.mem_of_getElem? hg)
    unfold addSize
    split <;> omega

theorem sizesTo_bound (ss : List Stp) : ∀ k, ∀ x ∈ sizesTo ss k, 0 ≤ x ∧ x ≤ 1000000000
  | 0, x, h => by simp [sizesTo] at h
  | k + 1, x, h => by
    simp only [sizesTo, List.mem_append, List.mem_singleton] at h
    rcases h with h | h
    · exact sizesTo_bound ss k x h
    · rw [h]; exact fold_bound _ (sizesTo_bound ss k) _ _ (by omega)

end Go.Proofs.YtcbmljfgmeeadaaDoor

namespace Go.Proofs.YtcbmljfgmeeadaaDoor

inductive Tree where
  | node (label : ByteArray) (kids : List Tree)

mutual
/-- The steps that stand for a tree, n steps being there: and each root's number. -/
def flat : Tree → Nat → List Stp
  | .node l ks, n => (flats ks n).1 ++ [⟨l, (flats ks n).2⟩]
def flats : List Tree → Nat → List Stp × List Int
  | [], _ => ([], [])
  | k :: ks, n => (flat k n ++ (flats ks (n + (flat k n).length)).1, (((n + (flat k n).length : Nat) : Int) - 1) :: (flats ks (n + (flat k n).length)).2)
end

mutual
def tsize : Tree → Nat
  | .node _ ks => tsizes ks + 1
def tsizes : List Tree → Nat
  | [] => 0
  | k :: ks => tsize k + tsizes ks
end

mutual
theorem flat_length : ∀ (t : Tree) (n : Nat), (flat t n).length = tsize t
  | .node l ks, n => by simp [flat, tsize, flats_length ks n]
theorem flats_length : ∀ (ks : List Tree) (n : Nat), (flats ks n).1.length = tsizes ks
  | [], n => rfl
  | k :: ks, n => by simp [flats, tsizes, flat_length k n, flats_length ks]
end

theorem flats_count : ∀ (ks : List Tree) (n : Nat), (flats ks n).2.length = ks.length
  | [], n => by simp [flats]
  | k :: ks, n => by simp [flats, flats_count ks]

theorem flats_snoc (k : Tree) : ∀ (ks : List Tree) (n : Nat), flats (ks ++ [k]) n =
    ((flats ks n).1 ++ flat k (n + (flats ks n).1.length), (flats ks n).2 ++ [((n + (flats ks n).1.length + tsize k : Nat) : Int) - 1])
  | [], n => by simp [flats, flat_length]
  | x :: ks, n => by
    simp only [List.cons_append, flats, flats_snoc k ks, List.length_append, List.append_assoc, flat_length, flats_length, Nat.add_assoc]

theorem tsizes_append : ∀ (a b : List Tree), tsizes (a ++ b) = tsizes a + tsizes b
  | [], b => by simp [tsizes]
  | x :: a, b => by simp [tsizes, tsizes_append a b, Nat.add_assoc]

theorem flats_bound : ∀ (ks : List Tree) (n : Nat), ∀ x ∈ (flats ks n).2, 0 ≤ x ∧ x < ((n + tsizes ks : Nat) : Int)
  | [], n, x, h => by simp [flats] at h
  | .node l kk :: ks, n, x, h => by
    simp only [flats, List.mem_cons, flat_length] at h
    rcases h with h | h
    · simp only [tsize, tsizes] at h ⊢; omega
    · have := flats_bound ks _ x h
      simp only [tsize, tsizes] at this ⊢; omega

/-- The tree of a step. -/
def treeF (ss : List Stp) : Nat → Nat → Tree
  | 0, _ => .node ByteArray.empty []
  | f + 1, i => .node ((ss[i]?.map Stp.label).getD ByteArray.empty) ((kidsOf ss i).map (treeF ss f))
def treeAt (ss : List Stp) (i : Nat) : Tree := treeF ss (i + 1) i

theorem treeF_any {ss : List Stp} (h : ∀ i, ∀ a ∈ kidsOf ss i, a < i) : ∀ (f g i : Nat), i < f → i < g → treeF ss f i = treeF ss g i
  | 0, _, _, h, _ => by omega
  | _, 0, _, _, h => by omega
  | f + 1, g + 1, i, hf, hg => by
    simp only [treeF, Tree.node.injEq, true_and]
    refine List.map_congr_left fun a ha => ?_
    have := h i a ha
    exact treeF_any h f g a (by omega) (by omega)

theorem treeAt_eq {ss : List Stp} (h : ∀ i, ∀ a ∈ kidsOf ss i, a < i) (i : Nat) : treeAt ss i = .node ((ss[i]?.map Stp.label).getD ByteArray.empty) ((kidsOf ss i).map (treeAt ss)) := by
  show treeF ss (i + 1) i = _
  simp only [treeF, Tree.node.injEq, true_and]
  refine List.map_congr_left fun a ha => ?_
  have := h i a ha
  exact treeF_any h _ _ a (by omega) (by omega)

theorem Okay.kids {ss : List Stp} (h : Okay ss) : ∀ i, ∀ a ∈ kidsOf ss i, a < i := fun _ _ ha => h.kid ha

theorem Okay.treeAt {ss : List Stp} (hok : Okay ss) {i : Nat} (h : i < ss.length) : treeAt ss i = .node ss[i].label (ss[i].args.map fun a => Go.Proofs.YtcbmljfgmeeadaaDoor.treeAt ss a.toNat) := by
  rw [treeAt_eq hok.kids, kidsOf_lt h, List.map_map]
  simp [h]

/-- The tree of a proof. -/
def treeM (ss : List Stp) : Tree := treeAt ss (ss.length - 1)
/-- What Expand returns. -/
def expandM (ss : List Stp) : List Stp := flat (treeM ss) 0

theorem tsize_pos : ∀ t : Tree, 0 < tsize t
  | .node _ _ => by simp [tsize]

/-- Sizes are those of the trees, bounded. -/
theorem sizes_tree {ss : List Stp} (hok : Okay ss) : ∀ k, k ≤ ss.length → ∀ i, i < k → (sizesTo ss k)[i]? = some (((min (tsize (treeAt ss i)) 1000000000 : Nat) : Int))
  | 0, _, i, h => by omega
  | k + 1, hk, i, h => by
    have ih := sizes_tree hok k (by omega)
    simp only [sizesTo]
    by_cases hi : i < k
    · rw [List.getElem?_append_left (by rw [sizesTo_length]; exact hi)]
      exact ih i hi
    · obtain rfl : i = k := by omega
      rw [List.getElem?_append_right (by rw [sizesTo_length]; omega), sizesTo_length, Nat.sub_self]
      simp only [List.getElem?_cons_zero, Option.some.injEq]
      rw [hok.treeAt (by omega)]
      simp only [show i < ss.length by omega, List.getElem?_eq_getElem, Option.map_some, Option.getD_some, tsize]
      have hargs := (hok.2.2 i (by omega)).2
      generalize ss[i].args = l at hargs
      have key : ∀ (l : List Int), (∀ a ∈ l, 0 ≤ a ∧ a < i) → ∀ m : Nat, l.foldl (addSize (sizesTo ss i)) ((min m 1000000000 : Nat) : Int) = ((min (m + tsizes (l.map fun a => Go.Proofs.YtcbmljfgmeeadaaDoor.treeAt ss a.toNat)) 1000000000 : Nat) : Int) := by
        intro l
        induction l with
        | nil => intro _ m; simp [tsizes]
        | cons a l ihl =>
          intro hl m
          have ha := hl a (by simp)
          have hg := ih a.toNat (by omega)
          simp only [List.foldl_cons, List.map_cons, tsizes]
          have hstep : addSize (sizesTo ss i) ((min m 1000000000 : Nat) : Int) a = ((min (m + tsize (Go.Proofs.YtcbmljfgmeeadaaDoor.treeAt ss a.toNat)) 1000000000 : Nat) : Int) := by
            unfold addSize
            rw [List.getD_eq_getElem?_getD, hg]
            simp only [Option.getD_some]
            split <;> omega
          rw [hstep, ihl (fun x hx => hl x (by simp [hx])), Nat.add_assoc]
      have h1 := key l hargs 1
      rw [show ((min 1 1000000000 : Nat) : Int) = 1 by rfl] at h1
      rw [h1, Nat.add_comm]

theorem sizesM_last {ss : List Stp} (hok : Okay ss) : (sizesM ss).getD (ss.length - 1) 0 = ((min (tsize (treeM ss)) 1000000000 : Nat) : Int) := by
  have h0 : 1 ≤ ss.length := hok.1
  have := sizes_tree hok ss.length (Nat.le_refl _) (ss.length - 1) (by omega)
  rw [List.getD_eq_getElem?_getD, show sizesM ss = sizesTo ss ss.length from rfl, this]
  rfl

end Go.Proofs.YtcbmljfgmeeadaaDoor
