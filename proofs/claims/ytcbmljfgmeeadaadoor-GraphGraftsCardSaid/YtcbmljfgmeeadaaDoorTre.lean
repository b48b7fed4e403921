/-
  THE TREE OF A PROOF, in plain Lean; its flat form (each step used once), its size.
-/
import Derived.Test.YtcbmljfgmeeadaaDoorSzs
namespace Go.Proofs.YtcbmljfgmeeadaaDoor

inductive Tree where
  | node (label : ByteArray) (kids : List Tree)

mutual
/-- The steps that stand for a tree, n steps being there: and each root's number. -/
def flat : Tree → Nat → List Stp
  | .node l ks, n => (flats ks n).1 ++ [⟨l, (flats ks n).2⟩]
def flats : List Tree → Nat → List Stp × List Int
  | [], _ => ([], [])
  | k :: ks, n => (flat k n ++ (flats ks (n + (flat k n).length)).1, (((n + (flat k n).length : Nat) : Int) - 1) :: (flats ks (n + (flat k n).length)).2)
end

mutual
def tsize : Tree → Nat
  | .node _ ks => tsizes ks + 1
def tsizes : List Tree → Nat
  | [] => 0
  | k :: ks => tsize k + tsizes ks
end

mutual
theorem flat_length : ∀ (t : Tree) (n : Nat), (flat t n).length = tsize t
  | .node l ks, n => by simp [flat, tsize, flats_length ks n]
theorem flats_length : ∀ (ks : List Tree) (n : Nat), (flats ks n).1.length = tsizes ks
  | [], n => rfl
  | k :: ks, n => by simp [flats, tsizes, flat_length k n, flats_length ks]
end

theorem flats_count : ∀ (ks : List Tree) (n : Nat), (flats ks n).2.length = ks.length
  | [], n => by simp [flats]
  | k :: ks, n => by simp [flats, flats_count ks]

theorem flats_snoc (k : Tree) : ∀ (ks : List Tree) (n : Nat), flats (ks ++ [k]) n =
    ((flats ks n).1 ++ flat k (n + (flats ks n).1.length), (flats ks n).2 ++ [((n + (flats ks n).1.length + tsize k : Nat) : Int) - 1])
  | [], n => by simp [flats, flat_length]
  | x :: ks, n => by
    simp only [List.cons_append, flats, flats_snoc k ks, List.length_append, List.append_assoc, flat_length, flats_length, Nat.add_assoc]

theorem tsizes_append : ∀ (a b : List Tree), tsizes (a ++ b) = tsizes a + tsizes b
  | [], b => by simp [tsizes]
  | x :: a, b => by simp [tsizes, tsizes_append a b, Nat.add_assoc]

theorem flats_bound : ∀ (ks : List Tree) (n : Nat), ∀ x ∈ (flats ks n).2, 0 ≤ x ∧ x < ((n + tsizes ks : Nat) : Int)
  | [], n, x, h => by simp [flats] at h
  | .node l kk :: ks, n, x, h => by
    simp only [flats, List.mem_cons, flat_length] at h
    rcases h with h | h
    · simp only [tsize, tsizes] at h ⊢; omega
    · have := flats_bound ks _ x h
      simp only [tsize, tsizes] at this ⊢; omega

/-- The tree of a step. -/
def treeF (ss : List Stp) : Nat → Nat → Tree
  | 0, _ => .node ByteArray.empty []
  | f + 1, i => .node ((ss[i]?.map Stp.label).getD ByteArray.empty) ((kidsOf ss i).map (treeF ss f))
def treeAt (ss : List Stp) (i : Nat) : Tree := treeF ss (i + 1) i

theorem treeF_any {ss : List Stp} (h : ∀ i, ∀ a ∈ kidsOf ss i, a < i) : ∀ (f g i : Nat), i < f → i < g → treeF ss f i = treeF ss g i
  | 0, _, _, h, _ => by omega
  | _, 0, _, _, h => by omega
  | f + 1, g + 1, i, hf, hg => by
    simp only [treeF, Tree.node.injEq, true_and]
    refine List.map_congr_left fun a ha => ?_
    have := h i a ha
    exact treeF_any h f g a (by omega) (by omega)

theorem treeAt_eq {ss : List Stp} (h : ∀ i, ∀ a ∈ kidsOf ss i, a < i) (i : Nat) : treeAt ss i = .node ((ss[i]?.map Stp.label).getD ByteArray.empty) ((kidsOf ss i).map (treeAt ss)) := by
  show treeF ss (i + 1) i = _
  simp only [treeF, Tree.node.injEq, true_and]
  refine List.map_congr_left fun a ha => ?_
  have := h i a ha
  exact treeF_any h _ _ a (by omega) (by omega)

theorem Okay.kids {ss : List Stp} (h : Okay ss) : ∀ i, ∀ a ∈ kidsOf ss i, a < i := fun _ _ ha => h.kid ha

theorem Okay.treeAt {ss : List Stp} (hok : Okay ss) {i : Nat} (h : i < ss.length) : treeAt ss i = .node ss[i].label (ss[i].args.map fun a => Go.Proofs.YtcbmljfgmeeadaaDoor.treeAt ss a.toNat) := by
  rw [treeAt_eq hok.kids, kidsOf_lt h, List.map_map]
  simp [h]

/-- The tree of a proof. -/
def treeM (ss : List Stp) : Tree := treeAt ss (ss.length - 1)
/-- What Expand returns. -/
def expandM (ss : List Stp) : List Stp := flat (treeM ss) 0

theorem tsize_pos : ∀ t : Tree, 0 < tsize t
  | .node _ _ => by simp [tsize]

/-- Sizes are those of the trees, bounded. -/
theorem sizes_tree {ss : List Stp} (hok : Okay ss) : ∀ k, k ≤ ss.length → ∀ i, i < k → (sizesTo ss k)[i]? = some (((min (tsize (treeAt ss i)) 1000000000 : Nat) : Int))
  | 0, _, i, h => by omega
  | k + 1, hk, i, h => by
    have ih := sizes_tree hok k (by omega)
    simp only [sizesTo]
    by_cases hi : i < k
    · rw [List.getElem?_append_left (by rw [sizesTo_length]; exact hi)]
      exact ih i hi
    · obtain rfl : i = k := by omega
      rw [List.getElem?_append_right (by rw [sizesTo_length]; omega), sizesTo_length, Nat.sub_self]
      simp only [List.getElem?_cons_zero, Option.some.injEq]
      rw [hok.treeAt (by omega)]
      simp only [show i < ss.length by omega, List.getElem?_eq_getElem, Option.map_some, Option.getD_some, tsize]
      have hargs := (hok.2.2 i (by omega)).2
      generalize ss[i].args = l at hargs
      have key : ∀ (l : List Int), (∀ a ∈ l, 0 ≤ a ∧ a < i) → ∀ m : Nat, l.foldl (addSize (sizesTo ss i)) ((min m 1000000000 : Nat) : Int) = ((min (m + tsizes (l.map fun a => Go.Proofs.YtcbmljfgmeeadaaDoor.treeAt ss a.toNat)) 1000000000 : Nat) : Int) := by
        intro l
        induction l with
        | nil => intro _ m; simp [tsizes]
        | cons a l ihl =>
          intro hl m
          have ha := hl a (by simp)
          have hg := ih a.toNat (by omega)
          simp only [List.foldl_cons, List.map_cons, tsizes]
          have hstep : addSize (sizesTo ss i) ((min m 1000000000 : Nat) : Int) a = ((min (m + tsize (Go.Proofs.YtcbmljfgmeeadaaDoor.treeAt ss a.toNat)) 1000000000 : Nat) : Int) := by
            unfold addSize
            rw [List.getD_eq_getElem?_getD, hg]
            simp only [Option.getD_some]
            split <;> omega
          rw [hstep, ihl (fun x hx => hl x (by simp [hx])), Nat.add_assoc]
      have h1 := key l hargs 1
      rw [show ((min 1 1000000000 : Nat) : Int) = 1 by rfl] at h1
      rw [h1, Nat.add_comm]

theorem sizesM_last {ss : List Stp} (hok : Okay ss) : (sizesM ss).getD (ss.length - 1) 0 = ((min (tsize (treeM ss)) 1000000000 : Nat) : Int) := by
  have h0 : 1 ≤ ss.length := hok.1
  have := sizes_tree hok ss.length (Nat.le_refl _) (ss.length - 1) (by omega)
  rw [List.getD_eq_getElem?_getD, show sizesM ss = sizesTo ss ss.length from rfl, this]
  rfl

end Go.Proofs.YtcbmljfgmeeadaaDoor
