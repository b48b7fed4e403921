/-
  THE SIZES OF THE TREES OF ALL STEPS, in plain Lean.
-/
import Derived.Test.YtcbmljfgmeeadaaDoorTrav
namespace Go.Proofs.YtcbmljfgmeeadaaDoor

/-- One Arg more: the sum, bounded. -/
def addSize (out : List Int) (acc a : Int) : Int := if acc + out.getD a.toNat 0 < 1000000000 then acc + out.getD a.toNat 0 else 1000000000
/-- The sizes of the first steps. -/
def sizesTo (ss : List Stp) : Nat → List Int
  | 0 => []
  | k + 1 => sizesTo ss k ++ [((ss[k]?.map Stp.args).getD []).foldl (addSize (sizesTo ss k)) 1]
def sizesM (ss : List Stp) : List Int := sizesTo ss ss.length

theorem sizesTo_length (ss : List Stp) : ∀ k, (sizesTo ss k).length = k
  | 0 => rfl
  | k + 1 => by simp [sizesTo, sizesTo_length ss k]

theorem fold_bound (out : List Int) (ho : ∀ x ∈ out, 0 ≤ x ∧ x ≤ 1000000000) : ∀ (l : List Int) (acc : Int), 0 ≤ acc ∧ acc ≤ 1000000000 → 0 ≤ l.foldl (addSize out) acc ∧ l.foldl (addSize out) acc ≤ 1000000000
  | [], acc, h => h
  | a :: l, acc, h => by
    refine fold_bound out ho l _ ?_
    have h1 : 0 ≤ out.getD a.toNat 0 ∧ out.getD a.toNat 0 ≤ 1000000000 := by
      rw [List.getD_eq_getElem?_getD]
      cases hg : out[a.toNat]? with
      | none => simp
      | some y => exact ho y (List.mem_of_getElem? hg)
    unfold addSize
    split <;> omega

theorem sizesTo_bound (ss : List Stp) : ∀ k, ∀ x ∈ sizesTo ss k, 0 ≤ x ∧ x ≤ 1000000000
  | 0, x, h => by simp [sizesTo] at h
  | k + 1, x, h => by
    simp only [sizesTo, List.mem_append, List.mem_singleton] at h
    rcases h with h | h
    · exact sizesTo_bound ss k x h
    · rw [h]; exact fold_bound _ (sizesTo_bound ss k) _ _ (by omega)

end Go.Proofs.YtcbmljfgmeeadaaDoor
