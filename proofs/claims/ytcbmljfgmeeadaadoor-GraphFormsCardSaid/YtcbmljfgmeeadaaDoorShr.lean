/-
  SHARING, in plain Lean: what share's rounds make of the steps and of the numbers.
-/
import Derived.Test.YtcbmljfgmeeadaaDoorG10
import Derived.Test.YtcbmljfgmeeadaaDoorJB
import Derived.Test.YtcbmljfgmeeadaaDoorG3
namespace Go.Proofs.YtcbmljfgmeeadaaDoor

/-- The number at a place, 0 where there is none. -/
def shStp (ss : List Stp) (now : List Int) (x : Nat) : Stp := ⟨(ss[x]?.map Stp.label).getD ByteArray.empty, ((ss[x]?.map Stp.args).getD []).map (numAt now)⟩
/-- One round. -/
def shRound (ss : List Stp) (st : List Stp × List Int) (x : Nat) : List Stp × List Int :=
  (addM st.1 (shStp ss st.2 x), st.2.set x ((addAt st.1 (shStp ss st.2 x) : Nat) : Int))
def shareTo (ss : List Stp) (o : List Nat) : List Stp × List Int := o.foldl (shRound ss) ([], List.replicate ss.length 0)
/-- What share returns. -/
def shareM (ss : List Stp) : List Stp := (shareTo ss (post ss)).1

theorem shareTo_snoc (ss : List Stp) (o : List Nat) (x : Nat) : shareTo ss (o ++ [x]) = shRound ss (shareTo ss o) x := by simp [shareTo]
theorem addM_length (ss : List Stp) (s : Stp) : (addM ss s).length ≤ ss.length + 1 := by
  unfold addM
  split <;> simp
theorem findK_lt (k : ByteArray × ByteArray) : ∀ (K : List (ByteArray × ByteArray)) (i n : Nat), findK k K i = some n → i ≤ n ∧ n < i + K.length
  | [], i, n, h => by simp [findK] at h
  | x :: K, i, n, h => by
    simp only [findK] at h
    split at h
    · cases h; simp
    · have := findK_lt k K (i + 1) n h; simp; omega
theorem addAt_le (ss : List Stp) (s : Stp) : addAt ss s ≤ ss.length := by
  unfold addAt
  split
  · rename_i n h
    have := findK_lt _ _ _ _ h
    simp at this; omega
  · exact Nat.le_refl _

theorem shareTo_bounds (ss : List Stp) (o : List Nat) : (shareTo ss o).1.length ≤ o.length ∧ (shareTo ss o).2.length = ss.length ∧ ∀ y ∈ (shareTo ss o).2, 0 ≤ y ∧ y ≤ (o.length : Int) := by
  have key : ∀ (o : List Nat) (st : List Stp × List Int) (m : Nat), st.1.length ≤ m → st.2.length = ss.length → (∀ y ∈ st.2, 0 ≤ y ∧ y ≤ (m : Int)) →
      (o.foldl (shRound ss) st).1.length ≤ m + o.length ∧ (o.foldl (shRound ss) st).2.length = ss.length ∧ ∀ y ∈ (o.foldl (shRound ss) st).2, 0 ≤ y ∧ y ≤ ((m + o.length : Nat) : Int) := by
    intro o
    induction o with
    | nil => intro st m h1 h2 h3; exact ⟨h1, h2, h3⟩
    | cons x o ih =>
      intro st m h1 h2 h3
      have := ih (shRound ss st x) (m + 1) (by have := addM_length st.1 (shStp ss st.2 x); simp only [shRound]; omega) (by simp [shRound, h2]) (fun y hy => by
        simp only [shRound] at hy
        rcases List.mem_or_eq_of_mem_set hy with h | h
        · have := h3 y h; omega
        · have := addAt_le st.1 (shStp ss st.2 x); omega)
      simp only [List.foldl_cons, List.length_cons]
      rw [show m + (o.length + 1) = m + 1 + o.length by omega]
      exact this
  have := key o ([], List.replicate ss.length 0) 0 (by simp) (by simp) (fun y hy => by rw [List.eq_of_mem_replicate hy]; omega)
  simpa [shareTo] using this

end Go.Proofs.YtcbmljfgmeeadaaDoor
