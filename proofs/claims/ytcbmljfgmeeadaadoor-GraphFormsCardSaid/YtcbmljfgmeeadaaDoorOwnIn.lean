/-
  A ROW OF STEPS OF THE CALL'S OWN, its Args in blocks that a predicate names; a row of integers of the call's own.
-/
import Derived.Test.YtcbmljfgmeeadaaDoorOwn
namespace Go.Proofs.YtcbmljfgmeeadaaDoor
open Go.RowKit

/-- The slice v, of the call's own from block lo on, holds the steps ss; their Args lie in other blocks, which S names. -/
def OwnIn (S : Nat → Prop) (lo : Nat) (W : World) (v : Value) (ss : List Stp) : Prop :=
  ∃ vs : List Value, ∃ hl : vs.length = ss.length, W.ownsRow lo 45 2 v ss.length (stepCells ss vs) ∧
    ∀ i (h : i < ss.length), IsInts (fun k => S k ∧ v.ownBlock ≠ some k) W (vs[i]'(by omega)) ss[i].args

theorem OwnIn.nil (S : Nat → Prop) (lo : Nat) (W : World) : OwnIn S lo W (.slice none 0 0) [] :=
  ⟨[], rfl, World.ownsRow_nil W lo _ _, fun i h => by simp at h⟩

theorem owns_keep {lo : Nat} {W W' : World} {v : Value} {n : Nat} {xs : List Value} {e : TypeId} {size : Nat} {T : Nat → Prop} (h : W.ownsRow lo e size v n xs) (hk : Keeps T W W') (hv : ∀ k, v.ownBlock = some k → T k) : W'.ownsRow lo e size v n xs := by
  refine ⟨h.1, ?_⟩
  rcases h.2 with hn | ⟨g, cap, cur, rfl, hb, hg, rest⟩
  · exact Or.inl hn
  · exact Or.inr ⟨g, cap, cur, rfl, hb, (hk.block g (Array.getElem?_eq_some_iff.1 hg).1 (hv g rfl)).trans hg, rest⟩

theorem OwnIn.keep {S T : Nat → Prop} {lo : Nat} {W W' : World} {v : Value} {ss : List Stp} (h : OwnIn S lo W v ss) (hk : Keeps T W W') (hv : ∀ k, v.ownBlock = some k → T k) (hs : ∀ k, k < W.heap.size → S k → v.ownBlock ≠ some k → T k) : OwnIn S lo W' v ss := by
  obtain ⟨vs, hl, ho, hi⟩ := h
  exact ⟨vs, hl, owns_keep ho hk hv, fun i h => (hi i h).keep hk fun k hlt h => hs k hlt h.1 h.2⟩

theorem OwnIn.sub {S S' : Nat → Prop} {lo : Nat} {W : World} {v : Value} {ss : List Stp} (h : OwnIn S lo W v ss) (hs : ∀ k, k < W.heap.size → S k → S' k) : OwnIn S' lo W v ss := by
  obtain ⟨vs, hl, ho, hi⟩ := h
  exact ⟨vs, hl, ho, fun i h => (hi i h).sub fun k hlt h => ⟨hs k hlt h.1, h.2⟩⟩

theorem OwnIn.lt {S : Nat → Prop} {lo : Nat} {W : World} {v : Value} {ss : List Stp} (h : OwnIn S lo W v ss) {k : Nat} (hk : v.ownBlock = some k) : lo ≤ k ∧ k < W.heap.size := by
  obtain ⟨vs, hl, ho, hi⟩ := h
  exact ho.lt k hk

theorem OwnIn.form {S : Nat → Prop} {lo : Nat} {W : World} {v : Value} {ss : List Stp} (h : OwnIn S lo W v ss) : ∃ a c, v = .slice a ss.length c := by
  obtain ⟨vs, hl, ho, hi⟩ := h
  rcases ho.2 with ⟨rfl, h0⟩ | ⟨g, cap, cur, rfl, _⟩
  · rw [h0]; exact ⟨_, _, rfl⟩
  · exact ⟨_, _, rfl⟩

theorem OwnIn.snoc {S : Nat → Prop} {lo : Nat} {W W' : World} {v v' : Value} {ss : List Stp} {s : Stp} {va : Value} {vs : List Value} (hl : vs.length = ss.length)
    (hi : ∀ i (h : i < ss.length), IsInts (fun k => S k ∧ v.ownBlock ≠ some k) W (vs[i]'(by omega)) ss[i].args)
    (ha : IsInts (fun k => S k ∧ v.ownBlock ≠ some k) W va s.args)
    (ho' : W'.ownsRow lo 45 2 v' (ss.length + 1) (stepCells ss vs ++ [.string s.label, va])) (hg : W.grownBy W' v.ownBlock)
    (hnew : v'.ownBlock = v.ownBlock ∨ ∀ k, v'.ownBlock = some k → W.heap.size ≤ k) : OwnIn S lo W' v' (ss ++ [s]) := by
  have hk : Keeps (fun k => v.ownBlock ≠ some k) W W' := ⟨hg.os, hg.tape, hg.output, hg.size, fun k hk hs => hg.block k hk (fun e => hs e.symm)⟩
  have hsub : ∀ k, k < W.heap.size → (S k ∧ v.ownBlock ≠ some k) → v.ownBlock ≠ some k ∧ (S k ∧ v'.ownBlock ≠ some k) := fun k hlt hk => ⟨hk.2, hk.1, by
    rcases hnew with h | h
    · rw [h]; exact hk.2
    · intro e; have := h k e; omega⟩
  refine ⟨vs ++ [va], by simp [hl], ?_, ?_⟩
  · rw [stepCells_snoc _ _ _ _ hl, List.length_append]; exact ho'
  · intro i h
    by_cases hlt : i < ss.length
    · have h1 := (hi i hlt).move hk hsub
      simp only [List.getElem_append_left (show i < vs.length by omega), List.getElem_append_left hlt]
      exact h1
    · have h2 : i = ss.length := by simp at h; omega
      subst h2
      have h1 := ha.move hk hsub
      simp only [List.getElem_append_right (show vs.length ≤ ss.length by omega), List.getElem_append_right (Nat.le_refl _), Nat.sub_self, hl, List.getElem_cons_zero]
      exact h1

theorem OwnIn.toSteps {lo : Nat} {W : World} {v : Value} {ss : List Stp} (h : OwnIn (fun k => lo ≤ k) lo W v ss) : OwnSteps lo W v ss := h

/-- A row of integers of the call's own, as a slice. -/
theorem own_ints {W : World} {lo : Nat} {v : Value} {xs : List Int} (h : W.ownsRow lo 3 1 v xs.length (ints xs)) (hl : xs.length ≤ 140737488351232) (hx : ∀ x ∈ xs, -9223372036854775808 ≤ x ∧ x ≤ 9223372036854775807)
    (S : Nat → Prop) (hS : ∀ k, v.ownBlock = some k → S k) : IsInts S W v xs := by
  rcases h.2 with ⟨rfl, h0⟩ | ⟨g, cap, cur, rfl, hb, hg, _⟩
  · have : xs = [] := List.eq_nil_of_length_eq_zero h0
    subst this
    exact ⟨none, 0, rfl, hl, hx, Or.inl ⟨rfl, trivial⟩⟩
  · refine ⟨_, cap, rfl, hl, hx, Or.inr ⟨g, 0, rfl, (Array.getElem?_eq_some_iff.1 hg).1, hS g rfl, fun i hi => ?_⟩⟩
    have hc := h.cells (g := g) rfl
    have hadd : ∀ j, (⟨g, 0, none⟩ : Addr).add j = ⟨g, j, none⟩ := fun j => by unfold Addr.add; split <;> simp_all
    have := hc i (.int .i64 xs[i]) (by rw [ints_get, List.getElem?_eq_getElem hi]; rfl)
    rw [hadd] at this
    simpa using this

theorem owns_form {W : World} {lo : Nat} {e : TypeId} {size : Nat} {v : Value} {n : Nat} {xs : List Value} (h : W.ownsRow lo e size v n xs) : ∃ a c, v = .slice a n c := by
  rcases h.2 with ⟨rfl, h0⟩ | ⟨g, cap, cur, rfl, _⟩
  · rw [h0]; exact ⟨_, _, rfl⟩
  · exact ⟨_, _, rfl⟩

end Go.Proofs.YtcbmljfgmeeadaaDoor
