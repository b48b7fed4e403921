/-
  STEPS APPENDED TO A ROW OF THE CALL'S OWN.
-/
import Derived.Test.YtcbmljfgmeeadaaDoorApp
import Derived.Test.YtcbmljfgmeeadaaDoorG20
import Derived.Test.YtcbmljfgmeeadaaDoorR4
namespace Go.Proofs.YtcbmljfgmeeadaaDoor
open Go.RowKit

theorem append_steps {F : Fence} {n : Nat} (w : World) {ops : Array Oper} {rest : List Oper} {o : Oper} {a : Act} {Q : Exit → Act → World → Prop}
    (hg : o.guard = none) (s x : Operand) (hop : o.op = Op.call { callee := Callee.builtin Builtin.append, args := #[s, x], argTypes := #[22, 22] })
    (base : Nat) (v : Value) (hs : a.eval s = v) (hown : w.ownsRow base 45 2 v 0 []) (ts : List Stp) (gb off c : Nat) (S : Nat → Prop) (hx : a.eval x = .slice (some ⟨gb, off, none⟩) ts.length c) (hts : 1 ≤ ts.length) (htl : ts.length ≤ 2000)
    (hst : IsSteps S w (.slice (some ⟨gb, off, none⟩) ts.length c) ts) (hS : ∀ q, S q → v.ownBlock ≠ some q ∧ q < w.heap.size) (b3 : base ≤ w.heap.size)
    (hK : ∀ (g c' : Nat) w', OwnIn S base w' (.slice (some ⟨g, 0, none⟩) ts.length c') ts → Keeps (fun q => v.ownBlock ≠ some q) w w' → (some g = v.ownBlock ∨ g = w.heap.size) → wpListIn F n Tryd.prog ops Q rest (a.put o.dst (.slice (some ⟨g, 0, none⟩) ts.length c')) w') :
    wpListIn F n Tryd.prog ops Q (o :: rest) a w := by
  obtain ⟨vs, hl, hvi, hcell⟩ := steps_vals hst
  obtain ⟨i0, hi0, hz0, hz1, hz2⟩ := info_parts info_step
  have hcell' : ∀ j u, (stepCells ts vs)[j]? = some u → w.cell? ⟨gb, off + j, none⟩ = some u := by
    rcases hcell with h | ⟨b', off', he, _, _, h⟩
    · rw [h] at hts; simp at hts
    · cases he; exact h
  have hcl := stepCells_length ts vs hl
  refine wpListIn_append_where w hg s x 22 hop base 45 i0 _ 2 40 Tryd.underlying22 hi0 hz0 hz1 hz2 rfl (by decide) v 0 [] hs hown ⟨gb, off, none⟩ ts.length c (stepCells ts vs) hx hcl ?_ ?_ (by unfold maxLen; omega) (by omega) b3 ?_
  · intro j u hu
    rw [show (⟨gb, off, none⟩ : Addr).add j = ⟨gb, off + j, none⟩ from Go.WideShapes.add_plain gb off j]
    exact hcell' j u hu
  · intro u hu
    obtain ⟨j, hj, rfl⟩ := List.getElem_of_mem hu
    have hjl : j < ts.length * 2 := by omega
    obtain ⟨g1, g2⟩ := stepCells_get ts vs hl (j / 2) (by omega) (by omega)
    rcases Nat.mod_two_eq_zero_or_one j with hm | hm
    · rw [show j / 2 * 2 = j by omega, List.getElem?_eq_getElem hj] at g1
      rw [Option.some.inj g1]; rfl
    · rw [show j / 2 * 2 + 1 = j by omega, List.getElem?_eq_getElem hj] at g2
      rw [Option.some.inj g2]
      obtain ⟨_, _, he, _⟩ := hvi (j / 2) (by omega)
      rw [he]; rfl
  · intro v' w' ho hgr hw
    rw [Nat.zero_add, List.nil_append] at ho
    obtain ⟨m, hm⟩ : ∃ m, ts.length = m + 1 := ⟨ts.length - 1, by omega⟩
    rw [hm] at ho
    obtain ⟨g, c', rfl⟩ := ownsRow_succ ho
    rw [← hm] at ho hw ⊢
    have hk : Keeps (fun q => v.ownBlock ≠ some q) w w' := ⟨hgr.os, hgr.tape, hgr.output, hgr.size, fun q hlt hs => hgr.block q hlt (fun e => hs e.symm)⟩
    have hgw : some g = v.ownBlock ∨ g = w.heap.size := by
      rcases hw with h | h
      · exact Or.inl h
      · exact Or.inr (Option.some.inj h)
    refine hK g c' w' ⟨vs, hl, ho, fun i hi => ?_⟩ hk hgw
    refine ((hvi i hi).keep hk fun q _ h => (hS q h).1).sub fun q _ h => ⟨h, fun e => ?_⟩
    have e2 : g = q := Option.some.inj e
    rcases hgw with h1 | h1
    · exact (hS q h).1 (by rw [← h1, e2])
    · have := (hS q h).2; omega

theorem OwnIn.swap2 {P : Nat → Prop} {lo gn gn' : Nat} {W W' : World} {ov : Value} {outs : List Stp} (h : OwnIn (fun q => P q ∧ q ≠ gn) lo W ov outs) (hk : Keeps (fun q => q ≠ gn) W W') (ho : ov.ownBlock ≠ some gn) (hg : gn' = gn ∨ W.heap.size ≤ gn') : OwnIn (fun q => P q ∧ q ≠ gn') lo W' ov outs := by
  have h1 := h.sub (S' := fun q => (P q ∧ q ≠ gn') ∧ q ≠ gn) fun q hq h => ⟨⟨h.1, by
    rcases hg with e | e
    · rw [e]; exact h.2
    · omega⟩, h.2⟩
  exact (h1.keep hk (fun q e e2 => by subst e2; exact ho e) fun q _ h _ => h.2).sub fun q _ h => h.1

end Go.Proofs.YtcbmljfgmeeadaaDoor
