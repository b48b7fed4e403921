/-
  CONTRACT: slices.Clone at steps.
-/
import Derived.Test.YtcbmljfgmeeadaaDoorG15
import Derived.Test.YtcbmljfgmeeadaaDoorOwnIn
import Derived.Deep.Slices
namespace Go.Proofs.YtcbmljfgmeeadaaDoor
open Go.RowKit Go.Shelf

/-- The Args' values of steps that lie somewhere. -/
theorem steps_vals {S : Nat → Prop} {w : World} {a : Option Addr} {n c : Nat} {ss : List Stp} (h : IsSteps S w (.slice a n c) ss) : ∃ vs : List Value, ∃ hl : vs.length = ss.length,
    (∀ i (hi : i < ss.length), IsInts S w (vs[i]'(by omega)) ss[i].args) ∧ (ss = [] ∨ ∃ b off, a = some ⟨b, off, none⟩ ∧ b < w.heap.size ∧ S b ∧ ∀ j u, (stepCells ss vs)[j]? = some u → w.cell? ⟨b, off + j, none⟩ = some u) := by
  obtain ⟨_, _, he, _, h⟩ := h
  cases he
  rcases h with ⟨rfl, _⟩ | ⟨b, off, rfl, hb, hS, hc⟩
  · exact ⟨[], rfl, fun i hi => by simp at hi, Or.inl rfl⟩
  · have : Inhabited Value := ⟨.bool false⟩
    obtain ⟨f, hf⟩ := Go.Deep.choose_lt (n := ss.length) (p := fun i va => ∀ hi : i < ss.length, w.cell? ⟨b, off + i * 2 + 1, none⟩ = some va ∧ IsInts S w va ss[i].args) (fun i hi => by
      obtain ⟨_, va, h1, h2⟩ := hc i hi
      exact ⟨va, fun _ => ⟨h1, h2⟩⟩)
    have hlen : ((List.range ss.length).map f).length = ss.length := by simp
    refine ⟨(List.range ss.length).map f, hlen, fun i hi => ?_, Or.inr ⟨b, off, rfl, hb, hS, fun j u hj => ?_⟩⟩
    · simp only [List.getElem_map, List.getElem_range]
      exact (hf i hi hi).2
    · have hjl : j < ss.length * 2 := by rw [← stepCells_length ss _ hlen]; exact (List.getElem?_eq_some_iff.1 hj).1
      obtain ⟨g1, g2⟩ := stepCells_get ss _ hlen (j / 2) (by omega) (by simp; omega)
      have h2 := (hf (j / 2) (by omega) (by omega)).1
      obtain ⟨h1, _⟩ := hc (j / 2) (by omega)
      rcases Nat.mod_two_eq_zero_or_one j with hm | hm
      · have e : j = j / 2 * 2 := by omega
        rw [← e] at g1 h1
        rw [hj] at g1
        rw [h1, ← g1]
      · have e : j = j / 2 * 2 + 1 := by omega
        rw [← e] at g2
        rw [show off + j / 2 * 2 + 1 = off + j by omega] at h2
        rw [hj] at g2
        rw [h2, g2]
        simp

theorem steps_nil (a : Addr) (n c : Nat) (w : World) : (binOp .eql 22 (.slice (some a) n c) (.slice none 0 0)).run Tryd.prog w = .ok (.bool false) w := by kernel_rfl

theorem Clone_c (ss : List Stp) (v : Value) (w : World) (S : Nat → Prop) (hv : IsSteps S w v ss) (hne : ss ≠ []) (hlen : ss.length ≤ 2000) (hS : ∀ k, S k → k < w.heap.size) :
    Calls Tryd.prog 40 #[v] w fun e w' => ∃ v', e = .returned v' ∧ OwnIn S w.heap.size w' v' ss ∧ Keeps All w w' := by
  have hv' := hv
  obtain ⟨a, c, rfl⟩ := hv.form
  obtain ⟨vs, hl, hvi, hcell⟩ := steps_vals hv
  rcases hcell with h | ⟨b, off, rfl, hb, hSb, hcell⟩
  · exact absurd h hne
  obtain ⟨i0, hi0, hz0, hz1, hz2⟩ := info_parts info_step
  have hnil := steps_nil ⟨b, off, none⟩ ss.length c
  have Hc := hid hcell
  have Hvi := hid hvi
  clear hcell hvi
  go_enter Tryd.func40, Tryd.ntmps40
  go_wp2_with (at_builtin; refine Hid.out ?_)
  refine hid ?_
  have hk0 : Keeps All w (w.alloc (.cells #[] 45)) := (Keeps.refl _ _).alloc _
  have hrow : (w.alloc (.cells #[] 45)).ownsRow w.heap.size 45 2 (.slice (some ⟨w.heap.size, 0, none⟩) 0 0) 0 [] := by
    refine ⟨rfl, Or.inr ⟨w.heap.size, 0, #[], rfl, Nat.le_refl _, ?_, Nat.le_refl _, Nat.zero_le _, rfl, rfl⟩⟩
    exact (show IsRow (w.alloc (.cells #[] 45)) w.heap.size 45 [] from IsRow.new _ _ _)
  have hadd : ∀ j, (⟨b, off, none⟩ : Addr).add j = ⟨b, off + j, none⟩ := fun j => Go.WideShapes.add_plain b off j
  have hcl := stepCells_length ss vs hl
  refine wpList_append_own _ rfl _ _ 22 rfl w.heap.size 45 i0 _ 2 40 Tryd.underlying22 hi0 hz0 hz1 hz2 rfl (by decide) _ 0 [] rfl hrow ⟨b, off, none⟩ ss.length c (stepCells ss vs) rfl hcl ?c1 ?c2 ?c3 ?c4 ?c5 ?_
  case c1 =>
    intro j u hu
    rw [hadd]
    exact hk0.cell (p := ⟨b, off + j, none⟩) trivial (Hc.out j u hu)
  case c2 =>
    intro u hu
    obtain ⟨j, hj, rfl⟩ := List.getElem_of_mem hu
    have hjl : j < ss.length * 2 := by omega
    obtain ⟨g1, g2⟩ := stepCells_get ss vs hl (j / 2) (by omega) (by omega)
    rcases Nat.mod_two_eq_zero_or_one j with hm | hm
    · rw [show j / 2 * 2 = j by omega, List.getElem?_eq_getElem hj] at g1
      rw [Option.some.inj g1]; rfl
    · rw [show j / 2 * 2 + 1 = j by omega, List.getElem?_eq_getElem hj] at g2
      rw [Option.some.inj g2]
      obtain ⟨_, _, he, _⟩ := Hvi.out (j / 2) (by omega)
      rw [he]; rfl
  case c3 => unfold maxLen; omega
  case c4 => omega
  case c5 => simp
  intro v' w3 hown3 hg3 _
  rw [Nat.zero_add, List.nil_append] at hown3
  have hkw : Keeps (fun q => q ≠ w.heap.size) (w.alloc (.cells #[] 45)) w3 := ⟨hg3.os, hg3.tape, hg3.output, hg3.size, fun q hlt hs => hg3.block q hlt (fun e => hs (by cases e; rfl))⟩
  have hk3 : Keeps All w w3 := hk0.upto hkw fun k hk => by omega
  have hlt := hown3.lt
  have Hown := hid hown3
  have Hlt := hid hlt
  obtain ⟨a', c', rfl⟩ := owns_form hown3
  clear hown3 hlt hg3
  go_wp2
  go_ret
  refine ⟨_, rfl, ⟨vs, hl, Hown.out, fun i hi => ?_⟩, hk3⟩
  refine ((Hvi.out i hi).keep hk3 fun _ _ _ => trivial).sub fun k _ hk => ⟨hk, fun e => ?_⟩
  have := (Hlt.out k e).1
  have := hS k hk
  omega

end Go.Proofs.YtcbmljfgmeeadaaDoor
