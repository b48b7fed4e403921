/-
  ONE ELEMENT APPENDED TO A ROW OF THE CALL'S OWN: the law at the operation, its side conditions met.
-/
import Derived.Test.YtcbmljfgmeeadaaDoorOwnIn
import Derived.Test.YtcbmljfgmeeadaaDoorJP
import Derived.Laws.OwnMore
namespace Go.Proofs.YtcbmljfgmeeadaaDoor
open Go.RowKit

theorem wpListIn_append1 {F : Fence} {n : Nat} {P : Program} (w : World) {ops : Array Oper} {rest : List Oper} {o : Oper} {a : Act} {Q : Exit → Act → World → Prop}
    (hg : o.guard = none) (s x : Operand) (t : TypeId) (hop : o.op = Op.call { callee := Callee.builtin Builtin.append, args := #[s, x], argTypes := #[t, t] })
    (base : Nat) (e : TypeId) (i : TypeInfo) (z : Value) (size bytes : Nat) (h1 : P.underlying t = some (.slice e)) (h2 : P.info? e = some i) (h3 : i.zero = some z) (h4 : i.size = size) (h5 : i.bytes = bytes) (h6 : z.cells.size = size) (h7 : 0 < size)
    (v : Value) (k : Nat) (xs : List Value) (hs : a.eval s = v) (hown : w.ownsRow base e size v k xs) (tb : Nat) (ys : List Value) (hx : a.eval x = .slice (some ⟨tb, 0, none⟩) 1 1) (hys : ys.length = size)
    (ht : IsRow w tb e ys) (h1c : ∀ u ∈ ys, u.oneCell' = true) (b1 : k ≤ 1000000000) (b2 : bytes ≤ 1000) (b3 : base ≤ w.heap.size)
    (hK : ∀ (g c : Nat) w', w'.ownsRow base e size (.slice (some ⟨g, 0, none⟩) (k + 1) c) (k + 1) (xs ++ ys) → Keeps (fun q => v.ownBlock ≠ some q) w w' → (some g = v.ownBlock ∨ g = w.heap.size) → wpListIn F n P ops Q rest (a.put o.dst (.slice (some ⟨g, 0, none⟩) (k + 1) c)) w') :
    wpListIn F n P ops Q (o :: rest) a w := by
  refine wpListIn_append_where w hg s x t hop base e i z size bytes h1 h2 h3 h4 h5 h6 h7 v k xs hs hown ⟨tb, 0, none⟩ 1 1 ys hx (by rw [hys, Nat.one_mul]) ?_ h1c (by unfold maxLen; omega) ?_ b3 ?_
  · intro j u hu
    have hadd : (⟨tb, 0, none⟩ : Addr).add j = ⟨tb, j, none⟩ := by unfold Addr.add; split <;> simp_all
    rw [hadd, ht.cell, hu]
  · exact Nat.le_trans (Nat.mul_le_mul (show k + 1 ≤ 1000000001 by omega) b2) (by omega)
  · intro v' w' ho hgr hw
    obtain ⟨g, c, rfl⟩ := ownsRow_succ ho
    refine hK g c w' ho ⟨hgr.os, hgr.tape, hgr.output, hgr.size, fun q hlt hs => hgr.block q hlt (fun e => hs e.symm)⟩ ?_
    rcases hw with h | h
    · exact Or.inl h
    · exact Or.inr (Option.some.inj h)

theorem info_int' : (Tryd.prog.info? 3).map (fun i => (i.zero, i.size, i.bytes)) = some (some (.int .i64 0), 1, 8) := by kernel_rfl
theorem info_str' : (Tryd.prog.info? 9).map (fun i => (i.zero, i.size, i.bytes)) = some (some (.string ⟨#[]⟩), 1, 16) := by kernel_rfl

/-- An integer is appended. -/
theorem append_int {F : Fence} {n : Nat} (w : World) {ops : Array Oper} {rest : List Oper} {o : Oper} {a : Act} {Q : Exit → Act → World → Prop}
    (hg : o.guard = none) (s x : Operand) (hop : o.op = Op.call { callee := Callee.builtin Builtin.append, args := #[s, x], argTypes := #[43, 43] })
    (base : Nat) (v : Value) (xs : List Int) (y : Int) (hs : a.eval s = v) (hown : w.ownsRow base 3 1 v xs.length (ints xs)) (tb : Nat) (hx : a.eval x = .slice (some ⟨tb, 0, none⟩) 1 1)
    (ht : IsRow w tb 3 [.int .i64 y]) (b1 : xs.length ≤ 1000000000) (b3 : base ≤ w.heap.size)
    (hK : ∀ (g c : Nat) w', w'.ownsRow base 3 1 (.slice (some ⟨g, 0, none⟩) (xs.length + 1) c) (xs ++ [y]).length (ints (xs ++ [y])) → Keeps (fun q => v.ownBlock ≠ some q) w w' → (some g = v.ownBlock ∨ g = w.heap.size) →
      wpListIn F n Tryd.prog ops Q rest (a.put o.dst (.slice (some ⟨g, 0, none⟩) (xs.length + 1) c)) w') :
    wpListIn F n Tryd.prog ops Q (o :: rest) a w := by
  obtain ⟨i, hi, h0, h1, h2⟩ := info_parts info_int'
  refine wpListIn_append1 w hg s x 43 hop base 3 i _ 1 8 Tryd.underlying43 hi h0 h1 h2 rfl (by decide) v xs.length (ints xs) hs hown tb [.int .i64 y] hx rfl ht (by intro u hu; simp at hu; subst hu; rfl) b1 (by omega) b3 ?_
  intro g c w' ho hk hw
  refine hK g c w' ?_ hk hw
  simpa [ints] using ho

theorem append_intk {F : Fence} {n : Nat} (w : World) {ops : Array Oper} {rest : List Oper} {o : Oper} {a : Act} {Q : Exit → Act → World → Prop}
    (hg : o.guard = none) (s x : Operand) (hop : o.op = Op.call { callee := Callee.builtin Builtin.append, args := #[s, x], argTypes := #[43, 43] })
    (base : Nat) (v : Value) (xs : List Int) (k : Nat) (hkx : xs.length = k) (y : Int) (hs : a.eval s = v) (hown : w.ownsRow base 3 1 v k (ints xs)) (tb : Nat) (hx : a.eval x = .slice (some ⟨tb, 0, none⟩) 1 1)
    (ht : IsRow w tb 3 [.int .i64 y]) (b1 : k ≤ 1000000000) (b3 : base ≤ w.heap.size)
    (hK : ∀ (g c : Nat) w', w'.ownsRow base 3 1 (.slice (some ⟨g, 0, none⟩) (k + 1) c) (k + 1) (ints (xs ++ [y])) → Keeps (fun q => v.ownBlock ≠ some q) w w' → (some g = v.ownBlock ∨ g = w.heap.size) →
      wpListIn F n Tryd.prog ops Q rest (a.put o.dst (.slice (some ⟨g, 0, none⟩) (k + 1) c)) w') :
    wpListIn F n Tryd.prog ops Q (o :: rest) a w := by
  subst hkx
  refine append_int w hg s x hop base v xs y hs hown tb hx ht b1 b3 fun g c w' ho hk hw => hK g c w' ?_ hk hw
  rw [List.length_append] at ho; exact ho

/-- A text is appended. -/
theorem append_str {F : Fence} {n : Nat} (w : World) {ops : Array Oper} {rest : List Oper} {o : Oper} {a : Act} {Q : Exit → Act → World → Prop}
    (hg : o.guard = none) (s x : Operand) (hop : o.op = Op.call { callee := Callee.builtin Builtin.append, args := #[s, x], argTypes := #[36, 36] })
    (base : Nat) (v : Value) (xs : List Value) (k : Nat) (y : ByteArray) (hs : a.eval s = v) (hown : w.ownsRow base 9 1 v k xs) (tb : Nat) (hx : a.eval x = .slice (some ⟨tb, 0, none⟩) 1 1)
    (ht : IsRow w tb 9 [.string y]) (b1 : k ≤ 1000000000) (b3 : base ≤ w.heap.size)
    (hK : ∀ (g c : Nat) w', w'.ownsRow base 9 1 (.slice (some ⟨g, 0, none⟩) (k + 1) c) (k + 1) (xs ++ [.string y]) → Keeps (fun q => v.ownBlock ≠ some q) w w' → (some g = v.ownBlock ∨ g = w.heap.size) →
      wpListIn F n Tryd.prog ops Q rest (a.put o.dst (.slice (some ⟨g, 0, none⟩) (k + 1) c)) w') :
    wpListIn F n Tryd.prog ops Q (o :: rest) a w := by
  obtain ⟨i, hi, h0, h1, h2⟩ := info_parts info_str'
  exact wpListIn_append1 w hg s x 36 hop base 9 i _ 1 16 Tryd.underlying36 hi h0 h1 h2 rfl (by decide) v k xs hs hown tb [.string y] hx rfl ht (by intro u hu; simp at hu; subst hu; rfl) b1 (by omega) b3 hK

/-- A step is appended. -/
theorem append_step {F : Fence} {n : Nat} (w : World) {ops : Array Oper} {rest : List Oper} {o : Oper} {a : Act} {Q : Exit → Act → World → Prop}
    (hg : o.guard = none) (s x : Operand) (hop : o.op = Op.call { callee := Callee.builtin Builtin.append, args := #[s, x], argTypes := #[22, 22] })
    (base : Nat) (v : Value) (xs : List Value) (k : Nat) (lab : ByteArray) (ad : Option Addr) (m c0 : Nat) (hs : a.eval s = v) (hown : w.ownsRow base 45 2 v k xs) (tb : Nat) (hx : a.eval x = .slice (some ⟨tb, 0, none⟩) 1 1)
    (ht : IsRow w tb 45 [.string lab, .slice ad m c0]) (b1 : k ≤ 1000000000) (b3 : base ≤ w.heap.size)
    (hK : ∀ (g c : Nat) w', w'.ownsRow base 45 2 (.slice (some ⟨g, 0, none⟩) (k + 1) c) (k + 1) (xs ++ [.string lab, .slice ad m c0]) → Keeps (fun q => v.ownBlock ≠ some q) w w' → (some g = v.ownBlock ∨ g = w.heap.size) →
      wpListIn F n Tryd.prog ops Q rest (a.put o.dst (.slice (some ⟨g, 0, none⟩) (k + 1) c)) w') :
    wpListIn F n Tryd.prog ops Q (o :: rest) a w := by
  obtain ⟨i, hi, h0, h1, h2⟩ := info_parts info_step
  exact wpListIn_append1 w hg s x 22 hop base 45 i _ 2 40 Tryd.underlying22 hi h0 h1 h2 rfl (by decide) v k xs hs hown tb _ hx rfl ht (by intro u hu; simp at hu; rcases hu with rfl | rfl <;> rfl) b1 (by omega) b3 hK

theorem owns_none_int (w : World) (base : Nat) (hb : base ≤ w.heap.size) : (w.alloc (.cells #[] 3)).ownsRow base 3 1 (.slice (some ⟨w.heap.size, 0, none⟩) 0 0) ([] : List Int).length (ints []) := World.ownsRow_lit w #[] 0 hb (by simp [maxLen]) rfl
theorem owns_none_step (w : World) (base : Nat) (hb : base ≤ w.heap.size) : (w.alloc (.cells #[] 45)).ownsRow base 45 2 (.slice (some ⟨w.heap.size, 0, none⟩) 0 0) 0 [] := World.ownsRow_lit w #[] 0 hb (by simp [maxLen]) rfl
theorem owns_none_str (w : World) (base : Nat) (hb : base ≤ w.heap.size) : (w.alloc (.cells #[] 9)).ownsRow base 9 1 (.slice (some ⟨w.heap.size, 0, none⟩) 0 0) 0 [] := World.ownsRow_lit w #[] 0 hb (by simp [maxLen]) rfl

theorem owns_int_at {W : World} {lo g n c : Nat} {xs : List Int} (h : W.ownsRow lo 3 1 (.slice (some ⟨g, 0, none⟩) n c) n (ints xs)) {k : Nat} (hk : k < xs.length) : W.cell? ⟨g, k, none⟩ = some (.int .i64 xs[k]) := by
  have hl : n = xs.length := by have := h.1; simp at this; omega
  subst hl
  rw [h.cellAt k (by omega), ints_get, List.getElem?_eq_getElem hk]; rfl

end Go.Proofs.YtcbmljfgmeeadaaDoor
