/-
  BLOCKS OF THE CALL'S OWN: rows of integers and of bools, boxes; what a store makes of them.
  WHAT STAYS TRUE WHILE ALL THAT LIES IS KEPT: facts of a world that are carried on together.
-/
import Derived.Test.YtcbmljfgmeeadaaDoorJA
import Derived.Deep.OwnRows
namespace Go.Proofs.YtcbmljfgmeeadaaDoor
open Go.RowKit

/-- Block b holds the values L, and may be written. -/
def IsRow (w : World) (b : Nat) (e : TypeId) (L : List Value) : Prop := w.heap[b]? = some (.cells L.toArray e (0, 0))

theorem IsRow.lt {w : World} {b : Nat} {e : TypeId} {L : List Value} (h : IsRow w b e L) : b < w.heap.size := (Array.getElem?_eq_some_iff.1 h).1
theorem IsRow.cell {w : World} {b : Nat} {e : TypeId} {L : List Value} (h : IsRow w b e L) (k : Nat) : w.cell? ⟨b, k, none⟩ = L[k]? := by
  unfold IsRow at h
  simp [World.cell?, h]
theorem IsRow.frozen {w : World} {b : Nat} {e : TypeId} {L : List Value} (h : IsRow w b e L) (k : Nat) : w.frozen? ⟨b, k, none⟩ = false := by
  unfold IsRow at h
  simp [World.frozen?, h]
theorem IsRow.keep {S : Nat → Prop} {w w' : World} {b : Nat} {e : TypeId} {L : List Value} (h : IsRow w b e L) (hk : Keeps S w w') (hs : S b) : IsRow w' b e L :=
  (hk.block b h.lt hs).trans h
theorem IsRow.set {w : World} {b : Nat} {e : TypeId} {L : List Value} (h : IsRow w b e L) (k : Nat) (v : Value) : IsRow (w.setCell ⟨b, k, none⟩ v) b e (L.set k v) := by
  unfold IsRow at h ⊢
  simp [World.setCell, Array.getElem?_modify, h]
theorem IsRow.other {w : World} {b : Nat} {e : TypeId} {L : List Value} (h : IsRow w b e L) {b' : Nat} (hne : b ≠ b') (k : Nat) (v : Value) : IsRow (w.setCell ⟨b', k, none⟩ v) b e L := by
  unfold IsRow at h ⊢
  rw [Below.heap_setCell _ _ _ _ hne]; exact h
theorem IsRow.alloc {w : World} {b : Nat} {e : TypeId} {L : List Value} (h : IsRow w b e L) (o : Obj) : IsRow (w.alloc o) b e L := by
  unfold IsRow at h ⊢
  rw [Below.heap_alloc _ _ _ (Array.getElem?_eq_some_iff.1 h).1]; exact h
theorem IsRow.drew {w : World} {b : Nat} {e : TypeId} {L : List Value} (h : IsRow w b e L) : IsRow w.drew b e L := h
theorem IsRow.new (w : World) (e : TypeId) (L : List Value) : IsRow (w.alloc (.cells L.toArray e)) w.heap.size e L := by
  unfold IsRow
  show (w.heap.push _)[w.heap.size]? = _
  simp

theorem IsRow.newAt {w : World} {e : TypeId} {L : List Value} {b : Nat} (hb : b = w.heap.size) : IsRow (w.alloc (.cells L.toArray e)) b e L := hb ▸ IsRow.new w e L

/-- The two cells of a box of two. -/
theorem IsRow.two {w : World} {b : Nat} {e : TypeId} {x y : Value} (h : IsRow w b e [x, y]) :
    w.cell? ⟨b, 0, none⟩ = some x ∧ w.cell? ⟨b, 1, none⟩ = some y ∧ w.frozen? ⟨b, 0, none⟩ = false ∧ w.frozen? ⟨b, 1, none⟩ = false :=
  ⟨h.cell 0, h.cell 1, h.frozen 0, h.frozen 1⟩
theorem IsRow.one {w : World} {b : Nat} {e : TypeId} {x : Value} (h : IsRow w b e [x]) : w.cell? ⟨b, 0, none⟩ = some x ∧ w.frozen? ⟨b, 0, none⟩ = false := ⟨h.cell 0, h.frozen 0⟩

/-- Integers as values. -/
def ints (xs : List Int) : List Value := xs.map (Value.int .i64)
@[simp] theorem ints_length (xs : List Int) : (ints xs).length = xs.length := by simp [ints]
theorem ints_get (xs : List Int) (k : Nat) : (ints xs)[k]? = xs[k]?.map (Value.int .i64) := by simp [ints]
theorem ints_set (xs : List Int) (k : Nat) (x : Int) : (ints xs).set k (.int .i64 x) = ints (xs.set k x) := by simp [ints, List.map_set]
def bools (xs : List Bool) : List Value := xs.map Value.bool
@[simp] theorem bools_length (xs : List Bool) : (bools xs).length = xs.length := by simp [bools]
theorem bools_get (xs : List Bool) (k : Nat) : (bools xs)[k]? = xs[k]?.map Value.bool := by simp [bools]
theorem bools_set (xs : List Bool) (k : Nat) (x : Bool) : (bools xs).set k (.bool x) = bools (xs.set k x) := by simp [bools, List.map_set]

theorem IsRow.ints_cell {w : World} {b : Nat} {e : TypeId} {xs : List Int} (h : IsRow w b e (ints xs)) {k : Nat} (hk : k < xs.length) : w.cell? ⟨b, k, none⟩ = some (.int .i64 xs[k]) := by
  rw [h.cell, ints_get, List.getElem?_eq_getElem hk]; rfl
theorem IsRow.bools_cell {w : World} {b : Nat} {e : TypeId} {xs : List Bool} (h : IsRow w b e (bools xs)) {k : Nat} (hk : k < xs.length) : w.cell? ⟨b, k, none⟩ = some (.bool xs[k]) := by
  rw [h.cell, bools_get, List.getElem?_eq_getElem hk]; rfl

/-- A whole row of integers of the call's own reads as a slice. -/
theorem IsRow.isInts {w : World} {b : Nat} {e : TypeId} {xs : List Int} (h : IsRow w b e (ints xs)) (S : Nat → Prop) (hS : S b) (hl : xs.length ≤ 140737488351232)
    (hx : ∀ x ∈ xs, -9223372036854775808 ≤ x ∧ x ≤ 9223372036854775807) (cap : Nat) : IsInts S w (.slice (some ⟨b, 0, none⟩) xs.length cap) xs :=
  ⟨_, cap, rfl, hl, hx, Or.inr ⟨b, 0, rfl, h.lt, hS, fun i hi => by rw [Nat.zero_add]; exact h.ints_cell hi⟩⟩

theorem made_ints (n : Nat) : (madeCells #[.int .i64 0] n) = (ints (List.replicate n 0)).toArray := by
  apply Array.toList_inj.1
  rw [toList_madeCells_one]; simp [ints]
theorem made_bools (n : Nat) : (madeCells #[.bool false] n) = (bools (List.replicate n false)).toArray := by
  apply Array.toList_inj.1
  rw [toList_madeCells_one]; simp [bools]

theorem info_int : (Tryd.prog.info? 3).map (fun i => (i.zero, i.size, i.bytes)) = some (some (.int .i64 0), 1, 8) := by kernel_rfl
theorem info_bool : (Tryd.prog.info? 4).map (fun i => (i.zero, i.size, i.bytes)) = some (some (.bool false), 1, 1) := by kernel_rfl

theorem info_step : (Tryd.prog.info? 45).map (fun i => (i.zero, i.size, i.bytes)) = some (some (.agg #[.string ⟨#[]⟩, .slice none 0 0]), 2, 40) := by kernel_rfl
theorem make_ints (n : Nat) (hn : n ≤ 2000) (w : World) : (Instr.makeSlice 43 (.int .i64 (n : Int)) (.int .i64 (n : Int))).run Tryd.prog w =
    .ok (.slice (some ⟨w.heap.size, 0, none⟩) n n) (w.alloc (.cells (ints (List.replicate n 0)).toArray 3)) := by
  rw [← made_ints]
  exact run_make_row' 43 3 (.int .i64 0) 8 Tryd.underlying43 info_int rfl .i64 .i64 n (by omega) (by omega) w
theorem make_bools (n : Nat) (hn : n ≤ 2000) (w : World) : (Instr.makeSlice 67 (.int .i64 (n : Int)) (.int .i64 (n : Int))).run Tryd.prog w =
    .ok (.slice (some ⟨w.heap.size, 0, none⟩) n n) (w.alloc (.cells (bools (List.replicate n false)).toArray 4)) := by
  rw [← made_bools]
  exact run_make_row' 67 4 (.bool false) 1 Tryd.underlying67 info_bool rfl .i64 .i64 n (by omega) (by omega) w

end Go.Proofs.YtcbmljfgmeeadaaDoor

namespace Go.Proofs.YtcbmljfgmeeadaaDoor
open Go.RowKit

/-- P holds from the world A on, as long as all that lies is kept. -/
def Kept (P : World → Prop) (A : World) : Prop := ∀ B, Keeps All A B → P B
theorem Kept.now {P : World → Prop} {A : World} (h : Kept P A) : P A := h A (Keeps.refl _ _)
theorem Kept.on {P : World → Prop} {A B : World} (h : Kept P A) (hk : Keeps All A B) : Kept P B := fun C hc => h C (hk.trans hc)
theorem Kept.and {P Q : World → Prop} {A : World} (h : Kept P A) (k : Kept Q A) : Kept (fun W => P W ∧ Q W) A := fun B hk => ⟨h B hk, k B hk⟩
theorem Kept.mono {P Q : World → Prop} {A : World} (h : Kept P A) (f : ∀ W, P W → Q W) : Kept Q A := fun B hk => f B (h B hk)
theorem IsRow.kept {A : World} {b : Nat} {e : TypeId} {vs : List Value} (h : IsRow A b e vs) : Kept (fun W => IsRow W b e vs) A := fun _ hk => h.keep hk trivial
theorem IsProof.kept {A : World} {v : Value} {ss : List Stp} (h : IsProof All A v ss) : Kept (fun W => IsProof All W v ss) A := fun _ hk => h.keep hk fun _ _ h => h
theorem IsSteps.kept {A : World} {v : Value} {ss : List Stp} (h : IsSteps All A v ss) : Kept (fun W => IsSteps All W v ss) A := fun _ hk => h.keep hk fun _ _ h => h
theorem IsInts.kept {A : World} {v : Value} {xs : List Int} (h : IsInts All A v xs) : Kept (fun W => IsInts All W v xs) A := fun _ hk => h.keep hk fun _ _ h => h
theorem Keeps.kept {A B : World} (h : Keeps All A B) : Kept (fun W => Keeps All A W) B := fun _ hk => h.trans hk

end Go.Proofs.YtcbmljfgmeeadaaDoor
