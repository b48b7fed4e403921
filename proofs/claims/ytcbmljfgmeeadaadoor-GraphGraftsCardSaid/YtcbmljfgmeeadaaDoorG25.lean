/-
  CONTRACTS: slices.Sorted, set at texts.
-/
import Derived.Test.YtcbmljfgmeeadaaDoorG24
import Derived.Test.YtcbmljfgmeeadaaDoorShelfB
import Derived.Test.YtcbmljfgmeeadaaDoorLawK
namespace Go.Proofs.YtcbmljfgmeeadaaDoor
open Go.RowKit Go.Shelf Go.Sort

/-- A text's bytes. -/
def bytesOf (x : ByteArray) : List UInt8 := x.data.toList
theorem encStr_bytes (x : ByteArray) : encStr (bytesOf x) = .string x := by simp [encStr, bytesOf]

theorem keeps_sorted {w : World} {n g : Nat} {d : Array (List UInt8)} {os : Array Obj} : Keeps (fun k => k ≠ g) w (grow (putRow encStr (Sort.ahead w n) g 0 d) os) := by
  refine ⟨?_, ?_, ?_, ?_, ?_⟩
  · simp [grow, putRow, mapBlock, Sort.ahead]
  · simp [grow, putRow, mapBlock, Sort.ahead]
  · simp [grow, putRow, mapBlock, Sort.ahead]
  · simp [grow, putRow, mapBlock, Sort.ahead]
  · intro k hk hne
    rw [heap_grow_old _ _ (by simpa [Sort.ahead] using hk)]
    show ((Sort.ahead w n).heap.modify g _)[k]? = _
    rw [Array.getElem?_modify, if_neg (fun e => hne e.symm)]
    rfl

/-- The texts, sorted. -/
def sortL (xs : List ByteArray) : List (List UInt8) := (xs.map bytesOf).mergeSort fun x y => decide (x ≤ y)

theorem sort_c (xs : List ByteArray) (lo g cap : Nat) (w : World) (hown : w.ownsRow lo 9 1 (.slice (some ⟨g, 0, none⟩) xs.length cap) xs.length (strs xs)) (hlen : xs.length ≤ 2000) :
    Calls Tryd.prog 66 #[.slice (some ⟨g, 0, none⟩) xs.length cap] w fun e w' => e = .returned (.tuple #[]) ∧ Keeps (fun k => k ≠ g) w w' ∧
      (∀ i (h : i < (sortL xs).length), w'.cell? ⟨g, 0 + i, none⟩ = some (encStr (sortL xs)[i])) ∧ ∀ j, w'.frozen? ⟨g, 0 + j, none⟩ = false := by
  have hg : g < w.heap.size := (hown.lt g rfl).2
  have hfz : ∀ j, w.frozen? ⟨g, j, none⟩ = false := fun j => by
    rcases hown.2 with ⟨h, _⟩ | ⟨g', cap', cur, h, _, hh, _⟩
    · cases h
    · cases h
      simp [World.frozen?, hh]
  have hH : Go.Sort.Holds encStr w g 0 (xs.map bytesOf).toArray := by
    intro j hj
    have hj2 : j < xs.length := by simpa using hj
    refine ⟨?_, hfz _⟩
    have hc := hown.cells (g := g) rfl j (.string xs[j]) (by simp [strs, hj2])
    have hadd : (⟨g, 0, none⟩ : Addr).add j = ⟨g, 0 + j, none⟩ := Go.WideShapes.add_plain g 0 j
    rw [hadd] at hc
    rw [hc, getElem!_pos _ j (by simpa using hj2)]
    simp [encStr, bytesOf]
  have h := Tryd.slices_Sort_string g 0 cap (xs.map bytesOf) w hH hg (by simp; omega)
  rw [List.length_map] at h
  refine h.mono ?_
  rintro e w' ⟨rfl, n, os, rfl⟩
  refine ⟨rfl, keeps_sorted, fun i hi => ?_, fun j => ?_⟩
  · have hsl : (sortL xs).length = (xs.map bytesOf).length := by simp [sortL]
    rw [cell?_grow _ _ _ (by simpa [Sort.ahead] using hg)]
    have h1 := cell?_putRow encStr (Sort.ahead w n) g 0 (xs.map bytesOf).toArray (sortL xs).toArray hH (by simp [hsl]) i (by simpa using hi)
    show (putRow encStr (Sort.ahead w n) g 0 (sortL xs).toArray).cell? _ = _
    rw [h1, getElem!_pos _ i (by simpa using hi)]
    simp
  · rw [frozen?_grow _ _ _ (by simpa [Sort.ahead] using hg), frozen?_putRow]
    exact hfz _

end Go.Proofs.YtcbmljfgmeeadaaDoor
