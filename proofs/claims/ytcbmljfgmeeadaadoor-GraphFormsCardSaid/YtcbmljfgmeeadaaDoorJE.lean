/-
  CONTRACTS: slices.Sorted, set at texts.
  CONTRACTS: slices.Sorted, set at texts.
-/
import Derived.Test.YtcbmljfgmeeadaaDoorJD
import Derived.Test.YtcbmljfgmeeadaaDoorShelfB
import Derived.Test.YtcbmljfgmeeadaaDoorJC
namespace Go.Proofs.YtcbmljfgmeeadaaDoor
open Go.RowKit Go.Shelf Go.Sort

/-- A text's bytes. -/
def bytesOf (x : ByteArray) : List UInt8 := x.data.toList
theorem encStr_bytes (x : ByteArray) : encStr (bytesOf x) = .string x := by simp [encStr, bytesOf]

theorem keeps_sorted {w : World} {n g : Nat} {d : Array (List UInt8)} {os : Array Obj} : Keeps (fun k => k ≠ g) w (grow (putRow encStr (Sort.ahead w n) g 0 d) os) := by
  refine ⟨?_, ?_, ?_, ?_, ?_⟩
  · simp [grow, putRow, mapBlock, Sort.ahead]
  · simp [grow, putRow, mapBlock, Sort.ahead]
  · simp [grow, putRow, mapBlock, Sort.ahead]
  · simp [grow, putRow, mapBlock, Sort.ahead]
  · intro k hk hne
    rw [heap_grow_old _ _ (by simpa [Sort.ahead] using hk)]
    show ((Sort.ahead w n).heap.modify g _)[k]? = _
    rw [Array.getElem?_modify, if_neg (fun e => hne e.symm)]
    rfl

/-- The texts, sorted. -/
def sortL (xs : List ByteArray) : List (List UInt8) := (xs.map bytesOf).mergeSort fun x y => decide (x ≤ y)

theorem sort_c (xs : List ByteArray) (lo g cap : Nat) (w : World) (hown : w.ownsRow lo 9 1 (.slice (some ⟨g, 0, none⟩) xs.length cap) xs.length (strs xs)) (hlen : xs.length ≤ 2000) :
    Calls Tryd.prog 66 #[.slice (some ⟨g, 0, none⟩) xs.length cap] w fun e w' => e = .returned (.tuple #[]) ∧ Keeps (fun k => k ≠ g) w w' ∧
      (∀ i (h : i < (sortL xs).length), w'.cell? ⟨g, 0 + i, none⟩ = some (encStr (sortL xs)[i])) ∧ ∀ j, w'.frozen? ⟨g, 0 + j, none⟩ = false := by
  have hg : g < w.heap.size := (hown.lt g rfl).2
  have hfz : ∀ j, w.frozen? ⟨g, j, none⟩ = false := fun j => by
    rcases hown.2 with ⟨h, _⟩ | ⟨g', cap', cur, h, _, hh, _⟩
    · cases h
    · cases h
      simp [World.frozen?, hh]
  have hH : Go.Sort.Holds encStr w g 0 (xs.map bytesOf).toArray := by
    intro j hj
    have hj2 : j < xs.length := by simpa using hj
    refine ⟨?_, hfz _⟩
    have hc := hown.cells (g := g) rfl j (.string xs[j]) (by simp [strs, hj2])
    have hadd : (⟨g, 0, none⟩ : Addr).add j = ⟨g, 0 + j, none⟩ := Go.WideShapes.add_plain g 0 j
    rw [hadd] at hc
    rw [hc, getElem!_pos _ j (by simpa using hj2)]
    simp [encStr, bytesOf]
  have h := Tryd.slices_Sort_string g 0 cap (xs.map bytesOf) w hH hg (by simp; omega)
  rw [List.length_map] at h
  refine h.mono ?_
  rintro e w' ⟨rfl, n, os, rfl⟩
  refine ⟨rfl, keeps_sorted, fun i hi => ?_, fun j => ?_⟩
  · have hsl : (sortL xs).length = (xs.map bytesOf).length := by simp [sortL]
    rw [cell?_grow _ _ _ (by simpa [Sort.ahead] using hg)]
    have h1 := cell?_putRow encStr (Sort.ahead w n) g 0 (xs.map bytesOf).toArray (sortL xs).toArray hH (by simp [hsl]) i (by simpa using hi)
    show (putRow encStr (Sort.ahead w n) g 0 (sortL xs).toArray).cell? _ = _
    rw [h1, getElem!_pos _ i (by simpa using hi)]
    simp
  · rw [frozen?_grow _ _ _ (by simpa [Sort.ahead] using hg), frozen?_putRow]
    exact hfz _

end Go.Proofs.YtcbmljfgmeeadaaDoor

namespace Go.Proofs.YtcbmljfgmeeadaaDoor
open Go.RowKit Go.Shelf Go.Sort

/-- A row of texts, by their bytes. -/
def RowIs (w : World) (g : Nat) (ls : List (List UInt8)) : Prop := (∀ i (h : i < ls.length), w.cell? ⟨g, 0 + i, none⟩ = some (encStr ls[i])) ∧ ∀ j, w.frozen? ⟨g, 0 + j, none⟩ = false

theorem Sorted_c (xs : List ByteArray) (pb : Nat) (w : World) (hd : ∃ u, w.cell? ⟨pb, 0, none⟩ = some u ∧ IsStrs (fun k => k < w.heap.size) w u xs) (hlen : xs.length ≤ 2000) (hne : xs ≠ []) :
    Calls Tryd.prog 59 #[.func (.func 67) #[] #[.pointer (some ⟨pb, 0, none⟩)]] w fun e w' => ∃ g cap, e = .returned (.slice (some ⟨g, 0, none⟩) xs.length cap) ∧ w.heap.size ≤ g ∧ g < w'.heap.size ∧ xs.length ≤ cap ∧ RowIs w' g (sortL xs) ∧ Keeps All w w' := by
  have hcall := Collect_c xs pb w hd hlen
  clear hd
  go_enter Tryd.func59, Tryd.ntmps59
  go_wp2_with (go_at_call 65; refine Hid.out ?_)
  refine hid ?_
  refine hcall.mono ?_
  clear hcall
  rintro e w1 ⟨v, rfl, hown, hk⟩
  have hpos : 0 < xs.length := by cases xs with | nil => exact absurd rfl hne | cons _ _ => simp
  obtain ⟨g, cap, cur, rfl, hb, hg, hc1, hc2⟩ : ∃ g cap cur, v = .slice (some ⟨g, 0, none⟩) xs.length cap ∧ w.heap.size + 3 ≤ g ∧ w1.heap[g]? = some (.cells cur 9 (0, 0)) ∧ xs.length ≤ cap ∧ cap ≤ maxLen := by
    rcases hown.2 with ⟨_, h0⟩ | ⟨g, cap, cur, rfl, hb, hg, h1, h2, _⟩
    · omega
    · exact ⟨g, cap, cur, rfl, hb, hg, h1, h2⟩
  have hsort := sort_c xs (w.heap.size + 3) g cap w1 hown hlen
  have hlt : g < w1.heap.size := (Array.getElem?_eq_some_iff.1 hg).1
  have Hlt := hid hlt
  clear hown hg hlt
  go_wp2_with (go_at_call 66; refine Hid.out ?_)
  refine hid ?_
  refine hsort.mono ?_
  clear hsort
  rintro e w2 ⟨rfl, hk2, hrow, hfz⟩
  have Hrow := hid hrow
  have Hfz := hid hfz
  clear hrow hfz
  go_wp2
  go_ret
  exact ⟨g, cap, rfl, by omega, by have := hk2.size; have := Hlt.out; omega, hc1, ⟨Hrow.out, Hfz.out⟩, hk.upto hk2 fun q hq => by omega⟩

theorem Keeps.setCells {A : World} {b : Nat} : ∀ (vs : List Value) (o : Nat) (B : World), Keeps (fun k => k ≠ b) A B → Keeps (fun k => k ≠ b) A (B.setCells b o vs)
  | [], _, _, h => h
  | v :: r, o, _, h => Keeps.setCells r (o + 1) _ (h.setCell (fun _ hn => hn rfl) v)

/-- The texts, sorted, each once. -/
def setL (xs : List ByteArray) : List ByteArray := (Lib.compact (sortL xs)).map fun l => ⟨l.toArray⟩

theorem compact_le (zs : List (List UInt8)) : (Lib.compact zs).length ≤ zs.length := by
  unfold Lib.compact Lib.compactUpTo
  rw [List.length_map]
  exact Nat.le_trans (List.length_filter_le _ _) (by simp)

theorem set_c (xs : List ByteArray) (v : Value) (w : World) (hv : IsStrs All w v xs) (hlen : xs.length ≤ 2000) (hne : xs ≠ []) :
    Calls Tryd.prog 41 #[v] w fun e w' => ∃ v', e = .returned v' ∧ IsStrs (fun k => w.heap.size ≤ k) w' v' (setL xs) ∧ Keeps All w w' := by
  have hv0 := hv
  obtain ⟨a, c, rfl⟩ := hv.form
  have hk0 : Keeps All w (w.alloc (.cells #[.slice a xs.length c] 36)) := (Keeps.refl _ _).alloc _
  have hsorted := Sorted_c xs w.heap.size (w.alloc (.cells #[.slice a xs.length c] 36)) ⟨_, (show IsRow _ w.heap.size 36 [_] from IsRow.new _ _ _).cell 0, (hv0.keep hk0 fun _ _ _ => trivial).sub fun k hk _ => hk⟩ hlen hne
  clear hv hv0
  go_enter Tryd.func41, Tryd.ntmps41
  go_wp2_with (go_at_call 60; refine Hid.out ?_)
  refine hid ?_
  refine (Values_c _ _ _ _).mono ?_
  rintro e w1 ⟨rfl, rfl⟩
  go_wp2_with (go_at_call 59; refine Hid.out ?_)
  refine hid ?_
  refine hsorted.mono ?_
  clear hsorted
  rintro e w2 ⟨g, cap, rfl, hg, hg2, hcap, hrow, hk2⟩
  have hsl : (sortL xs).length = xs.length := by simp [sortL]
  have hcomp := Tryd.slices_Compact_string_cells g 0 xs.length cap (fun i => ⟨((sortL xs).getD i []).toArray⟩) w2 (by omega) hcap (fun i hi => by
    rw [hrow.1 i (by omega)]
    simp [encStr, List.getD, List.getElem?_eq_getElem (show i < (sortL xs).length by omega)]) (fun j _ => hrow.2 j)
  have hst : Lib.strsOf (fun i => (⟨((sortL xs).getD i []).toArray⟩ : ByteArray)) xs.length = sortL xs := by
    refine List.ext_getElem (by simp [Lib.strsOf, hsl]) fun i h1 h2 => ?_
    simp [Lib.strsOf, List.getD, List.getElem?_eq_getElem h2]
  rw [hst] at hcomp
  have Hrow := hid hrow
  clear hrow hst
  go_wp2_with (go_at_call 61; refine Hid.out ?_)
  refine hid ?_
  refine hcomp.mono ?_
  clear hcomp
  rintro e w3 ⟨rfl, q, rfl⟩
  have hcl := compact_le (sortL xs)
  have hsz : g < w2.heap.size := hg2
  obtain ⟨vs, hvs⟩ : ∃ vs, vs = (Lib.compact (sortL xs) ++ List.replicate (xs.length - (Lib.compact (sortL xs)).length) []).map encStr := ⟨_, rfl⟩
  have hvl : vs.length = xs.length := by rw [hvs]; simp; omega
  have hcells : ∀ i (h : i < (setL xs).length), ((w2.drewN q).setCells g 0 vs).cell? ⟨g, 0 + i, none⟩ = some (.string (setL xs)[i]) := by
    intro i hi
    have hi2 : i < (Lib.compact (sortL xs)).length := by simpa [setL] using hi
    rw [World.cell?_setCells_in g vs 0 (w2.drewN q) (fun j hj => by
      show (w2.cell? ⟨g, 0 + j, none⟩).isSome = true
      rw [Hrow.out.1 j (by omega)]; rfl) i (by omega)]
    simp only [hvs, setL, List.getElem_map, List.getElem_append_left hi2]
  have hkc : Keeps (fun k => k ≠ g) w2 ((w2.drewN q).setCells g 0 vs) := Keeps.setCells vs 0 _ ⟨rfl, rfl, rfl, Nat.le_refl _, fun _ _ _ => rfl⟩
  have Hc := hid hcells
  have hsz3 := hkc.size
  rw [← hvs]
  clear hvs hcells
  go_wp2
  go_ret
  refine ⟨_, rfl, ⟨some ⟨g, 0, none⟩, cap, by simp [setL], by simp [setL]; omega, Or.inr ⟨g, 0, rfl, by omega, ?_, Hc.out⟩⟩, ?_⟩
  · simp at hg; omega
  · exact (hk0.trans hk2).upto hkc fun k hk => by simp at hg; omega

end Go.Proofs.YtcbmljfgmeeadaaDoor
