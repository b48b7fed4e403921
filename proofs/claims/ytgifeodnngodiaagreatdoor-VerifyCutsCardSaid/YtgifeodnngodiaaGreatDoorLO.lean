/-
  CONTRACTS: strings.IndexRune at a rune beyond ASCII in a text of ASCII bytes.
  WHAT A RIGHT DATABASE IS, IN PLAIN LEAN: labels, symbols, formulas, hypotheses, frames.
  CONTRACTS: whether a word can stand in a proof (layout.isProof), over runes; the plain law: over bytes.
  WHAT A RIGHT DATABASE IS, IN PLAIN LEAN: the errors of hypotheses, of frames, of a database.
-/
import Derived.Test.YtgifeodnngodiaaGreatDoorLE
import Derived.Test.YtgifeodnngodiaaGreatDoorLN
import Derived.Laws.Runes
import Derived.Laws.RangeString
import Derived.Laws.Strings3
import Derived.Deep.LoopGhost
import Derived.Lib.IndexAny
import Derived.Deep.QuietTactic
import Derived.WalkMore
import Derived.Test.YtgifeodnngodiaaGreatDoorLI
namespace Go.Proofs.YtgifeodnngodiaaGreatDoor
open Go.RowKit Go.Shelf Go.Lib

def dots : ByteArray := ⟨#[45, 95, 46, 63]⟩
theorem Za4 : ∀ b ∈ dots.data.toList, b.toNat < 128 := by decide
theorem ZeP (i : Nat) (h : i < dots.size) : (dots[i]'h).toNat < 128 := Za4 _ (Array.getElem_mem_toList (xs := dots.data) h)

set_option maxHeartbeats 2000000 in
set_option maxRecDepth 1000000 in
theorem Zdz (w : World) : Calls Tryz.prog 180 #[.string dots, .int .i32 65533] w fun e w' => e = .returned (.int .i64 (-1)) ∧ Below w.heap.size w w' := by
  obtain ⟨s, hs⟩ : ∃ s, dots = s := ⟨_, rfl⟩
  have HA : Hid (∀ (i : Nat) (h : i < s.size), (s[i]'h).toNat < 128) := by rw [← hs]; exact ZeP
  rw [hs]
  clear hs
  go_enter Tryz.func180, Tryz.ntmps180
  go_wp2
  go_loopg [5, 6] s.size (fun g _ _ wx => ∃ i : Nat, i + g = s.size ∧ wx = w.iter s i)
  case atStart => exact ⟨0, by omega, rfl⟩
  case round =>
    obtain ⟨i, hig, rfl⟩ := hrel
    cases gk with
    | zero =>
      obtain rfl : i = s.size := by omega
      have hnx := run_next_end (P := Tryz.prog) w s s.size
      go_wp2
      go_ret
      exact ⟨rfl, (Below.refl _ _).alloc (Nat.le_refl _) _⟩
    | succ g =>
      have hi : i < s.size := by omega
      obtain ⟨x, hx⟩ : ∃ x : UInt8, s[i]'hi = x := ⟨_, rfl⟩
      have hx128 : x.toNat < 128 := by rw [← hx]; exact HA.out i hi
      have hnx := fun ty => run_next_ascii (P := Tryz.prog) w s i ty hi (by rw [hx]; exact hx128)
      rw [hx] at hnx
      clear hx
      have hne : ¬ ((x.toNat : Int) = 65533) := by omega
      go_wp2
      go_roundg g
      case measure => omega
      case rel => exact ⟨i + 1, by omega, rfl⟩

set_option maxHeartbeats 2000000 in
set_option maxRecDepth 1000000 in
theorem Zch (r : Int) (w : World) (h0 : 128 ≤ r) (h1 : ¬ r = 65533) (hv : Lib.validRune r = false) : Calls Tryz.prog 180 #[.string dots, .int .i32 r] w fun e w' => e = .returned (.int .i64 (-1)) ∧ w' = w := by
  obtain ⟨s, hs⟩ : ∃ s, dots = s := ⟨_, rfl⟩
  rw [hs]
  clear hs
  have h2 : ¬ r < 128 := by omega
  have h3 : (0 : Int) ≤ r := by omega
  go_enter Tryz.func180, Tryz.ntmps180
  go_wp2_with (go_at_call 186; refine (Tryz.utf8_ValidRune _ _).mono ?_; rintro e w' ⟨rfl, hw⟩; rw [hw, hv])
  go_ret
  exact ⟨rfl, rfl⟩

theorem ZeJ {l : List UInt8} {c : UInt8} (hs : ∀ b ∈ l, b.toNat < 128) (hc : 128 ≤ c.toNat) : Lib.indexByte l c < 0 := by
  have := Lib.contains_iff_indexByte l c
  have h2 : l.contains c = false := by
    rw [← Bool.not_eq_true, List.contains_iff_mem]
    intro h
    have := hs c h
    omega
  rw [h2] at this
  have := of_decide_eq_false this.symm
  omega

theorem ZnT (r : Int) (h0 : 128 ≤ r) (hv : Lib.validRune r = true) : ∃ n : Nat, (Utf8.encode r).size = n + 1 ∧ (n = 1 ∨ n = 2 ∨ n = 3) ∧ ∃ c : UInt8, (∀ h : n < (Utf8.encode r).size, (Utf8.encode r)[n]'h = c) ∧ 128 ≤ c.toNat := by
  obtain ⟨e1, e2, e3⟩ := encode_facts r (by rw [validRune_eq]; exact hv) h0
  exact ⟨(Utf8.encode r).size - 1, by omega, by omega, _, fun _ => rfl, e3 (by omega)⟩

set_option maxHeartbeats 4000000 in
set_option maxRecDepth 1000000 in
theorem ZdV (r : Int) (w : World) (h0 : 128 ≤ r) (h1 : ¬ r = 65533) (hv : Lib.validRune r = true) (t : ByteArray) (ht : Utf8.encode r = t) (hk : t.size = 2) (c : UInt8) (hc : ∀ h : 1 < t.size, t[1]'h = c) (hc1 : 128 ≤ c.toNat) : Calls Tryz.prog 180 #[.string dots, .int .i32 r] w fun e w' => e = .returned (.int .i64 (-1)) ∧ Below w.heap.size w w' := by
  obtain ⟨s, hs⟩ : ∃ s, dots = s := ⟨_, rfl⟩
  have hsz : s.size = 4 := by rw [← hs]; rfl
  obtain ⟨x, hx⟩ : ∃ x, s[1]'(by omega) = x := ⟨_, rfl⟩
  have hx1 : x.toNat < 128 := by subst hs; rw [← hx]; exact ZeP 1 (by decide)
  have hIB : ∃ m : Int, m < 0 ∧ ∀ w, Calls Tryz.prog 185 #[.string (s.extract 2 4), .int .u8 (c.toNat : Int)] w fun e w' => e = .returned (.int .i64 m) ∧ w' = w := by
    refine ⟨_, ZeJ (l := (s.extract 2 4).data.toList) (fun b hb => ?_) hc1, fun w => ?_⟩
    · rw [← hs] at hb; exact Za4 b (mem_extract hb)
    · have := Tryz.strings_IndexByte (s.extract 2 4) (c.toNat : Int) w
      rwa [show ((c.toNat : Int)).toNat.toUInt8 = c by simp] at this
  obtain ⟨m, hm, hIB⟩ := hIB
  have hcc := hc (by omega)
  rw [hs]
  clear hs hc
  have h2 : ¬ r < 128 := by omega
  have h3 : (0 : Int) ≤ r := by omega
  have hne : ((x.toNat : Int) != (c.toNat : Int)) = true := by simp; omega
  go_enter Tryz.func180, Tryz.ntmps180
  go_wp2_with (go_at_call 186; refine (Tryz.utf8_ValidRune _ _).mono ?_; rintro e w' ⟨rfl, hw⟩; rw [hw, hv])
  go_step3
  go_wp2
  go_loopg [9, 10] 1 (fun _ x9 _ wx => x9 = .int .i64 1 ∧ wx = w)
  case atStart => exact ⟨rfl, rfl⟩
  case round =>
    obtain ⟨rfl, rfl⟩ := hrel
    go_wp2
    go_step3
    go_wp2
    go_quiet (fail)
    go_wp2
    have hwr : IntKind.i64.wrap 2 = 2 := by decide
    go_quiet (exact (hIB _).mono fun e w' h => ⟨h.1, _, h.2⟩)
    go_wp2
    simp only [Exit.noGoto_ret, Exit.inBlock, Exit.then]
    go_ret
    exact ⟨rfl, below_drewNg _ _⟩

set_option maxHeartbeats 4000000 in
set_option maxRecDepth 1000000 in
theorem ZdU (r : Int) (w : World) (h0 : 128 ≤ r) (h1 : ¬ r = 65533) (hv : Lib.validRune r = true) (t : ByteArray) (ht : Utf8.encode r = t) (hk : t.size = 3) (c : UInt8) (hc : ∀ h : 2 < t.size, t[2]'h = c) (hc1 : 128 ≤ c.toNat) : Calls Tryz.prog 180 #[.string dots, .int .i32 r] w fun e w' => e = .returned (.int .i64 (-1)) ∧ Below w.heap.size w w' := by
  obtain ⟨s, hs⟩ : ∃ s, dots = s := ⟨_, rfl⟩
  have hsz : s.size = 4 := by rw [← hs]; rfl
  obtain ⟨x, hx⟩ : ∃ x, s[2]'(by omega) = x := ⟨_, rfl⟩
  have hx1 : x.toNat < 128 := by subst hs; rw [← hx]; exact ZeP 2 (by decide)
  have hIB : ∃ m : Int, m < 0 ∧ ∀ w, Calls Tryz.prog 185 #[.string (s.extract 3 4), .int .u8 (c.toNat : Int)] w fun e w' => e = .returned (.int .i64 m) ∧ w' = w := by
    refine ⟨_, ZeJ (l := (s.extract 3 4).data.toList) (fun b hb => ?_) hc1, fun w => ?_⟩
    · rw [← hs] at hb; exact Za4 b (mem_extract hb)
    · have := Tryz.strings_IndexByte (s.extract 3 4) (c.toNat : Int) w
      rwa [show ((c.toNat : Int)).toNat.toUInt8 = c by simp] at this
  obtain ⟨m, hm, hIB⟩ := hIB
  have hcc := hc (by omega)
  rw [hs]
  clear hs hc
  have h2 : ¬ r < 128 := by omega
  have h3 : (0 : Int) ≤ r := by omega
  have hne : ((x.toNat : Int) != (c.toNat : Int)) = true := by simp; omega
  go_enter Tryz.func180, Tryz.ntmps180
  go_wp2_with (go_at_call 186; refine (Tryz.utf8_ValidRune _ _).mono ?_; rintro e w' ⟨rfl, hw⟩; rw [hw, hv])
  go_step3
  go_wp2
  go_loopg [9, 10] 1 (fun _ x9 _ wx => x9 = .int .i64 2 ∧ wx = w)
  case atStart => exact ⟨rfl, rfl⟩
  case round =>
    obtain ⟨rfl, rfl⟩ := hrel
    go_wp2
    go_step3
    go_wp2
    go_quiet (fail)
    go_wp2
    have hwr : IntKind.i64.wrap 3 = 3 := by decide
    go_quiet (exact (hIB _).mono fun e w' h => ⟨h.1, _, h.2⟩)
    go_wp2
    simp only [Exit.noGoto_ret, Exit.inBlock, Exit.then]
    go_ret
    exact ⟨rfl, below_drewNg _ _⟩

set_option maxHeartbeats 4000000 in
set_option maxRecDepth 1000000 in
theorem ZdT (r : Int) (w : World) (h0 : 128 ≤ r) (h1 : ¬ r = 65533) (hv : Lib.validRune r = true) (t : ByteArray) (ht : Utf8.encode r = t) (hk : t.size = 4) (c : UInt8) (hc : ∀ h : 3 < t.size, t[3]'h = c) (hc1 : 128 ≤ c.toNat) : Calls Tryz.prog 180 #[.string dots, .int .i32 r] w fun e w' => e = .returned (.int .i64 (-1)) ∧ Below w.heap.size w w' := by
  obtain ⟨s, hs⟩ : ∃ s, dots = s := ⟨_, rfl⟩
  have hsz : s.size = 4 := by rw [← hs]; rfl
  obtain ⟨x, hx⟩ : ∃ x, s[3]'(by omega) = x := ⟨_, rfl⟩
  have hx1 : x.toNat < 128 := by subst hs; rw [← hx]; exact ZeP 3 (by decide)
  have hIB : ∃ m : Int, m < 0 ∧ ∀ w, Calls Tryz.prog 185 #[.string (s.extract 4 4), .int .u8 (c.toNat : Int)] w fun e w' => e = .returned (.int .i64 m) ∧ w' = w := by
    refine ⟨_, ZeJ (l := (s.extract 4 4).data.toList) (fun b hb => ?_) hc1, fun w => ?_⟩
    · rw [← hs] at hb; exact Za4 b (mem_extract hb)
    · have := Tryz.strings_IndexByte (s.extract 4 4) (c.toNat : Int) w
      rwa [show ((c.toNat : Int)).toNat.toUInt8 = c by simp] at this
  obtain ⟨m, hm, hIB⟩ := hIB
  have hIB2 := hIB
  rw [show s.extract 4 4 = ByteArray.empty by simp] at hIB2
  have hcc := hc (by omega)
  rw [hs]
  clear hs hc
  have h2 : ¬ r < 128 := by omega
  have h3 : (0 : Int) ≤ r := by omega
  have hne : ((x.toNat : Int) != (c.toNat : Int)) = true := by simp; omega
  go_enter Tryz.func180, Tryz.ntmps180
  go_wp2_with (go_at_call 186; refine (Tryz.utf8_ValidRune _ _).mono ?_; rintro e w' ⟨rfl, hw⟩; rw [hw, hv])
  go_step3
  go_wp2
  go_loopg [9, 10] 1 (fun _ x9 _ wx => x9 = .int .i64 3 ∧ wx = w)
  case atStart => exact ⟨rfl, rfl⟩
  case round =>
    obtain ⟨rfl, rfl⟩ := hrel
    go_wp2
    go_step3
    go_wp2
    go_quiet (fail)
    go_wp2
    have hwr : IntKind.i64.wrap 4 = 4 := by decide
    go_quiet (exact (hIB2 _).mono fun e w' h => ⟨h.1, _, h.2⟩)
    go_wp2
    simp only [Exit.noGoto_ret, Exit.inBlock, Exit.then]
    go_ret
    exact ⟨rfl, below_drewNg _ _⟩

theorem Zfc (r : Int) (w : World) (h0 : 128 ≤ r) : Calls Tryz.prog 180 #[.string dots, .int .i32 r] w fun e w' => e = .returned (.int .i64 (-1)) ∧ Below w.heap.size w w' := by
  by_cases h1 : r = 65533
  · subst h1; exact Zdz w
  cases hv : Lib.validRune r with
  | false => exact (Zch r w h0 h1 hv).mono fun e w' h => ⟨h.1, h.2 ▸ Below.refl _ _⟩
  | true =>
    obtain ⟨n, hn, hk, c, hc, hc1⟩ := ZnT r h0 hv
    rcases hk with rfl | rfl | rfl
    · exact ZdV r w h0 h1 hv _ rfl hn c hc hc1
    · exact ZdU r w h0 h1 hv _ rfl hn c hc hc1
    · exact ZdT r w h0 h1 hv _ rfl hn c hc hc1
set_option maxHeartbeats 1000000 in
set_option maxRecDepth 1000000 in
theorem Zcx (r : Int) (w : World) (h0 : 128 ≤ r) : Calls Tryz.prog 170 #[.string dots, .int .i32 r] w fun e w' => e = .returned (.bool false) ∧ Below w.heap.size w w' := by
  obtain ⟨s, hs⟩ : ∃ s, dots = s := ⟨_, rfl⟩
  have hI := Zfc r w h0
  rw [hs] at hI ⊢
  clear hs
  go_enter Tryz.func170, Tryz.ntmps170
  go_wp2_with (go_at_call 180; refine hI.mono ?_; rintro e w' ⟨rfl, hb⟩)
  go_ret
  exact ⟨rfl, hb⟩
def ZjL (x : Nat) : Bool := !(((decide (97 ≤ x ∧ x ≤ 122) || decide (65 ≤ x ∧ x ≤ 90)) || decide (48 ≤ x ∧ x ≤ 57)) || (decide (x < 128) && dots.data.toList.contains x.toUInt8))
set_option maxHeartbeats 4000000 in
set_option maxRecDepth 1000000 in
theorem Zjk (x : Nat) (w : World) : Calls Tryz.prog 169 #[.int .i32 (x : Int)] w fun e w' => e = .returned (.bool (ZjL x)) ∧ Below w.heap.size w w' := by
  have hC : ∃ b, (x < 128 → b = dots.data.toList.contains x.toUInt8) ∧ (128 ≤ x → b = false) ∧ ∀ w, Calls Tryz.prog 170 #[.string ⟨#[45, 95, 46, 63]⟩, .int .i32 (x : Int)] w fun e w' => e = .returned (.bool b) ∧ Below w.heap.size w w' := by
    by_cases h : x < 128
    · refine ⟨dots.data.toList.contains x.toUInt8, fun _ => rfl, fun h' => by omega, fun w => ?_⟩
      have := Tryz.strings_ContainsRune_ascii dots (x : Int) w (by omega) (by omega)
      rw [show ((x : Int)).toNat.toUInt8 = x.toUInt8 by simp, ← Lib.contains_iff_indexByte] at this
      exact this.mono fun e w' h => ⟨h.1, h.2 ▸ Below.refl _ _⟩
    · exact ⟨false, fun h' => absurd h' h, fun _ => rfl, fun w => Zcx x w (by omega)⟩
  obtain ⟨b, hb1, hb2, hC⟩ := hC
  have hspec : ZjL x = !(((decide (97 ≤ x ∧ x ≤ 122) || decide (65 ≤ x ∧ x ≤ 90)) || decide (48 ≤ x ∧ x ≤ 57)) || b) := by
    unfold ZjL
    by_cases h : x < 128
    · rw [hb1 h]; simp [h]
    · rw [hb2 (by omega)]; simp [h]
  rw [hspec]
  clear hspec hb1 hb2
  have HC := hC w
  clear hC
  go_enter Tryz.func169, Tryz.ntmps169
  by_cases c1 : 97 ≤ x <;> by_cases c2 : x ≤ 122 <;> by_cases c3 : 65 ≤ x <;> by_cases c4 : x ≤ 90 <;> by_cases c5 : 48 ≤ x <;> by_cases c6 : x ≤ 57
  all_goals first | (exfalso; omega) | skip
  all_goals
    go_wp2_with (go_at_call 170; refine HC.mono ?_; rintro e w' ⟨rfl, hb⟩)
    go_ret
    exact ⟨by first | (simp [c1, c2, c3, c4, c5, c6]; done) | (simp [c1, c2, c3, c4, c5, c6]; omega), by first | exact hb | exact Below.refl _ _⟩
end Go.Proofs.YtgifeodnngodiaaGreatDoor
namespace Go.Proofs.YtgifeodnngodiaaGreatDoor

abbrev bt (s : ByteArray) (k : Nat) : UInt8 := ge s.data.toList k
theorem ZaI (s : ByteArray) : s.data.toList.length = s.size := by simp
def Zd5 (c : UInt8) : Bool := (decide ((33 : Int) ≤ (c.toNat : Int))) && (decide ((c.toNat : Int) ≤ (126 : Int)))
def Zr1 (c : UInt8) : Bool := ((((!(((decide ((97 : Int) ≤ (c.toNat : Int))) && (decide ((c.toNat : Int) ≤ (122 : Int)))) || ((decide ((65 : Int) ≤ (c.toNat : Int))) && (decide ((c.toNat : Int) ≤ (90 : Int)))))) && ((decide ((c.toNat : Int) < (48 : Int))) || (decide ((57 : Int) < (c.toNat : Int))))) && (!decide ((c.toNat : Int) = (45 : Int)))) && (!decide ((c.toNat : Int) = (95 : Int)))) && (!decide ((c.toNat : Int) = (46 : Int)))
def wordB (s : ByteArray) : Bool := s.data.toList.all Zd5 && !decide (s = ⟨#[]⟩)
def ZjK (s : ByteArray) : Bool := s.data.toList.all (fun c => !decide ((c.toNat : Int) = 36)) && (wordB s && decide ((s.size : Int) ≤ 60))
def Zcc (s : ByteArray) : Bool := s.data.toList.all (fun c => !Zr1 c) && (!decide (s = ⟨#[]⟩) && decide ((s.size : Int) ≤ 60))

theorem all_ge {α : Type} [Inhabited α] {p : α → Bool} {xs : List α} (h : ∀ j, j < xs.length → p (ge xs j) = true) : xs.all p = true := by
  rw [List.all_eq_true]
  intro x hx
  obtain ⟨k, hk, rfl⟩ := XC hx
  exact h k hk
theorem Zd8 {α : Type} [Inhabited α] {p : α → Bool} {xs : List α} {k : Nat} (hk : k < xs.length) (h : p (ge xs k) = false) : xs.all p = false := by
  rw [List.all_eq_false]
  exact ⟨ge xs k, Zc hk, by simp [h]⟩
theorem Zmi {p : UInt8 → Bool} {s : ByteArray} (h : ∀ j, j < s.size → p (bt s j) = true) : s.data.toList.all p = true := all_ge fun j hj => h j (by rwa [ZaI] at hj)
theorem Zb8 {p : UInt8 → Bool} {s : ByteArray} {k : Nat} (hk : k < s.size) (h : p (bt s k) = false) : s.data.toList.all p = false := Zd8 (by rwa [ZaI]) h

theorem Z4 {p : Nat → Prop} {k : Nat} (h : ∀ j, j < k → p j) (hk : p k) : ∀ j, j < k + 1 → p j := fun j hj => by
  by_cases e : j = k
  · subst e; exact hk
  · exact h j (by omega)

def Zep (d : Db) (s : ByteArray) : Bool := decide (s ∈ d.consts) || decide (s ∈ d.vars)

def badP (s : ByteArray) (k : Nat) : Bool := (!decide (((ge s.data.toList k).toNat : Int) = (63 : Int))) && (!Zcc (s.extract k (k + 1)))
def XL (s : ByteArray) : Bool := (decide (s = ⟨#[40]⟩) || decide (s = ⟨#[41]⟩)) || ((List.range s.size).all (fun k => !badP s k) && !decide (s = ⟨#[]⟩))
def ofB (h : Hy) (vs : List ByteArray) : Bool := (h.floating && decide ((h.text.length : Int) = (2 : Int))) && decide (ge h.text 1 ∈ vs)
def ZlA (d : Db) (l : List ByteArray) : Bool := decide (ge l 0 ∈ d.consts) && (List.range l.length).all (fun j => decide (j = 0) || Zep d (ge l j))
def Zbl (d : Db) (l : List ByteArray) : Int := if ZlA d l then 0 else 12
theorem Zq6 {d : Db} {l : List ByteArray} (h : ¬ ge l 0 ∈ d.consts) : Zbl d l = 12 := by simp [Zbl, ZlA, h]
theorem ZnR {d : Db} {l : List ByteArray} {j : Nat} (h0 : 0 < j) (hj : j < l.length) (h : Zep d (ge l j) = false) : Zbl d l = 12 := by
  have : (List.range l.length).all (fun j => decide (j = 0) || Zep d (ge l j)) = false := by
    rw [List.all_eq_false]
    exact ⟨j, by simpa using hj, by simp [h, Nat.ne_of_gt h0]⟩
  simp [Zbl, ZlA, this]
theorem ZnQ {d : Db} {l : List ByteArray} (h0 : ge l 0 ∈ d.consts) (h : ∀ j, 0 < j → j < l.length → Zep d (ge l j) = true) : Zbl d l = 0 := by
  have : (List.range l.length).all (fun j => decide (j = 0) || Zep d (ge l j)) = true := by
    rw [List.all_eq_true]
    intro k hk
    rcases Nat.eq_zero_or_pos k with h | h'
    · simp [h]
    · simp [h k h' (by simpa using hk)]
  simp [Zbl, ZlA, h0, this]
def ZeS : List ByteArray → List ByteArray → Nat
  | x :: xs, y :: ys => if x = y then ZeS xs ys + 1 else 0
  | _, _ => 0
theorem ZlO : ∀ (xs ys : List ByteArray) (n : Nat), n ≤ xs.length → n ≤ ys.length → (∀ j, j < n → ge xs j = ge ys j) → ¬ (n < xs.length ∧ n < ys.length ∧ ge xs n = ge ys n) → n = ZeS xs ys
  | [], ys, n, h1, _, _, _ => by simp at h1; simp [ZeS, h1]
  | x :: xs, [], n, _, h2, _, _ => by simp at h2; simp [ZeS, h2]
  | x :: xs, y :: ys, n, h1, h2, h3, h4 => by
    simp only [ZeS]
    by_cases e : x = y
    · rw [if_pos e]
      obtain ⟨m, rfl⟩ : ∃ m, n = m + 1 := by
        cases n with
        | zero => exact absurd ⟨by simp, by simp, by simpa [ge] using e⟩ h4
        | succ m => exact ⟨m, rfl⟩
      rw [← ZlO xs ys m (by simpa using h1) (by simpa using h2) (fun j hj => by simpa [ge] using h3 (j + 1) (by omega)) (fun ⟨a, b, c⟩ => h4 ⟨by simpa using a, by simpa using b, by simpa [ge] using c⟩)]
    · rw [if_neg e]
      cases n with
      | zero => rfl
      | succ m => exact absurd (by simpa [ge] using h3 0 (by omega)) e
def inV (vs : List ByteArray) (p : Pr) : Bool := decide (p.a ∈ vs) && decide (p.b ∈ vs)
theorem YW {α : Type} [Inhabited α] {p : α → Bool} {xs : List α} {k : Nat} (h : k < xs.length) : (xs.take (k + 1)).filter p = (xs.take k).filter p ++ (if p (ge xs k) then [ge xs k] else []) := by
  rw [ZU h, List.filter_append]
  by_cases hp : p (ge xs k) = true <;> simp [hp]
theorem ZL {α : Type} {xs : List α} {k : Nat} (h : xs.length ≤ k) : xs.take k = xs := List.take_of_length_le h
def Za0 (vs : List ByteArray) (ws : List ByteArray) : List ByteArray := ws.foldl (fun out s => if decide (s ∈ vs) && !decide (s ∈ out) then out ++ [s] else out) []
theorem Zc4 (vs ws : List ByteArray) (s : ByteArray) : Za0 vs (ws ++ [s]) = if decide (s ∈ vs) && !decide (s ∈ Za0 vs ws) then Za0 vs ws ++ [s] else Za0 vs ws := by simp [Za0]
theorem Zk1 (vs ws : List ByteArray) : (Za0 vs ws).Nodup ∧ (∀ x, x ∈ Za0 vs ws ↔ x ∈ ws ∧ x ∈ vs) := by
  have key : ∀ (r pre : List ByteArray), (Za0 vs pre).Nodup ∧ (∀ x, x ∈ Za0 vs pre ↔ x ∈ pre ∧ x ∈ vs) → (Za0 vs (pre ++ r)).Nodup ∧ (∀ x, x ∈ Za0 vs (pre ++ r) ↔ x ∈ pre ++ r ∧ x ∈ vs) := by
    intro r
    induction r with
    | nil => intro pre h; simpa using h
    | cons s r ih =>
      intro pre h
      have := ih (pre ++ [s]) (by
        rw [Zc4]
        obtain ⟨h1, h2⟩ := h
        by_cases hs : s ∈ vs
        · by_cases ho : s ∈ Za0 vs pre
          · simp only [hs, ho, decide_true, Bool.not_true, Bool.and_false, Bool.false_eq_true, if_false]
            refine ⟨h1, fun x => ?_⟩
            rw [h2]
            have := (h2 s).1 ho
            grind
          · simp only [hs, ho, decide_true, decide_false, Bool.not_false, Bool.and_self, if_true]
            refine ⟨?_, fun x => ?_⟩
            · rw [List.nodup_append]
              exact ⟨h1, by simp, fun a ha b hb => by simp at hb; subst hb; intro e; subst e; exact ho ha⟩
            · have := h2 x
              grind
        · simp only [hs, decide_false, Bool.false_and, Bool.false_eq_true, if_false]
          refine ⟨h1, fun x => ?_⟩
          have := h2 x
          grind)
      simpa using this
  simpa using key ws [] ⟨by simp [Za0], by simp [Za0]⟩
theorem ZbJ : ∀ {xs ys : List ByteArray}, xs.Nodup → (∀ x ∈ xs, x ∈ ys) → xs.length ≤ ys.length
  | [], _, _, _ => by simp
  | x :: xs, ys, h, hs => by
    have h1 := List.nodup_cons.1 h
    have h2 := ZbJ (xs := xs) (ys := ys.erase x) h1.2 fun z hz => by
      have hne : z ≠ x := fun e => h1.1 (e ▸ hz)
      exact (List.mem_erase_of_ne hne).2 (hs z (by simp [hz]))
    have h3 := List.length_erase_of_mem (hs x (by simp))
    have h4 : 0 < ys.length := List.length_pos_of_mem (hs x (by simp))
    simp only [List.length_cons]
    omega
def X8 (hs : List Hy) : List Hy := hs.filter fun h => !h.floating
def hysF (fs : List Fr) : List Hy := fs.flatMap fun f => f.hyps ++ f.dummies
theorem Zad {α β : Type} [Inhabited α] {f : α → β} {xs : List α} {k : Nat} (h : k < xs.length) : (xs.take (k + 1)).map f = (xs.take k).map f ++ [f (ge xs k)] := by rw [ZU h, List.map_append]; rfl

end Go.Proofs.YtgifeodnngodiaaGreatDoor
namespace Go.Proofs.YtgifeodnngodiaaGreatDoor
open Go.RowKit Go.Shelf Go.Lib

theorem ZiI {x : Nat} (h : 128 ≤ x) : ZjL x = true := by
  simp [ZjL, show ¬ x < 128 by omega, show ¬ x ≤ 122 by omega, show ¬ x ≤ 90 by omega, show ¬ x ≤ 57 by omega]
def ZoQ (c : UInt8) : Bool := (!decide ((c.toNat : Int) = (63 : Int))) && Zr1 c
theorem ZoP : ∀ n : Fin 256, ZjL (UInt8.ofNat n).toNat = ZoQ (UInt8.ofNat n) := by decide +kernel
theorem Zgv (c : UInt8) : ZjL c.toNat = ZoQ c := by
  have := ZoP ⟨c.toNat, c.toNat_lt⟩
  simpa using this
theorem ZnF {s : ByteArray} {k : Nat} (hk : k < s.size) : Zcc (s.extract k (k + 1)) = !Zr1 (bt s k) := by
  have hl : (s.extract k (k + 1)).data.toList = [bt s k] := by
    rw [ByteArray.data_extract, Array.toList_extract]
    have h1 : k < s.data.toList.length := by rw [ZaI]; exact hk
    rw [List.extract_eq_take_drop, show k + 1 - k = 1 by omega, List.drop_eq_getElem_cons h1, List.take_succ_cons, List.take_zero, bt, YZ h1]
  have hz : (s.extract k (k + 1)).size = 1 := by rw [← ZaI, hl]; rfl
  have hne : ¬ s.extract k (k + 1) = ⟨#[]⟩ := fun e => by rw [e] at hz; exact absurd hz (by decide)
  unfold Zcc
  rw [hl, hz]
  simp [hne]
theorem Zgw {s : ByteArray} {k : Nat} (hk : k < s.size) : badP s k = ZoQ (bt s k) := by
  rw [badP, ZnF hk, Bool.not_not, ZoQ]
theorem ZpC {s : ByteArray} {k : Nat} (hk : k < s.size) : s[k]'hk = bt s k := by
  have h1 : k < s.data.toList.length := by rw [ZaI]; exact hk
  rw [bt, YZ h1]
  rfl
theorem ZjC (s : ByteArray) (k : Nat) (hk : k < s.size) (h : 128 ≤ (s[k]'hk).toNat) : 128 ≤ (Utf8.decode s k).1 := by
  have h0 : (s.get! (k + 0)).toNat = (s[k]'hk).toNat := by
    rw [show s.get! (k + 0) = s[k]'hk by show s.get! k = _; simp [ByteArray.get!, getElem!_pos, hk]; rfl]
  unfold Utf8.decode
  simp only [Utf8.runeError]
  rw [if_neg (by omega)]
  repeat' split
  all_goals first | (simp; done) | (simp_all; done) | (simp_all; omega)
theorem Zdn {s : ByteArray} {l : Array UInt8} : decide (s = ⟨l⟩) = decide (s.toList = l.toList) := by
  rw [Bool.eq_iff_iff, decide_eq_true_eq, decide_eq_true_eq, ByteArray.toList_eq]
  exact ⟨fun h => by rw [h], fun h => ByteArray.ext (Array.toList_inj.1 h)⟩
theorem Zf4 (s : ByteArray) : ∀ (f pos : Nat), s.size ≤ pos + f → (0 ≤ Lib.idxFuncFrom ZjL true s f pos ↔ ∃ k, pos ≤ k ∧ k < s.size ∧ ZoQ (bt s k) = true)
  | 0, pos, h => by
    simp only [Lib.idxFuncFrom]
    constructor
    · intro h; omega
    · rintro ⟨k, h1, h2, _⟩; omega
  | f + 1, pos, h => by
    simp only [Lib.idxFuncFrom]
    by_cases hp : pos < s.size
    · rw [if_pos hp]
      by_cases ha : (s[pos]'hp).toNat < 128
      · rw [decode_ascii s pos hp ha]
        have e : ZjL (s[pos]'hp).toNat = ZoQ (bt s pos) := by rw [Zgv, ZpC hp]
        simp only [e]
        by_cases hb : ZoQ (bt s pos) = true
        · rw [if_pos hb]
          exact ⟨fun _ => ⟨pos, Nat.le_refl _, hp, hb⟩, fun _ => Int.natCast_nonneg _⟩
        · rw [if_neg hb, Zf4 s f (pos + 1) (by omega)]
          constructor
          · rintro ⟨k, h1, h2, h3⟩; exact ⟨k, by omega, h2, h3⟩
          · rintro ⟨k, h1, h2, h3⟩
            refine ⟨k, ?_, h2, h3⟩
            by_cases e : k = pos
            · subst e; exact absurd h3 hb
            · omega
      · have e : ZoQ (bt s pos) = true := by
          rw [← Zgv, ← ZpC hp]; exact ZiI (by omega)
        rw [if_pos (ZiI (ZjC s pos hp (by omega)))]
        exact ⟨fun _ => ⟨pos, Nat.le_refl _, hp, e⟩, fun _ => Int.natCast_nonneg _⟩
    · rw [if_neg hp]
      constructor
      · intro h; omega
      · rintro ⟨k, h1, h2, _⟩; omega
theorem Zlp (s : ByteArray) : (!decide (0 ≤ Lib.idxFunc ZjL true s)) = (List.range s.size).all fun k => !badP s k := by
  have := Zf4 s s.size 0 (by omega)
  rw [← Lib.idxFunc] at this
  rw [Bool.eq_iff_iff, Bool.not_eq_true', decide_eq_false_iff_not, this, List.all_eq_true]
  constructor
  · intro h k hk
    have hk' : k < s.size := by simpa using hk
    rw [Zgw hk']
    cases hb : ZoQ (bt s k) with
    | false => rfl
    | true => exact absurd ⟨k, Nat.zero_le _, hk', hb⟩ h
  · rintro h ⟨k, _, h2, h3⟩
    have := h k (by simpa using h2)
    rw [Zgw h2, h3] at this
    exact absurd this (by decide)
set_option maxHeartbeats 2000000 in
set_option maxRecDepth 1000000 in
theorem Zjj (s : ByteArray) (w : World) : Calls Tryz.prog 163 #[.string s] w fun e w' => e = .returned (.bool (XL s)) ∧ Below w.heap.size w w' := by
  have hF := Tryz.strings_ContainsFunc_grows 169 #[] (Zu Tryz.func169 rfl rfl) ZjL s w fun W x _ _ => Zjk x W
  obtain ⟨b, hb⟩ : ∃ b, decide (0 ≤ Lib.idxFunc ZjL true s) = b := ⟨_, rfl⟩
  have hspec : XL s = ((decide (s.toList = [40]) || decide (s.toList = [41])) || (!b && !decide (s.toList = []))) := by
    rw [XL, ← Zlp, hb, Zdn, Zdn, Zdn]
  rw [hb] at hF
  rw [hspec]
  clear hspec hb
  go_enter Tryz.func163, Tryz.ntmps163
  go_wp2_with (go_at_call 168; refine hF.mono ?_; rintro e w' ⟨rfl, hb⟩)
  all_goals
    go_ret
    exact ⟨by simp_all, by first | exact hb | exact Below.refl _ _⟩
end Go.Proofs.YtgifeodnngodiaaGreatDoor
namespace Go.Proofs.YtgifeodnngodiaaGreatDoor

theorem Ze9 {α : Type} [Inhabited α] {p : α → Bool} {xs : List α} {k : Nat} (h : k < xs.length) : (xs.take (k + 1)).any p = ((xs.take k).any p || p (ge xs k)) := by
  rw [ZU h, List.any_append]; simp
theorem ZbV {α : Type} [Inhabited α] {p : α → Bool} {xs : List α} {k : Nat} (h : k < xs.length) : (xs.take (k + 1)).all p = ((xs.take k).all p && p (ge xs k)) := by
  rw [ZU h, List.all_append]; simp
def frL (d : Db) (n : Nat) (s : ByteArray) : Bool := (d.frames.take n).any fun f => decide (f.label = s)
def hyL (d : Db) (n : Nat) (s : ByteArray) : Bool := (d.frames.take n).any fun f => (f.hyps ++ f.dummies).any fun h => decide (h.label = s)
def oth (d : Db) (k : Nat) : List Hy := hysF (d.frames.take k)
theorem Zh6 (d : Db) : oth d 0 = [] := rfl
theorem ZcF {d : Db} {k : Nat} (h : k < d.frames.length) : oth d (k + 1) = oth d k ++ ((ge d.frames k).hyps ++ (ge d.frames k).dummies) := by
  simp [oth, hysF, ZU h]

def QO (y : Hy) (dm : Bool) : Bool := ((!Zcc y.label || (dm && !y.floating)) || (y.floating && !decide (((y.text.length : Nat) : Int) = 2))) || (!y.floating && (decide (((y.text.length : Nat) : Int) = 0) || decide (200 < ((y.text.length : Nat) : Int))))
theorem Ys {y : Hy} {dm : Bool} (h : QO y dm = false) (hf : y.floating = true) : y.text.length = 2 := by
  simp [QO, hf] at h; omega
theorem Zlu {y : Hy} {dm : Bool} (h : QO y dm = false) : 0 < y.text.length := by
  cases hf : y.floating with
  | true => have := Ys h hf; omega
  | false => simp [QO, hf] at h; exact List.length_pos_iff.2 (by grind)
def Zf8 (d : Db) (y : Hy) : Bool := y.floating && (!decide (ge y.text 0 ∈ d.consts) || !decide (ge y.text 1 ∈ d.vars))
def Zpv (y x : Hy) : Bool := decide (x.label = y.label)
def hOf (y x : Hy) : Bool := ofB x (y.text.drop 1)
def Zq2 (y x : Hy) : Bool := ofB x (y.text.drop 1) && !decide (ge x.text 0 = ge y.text 0)
def Zq3 (y x : Hy) : Bool := decide (x.label = y.label) && !Zpt x y
def ZnL (d : Db) (k : Nat) (y : Hy) (bs : List Hy) (dm : Bool) : Int :=
  if QO y dm then 2 else if frL d (k + 1) y.label || Zep d y.label then 6 else if bs.any (Zpv y) then 6
  else if Zf8 d y then 12 else if !y.floating && !decide (Zbl d y.text = 0) then Zbl d y.text
  else if y.floating && (oth d k ++ bs).any (Zq2 y) then 11 else if y.floating && bs.any (hOf y) then 6
  else if (oth d k).any (Zq3 y) then 6 else 0

def Xi (n : Nat) (g : Nat → Int) : Int := match (List.range n).find? (fun i => !decide (g i = 0)) with | some i => g i | none => 0
theorem Q4 {n : Nat} {g : Nat → Int} (h : ∀ j, j < n → g j = 0) : Xi n g = 0 := by
  have : (List.range n).find? (fun i => !decide (g i = 0)) = none := by
    rw [List.find?_eq_none]
    intro x hx
    simp [h x (by simpa using hx)]
  rw [Xi, this]
theorem Qm {n k : Nat} {g : Nat → Int} (hk : k < n) (h : ∀ j, j < k → g j = 0) (hg : g k ≠ 0) : Xi n g = g k := by
  have : (List.range n).find? (fun i => !decide (g i = 0)) = some k := by
    rw [List.find?_eq_some_iff_getElem]
    refine ⟨by simp [hg], k, by simpa using hk, by simp, fun j hj => ?_⟩
    simp [h j hj]
  rw [Xi, this]
theorem Ql {n : Nat} {g : Nat → Int} (h : Xi n g = 0) : ∀ j, j < n → g j = 0 := by
  intro j hj
  rw [Xi] at h
  split at h
  · rename_i i hi
    have := List.find?_some hi
    simp [h] at this
  · rename_i hi
    rw [List.find?_eq_none] at hi
    simpa using hi j (by simpa using hj)

def ltP (x y : Pr) : Bool := Op.bytesLess x.a.toList y.a.toList || (decide (x.a = y.a) && Op.bytesLess x.b.toList y.b.toList)
def Zjb : List Pr → Pr → List Pr
  | [], p => [p]
  | x :: xs, p => if ltP x p then x :: Zjb xs p else if Zmo x p then x :: xs else p :: x :: xs
def ZnI (w z : List Pr) : List Pr := (w ++ z).foldl Zjb []
def Zb9 (d : Db) (f : Fr) : List ByteArray := Za0 d.vars (f.text :: (X8 f.hyps).map Hy.text).flatten
def Zfj (hs : List Hy) : List ByteArray := (hs.filter fun h => h.floating).map fun h => ge h.text 1
def hIn (m : List ByteArray) (h : Hy) : Bool := !h.floating || ofB h m
def badW (d : Db) (p : Pr) : Bool := (!Op.bytesLess p.a.toList p.b.toList || !decide (p.a ∈ d.vars)) || !decide (p.b ∈ d.vars)
def ZrU (d : Db) (f : Fr) : Bool :=
  ((f.hyps.all (hIn (Zb9 d f)) && (Zb9 d f).all fun s => decide (s ∈ Zfj f.hyps)) && !f.wide.any (badW d)) && (decide (f.wide = ZnI f.wide []) && decide (f.apart = f.wide.filter (inV (Zb9 d f))))

def befL (d : Db) (k : Nat) : List ByteArray := if k = 0 then [] else (X8 (ge d.frames (k - 1)).hyps).map Hy.label
def Zpp (d : Db) (k i : Nat) : Int := ZnL d k (ge ((ge d.frames k).hyps ++ (ge d.frames k).dummies) i) (((ge d.frames k).hyps ++ (ge d.frames k).dummies).take i) (decide ((((ge d.frames k).hyps.length : Nat) : Int) ≤ ((i : Nat) : Int)))
def Zpq (d : Db) (k : Nat) : Int := Xi ((ge d.frames k).hyps ++ (ge d.frames k).dummies).length (Zpp d k)
theorem ZaK {d : Db} {k : Nat} {y : Hy} {bs : List Hy} {dm : Bool} (h : ZnL d k y bs dm = 0) : QO y dm = false := by
  cases hf : QO y dm with
  | false => rfl
  | true => simp [ZnL, hf] at h
theorem ZlN : ∀ (xs ys : List ByteArray), ZeS xs ys ≤ ys.length
  | [], _ => by simp [ZeS]
  | _ :: _, [] => by simp [ZeS]
  | x :: xs, y :: ys => by
    simp only [ZeS, List.length_cons]
    have := ZlN xs ys
    split <;> omega
def ordB (d : Db) (k : Nat) (f : Fr) : Bool := (((X8 f.hyps).map Hy.label).drop (ZeS (befL d k) ((X8 f.hyps).map Hy.label))).any (hyL d k)
theorem ZqM {p : Prop} [Decidable p] (h : (!decide p) = true) : ¬ p := by simpa using h
theorem ZqN {p : Prop} [Decidable p] (h : (!decide p) = false) : p := by simpa using h
def ZrZ (d : Db) (k : Nat) (f : Fr) : Int :=
  if !Zcc f.label then 2 else if (frL d k f.label || hyL d k f.label) || Zep d f.label then 6
  else if decide (40 < ((f.hyps.length : Nat) : Int)) || decide (40 < ((f.dummies.length : Nat) : Int)) then 4
  else if !decide (Zpq d k = 0) then Zpq d k
  else if decide (((f.text.length : Nat) : Int) = 0) || decide (200 < ((f.text.length : Nat) : Int)) then 2
  else if !decide (Zbl d f.text = 0) then Zbl d f.text
  else if !ZrU d f then 70
  else if (decide (0 < ((f.proof.length : Nat) : Int)) && !f.thm) || decide (8000 < ((f.proof.length : Nat) : Int)) then 2
  else if !f.proof.all XL then 2
  else if ordB d k f then 7 else 0
def frE (d : Db) (k : Nat) : Int := ZrZ d k (ge d.frames k)
theorem Zin {d : Db} {k : Nat} (h : frE d k = 0) : (ge d.frames k).hyps.length ≤ 40 ∧ (ge d.frames k).dummies.length ≤ 40 := by
  rw [frE, ZrZ] at h
  split at h
  · simp at h
  split at h
  · simp at h
  split at h
  · simp at h
  rename_i h0
  simp at h0
  omega
def Zit (d : Db) (i : Nat) : Int := if !ZjK (ge d.consts i) then 2 else if decide (ge d.consts i ∈ d.consts.take i) then 6 else 0
def ZjJ (d : Db) (i : Nat) : Int := if !ZjK (ge d.vars i) then 2 else if decide (ge d.vars i ∈ d.consts) || decide (ge d.vars i ∈ d.vars.take i) then 6 else 0
def ZdG (d : Db) : Int := if !decide (Xi d.consts.length (Zit d) = 0) then Xi d.consts.length (Zit d) else Xi d.vars.length (ZjJ d)
def ZdP (d : Db) : Int :=
  if (decide (400 < ((d.frames.length : Nat) : Int)) || decide (8000 < ((d.consts.length : Nat) : Int))) || decide (8000 < ((d.vars.length : Nat) : Int)) then 8
  else if !decide (ZdG d = 0) then ZdG d else Xi d.frames.length (frE d)

end Go.Proofs.YtgifeodnngodiaaGreatDoor
