/-
  CONTRACTS: strings.IndexRune at a rune beyond ASCII in a text of ASCII bytes.
  WHAT A RIGHT DATABASE IS, IN PLAIN LEAN: labels, symbols, formulas, hypotheses, frames.
  CONTRACTS: whether a word can stand in a proof (layout.isProof), over runes; the plain law: over bytes.
  WHAT A RIGHT DATABASE IS, IN PLAIN LEAN: the errors of hypotheses, of frames, of a database.
  WHAT USES WHAT, IN PLAIN LEAN.
-/
import Derived.Test.YtnpgmdffjemnbaaGreatDoorJD
import Derived.Test.YtnpgmdffjemnbaaGreatDoorJM
import Derived.Laws.Runes
import Derived.Laws.RangeString
import Derived.Laws.Strings3
import Derived.Deep.LoopGhost
import Derived.Lib.IndexAny
import Derived.Deep.QuietTactic
import Derived.WalkMore
import Derived.Test.YtnpgmdffjemnbaaGreatDoorJH
namespace Go.Proofs.YtnpgmdffjemnbaaGreatDoor
open Go.RowKit Go.Shelf Go.Lib

def dots : ByteArray := ⟨#[45, 95, 46, 63]⟩
theorem dots_ascii : ∀ b ∈ dots.data.toList, b.toNat < 128 := by decide
theorem dots_at (i : Nat) (h : i < dots.size) : (dots[i]'h).toNat < 128 := dots_ascii _ (Array.getElem_mem_toList (xs := dots.data) h)

set_option maxHeartbeats 2000000 in
set_option maxRecDepth 1000000 in
theorem IndexRune_error (w : World) : Calls Tryz.prog 186 #[.string dots, .int .i32 65533] w fun e w' => e = .returned (.int .i64 (-1)) ∧ Below w.heap.size w w' := by
  obtain ⟨s, hs⟩ : ∃ s, dots = s := ⟨_, rfl⟩
  have HA : Hid (∀ (i : Nat) (h : i < s.size), (s[i]'h).toNat < 128) := by rw [← hs]; exact dots_at
  rw [hs]
  clear hs
  go_enter Tryz.func186, Tryz.ntmps186
  go_wp2
  go_loopg [5, 6] s.size (fun g _ _ wx => ∃ i : Nat, i + g = s.size ∧ wx = w.iter s i)
  case atStart => exact ⟨0, by omega, rfl⟩
  case round =>
    obtain ⟨i, hig, rfl⟩ := hrel
    cases gk with
    | zero =>
      obtain rfl : i = s.size := by omega
      have hnx := run_next_end (P := Tryz.prog) w s s.size
      go_wp2
      go_ret
      exact ⟨rfl, (Below.refl _ _).alloc (Nat.le_refl _) _⟩
    | succ g =>
      have hi : i < s.size := by omega
      obtain ⟨x, hx⟩ : ∃ x : UInt8, s[i]'hi = x := ⟨_, rfl⟩
      have hx128 : x.toNat < 128 := by rw [← hx]; exact HA.out i hi
      have hnx := fun ty => run_next_ascii (P := Tryz.prog) w s i ty hi (by rw [hx]; exact hx128)
      rw [hx] at hnx
      clear hx
      have hne : ¬ ((x.toNat : Int) = 65533) := by omega
      go_wp2
      go_roundg g
      case measure => omega
      case rel => exact ⟨i + 1, by omega, rfl⟩

set_option maxHeartbeats 2000000 in
set_option maxRecDepth 1000000 in
theorem IndexRune_invalid (r : Int) (w : World) (h0 : 128 ≤ r) (h1 : ¬ r = 65533) (hv : Lib.validRune r = false) : Calls Tryz.prog 186 #[.string dots, .int .i32 r] w fun e w' => e = .returned (.int .i64 (-1)) ∧ w' = w := by
  obtain ⟨s, hs⟩ : ∃ s, dots = s := ⟨_, rfl⟩
  rw [hs]
  clear hs
  have h2 : ¬ r < 128 := by omega
  have h3 : (0 : Int) ≤ r := by omega
  go_enter Tryz.func186, Tryz.ntmps186
  go_wp2_with (go_at_call 189; refine (Tryz.utf8_ValidRune _ _).mono ?_; rintro e w' ⟨rfl, hw⟩; rw [hw, hv])
  go_ret
  exact ⟨rfl, rfl⟩

theorem idxB_neg {l : List UInt8} {c : UInt8} (hs : ∀ b ∈ l, b.toNat < 128) (hc : 128 ≤ c.toNat) : Lib.indexByte l c < 0 := by
  have := Lib.contains_iff_indexByte l c
  have h2 : l.contains c = false := by
    rw [← Bool.not_eq_true, List.contains_iff_mem]
    intro h
    have := hs c h
    omega
  rw [h2] at this
  have := of_decide_eq_false this.symm
  omega

theorem enc_last (r : Int) (h0 : 128 ≤ r) (hv : Lib.validRune r = true) : ∃ n : Nat, (Utf8.encode r).size = n + 1 ∧ (n = 1 ∨ n = 2 ∨ n = 3) ∧ ∃ c : UInt8, (∀ h : n < (Utf8.encode r).size, (Utf8.encode r)[n]'h = c) ∧ 128 ≤ c.toNat := by
  obtain ⟨e1, e2, e3⟩ := encode_facts r (by rw [validRune_eq]; exact hv) h0
  exact ⟨(Utf8.encode r).size - 1, by omega, by omega, _, fun _ => rfl, e3 (by omega)⟩

set_option maxHeartbeats 4000000 in
set_option maxRecDepth 1000000 in
theorem IndexRune_enc1 (r : Int) (w : World) (h0 : 128 ≤ r) (h1 : ¬ r = 65533) (hv : Lib.validRune r = true) (t : ByteArray) (ht : Utf8.encode r = t) (hk : t.size = 2) (c : UInt8) (hc : ∀ h : 1 < t.size, t[1]'h = c) (hc1 : 128 ≤ c.toNat) : Calls Tryz.prog 186 #[.string dots, .int .i32 r] w fun e w' => e = .returned (.int .i64 (-1)) ∧ Below w.heap.size w w' := by
  obtain ⟨s, hs⟩ : ∃ s, dots = s := ⟨_, rfl⟩
  have hsz : s.size = 4 := by rw [← hs]; rfl
  obtain ⟨x, hx⟩ : ∃ x, s[1]'(by omega) = x := ⟨_, rfl⟩
  have hx1 : x.toNat < 128 := by subst hs; rw [← hx]; exact dots_at 1 (by decide)
  have hIB : ∃ m : Int, m < 0 ∧ ∀ w, Calls Tryz.prog 188 #[.string (s.extract 2 4), .int .u8 (c.toNat : Int)] w fun e w' => e = .returned (.int .i64 m) ∧ w' = w := by
    refine ⟨_, idxB_neg (l := (s.extract 2 4).data.toList) (fun b hb => ?_) hc1, fun w => ?_⟩
    · rw [← hs] at hb; exact dots_ascii b (mem_extract hb)
    · have := Tryz.strings_IndexByte (s.extract 2 4) (c.toNat : Int) w
      rwa [show ((c.toNat : Int)).toNat.toUInt8 = c by simp] at this
  obtain ⟨m, hm, hIB⟩ := hIB
  have hcc := hc (by omega)
  rw [hs]
  clear hs hc
  have h2 : ¬ r < 128 := by omega
  have h3 : (0 : Int) ≤ r := by omega
  have hne : ((x.toNat : Int) != (c.toNat : Int)) = true := by simp; omega
  go_enter Tryz.func186, Tryz.ntmps186
  go_wp2_with (go_at_call 189; refine (Tryz.utf8_ValidRune _ _).mono ?_; rintro e w' ⟨rfl, hw⟩; rw [hw, hv])
  go_step3
  go_wp2
  go_loopg [9, 10] 1 (fun _ x9 _ wx => x9 = .int .i64 1 ∧ wx = w)
  case atStart => exact ⟨rfl, rfl⟩
  case round =>
    obtain ⟨rfl, rfl⟩ := hrel
    go_wp2
    go_step3
    go_wp2
    go_quiet (fail)
    go_wp2
    have hwr : IntKind.i64.wrap 2 = 2 := by decide
    go_quiet (exact (hIB _).mono fun e w' h => ⟨h.1, _, h.2⟩)
    go_wp2
    simp only [Exit.noGoto_ret, Exit.inBlock, Exit.then]
    go_ret
    exact ⟨rfl, below_drewNg _ _⟩

set_option maxHeartbeats 4000000 in
set_option maxRecDepth 1000000 in
theorem IndexRune_enc2 (r : Int) (w : World) (h0 : 128 ≤ r) (h1 : ¬ r = 65533) (hv : Lib.validRune r = true) (t : ByteArray) (ht : Utf8.encode r = t) (hk : t.size = 3) (c : UInt8) (hc : ∀ h : 2 < t.size, t[2]'h = c) (hc1 : 128 ≤ c.toNat) : Calls Tryz.prog 186 #[.string dots, .int .i32 r] w fun e w' => e = .returned (.int .i64 (-1)) ∧ Below w.heap.size w w' := by
  obtain ⟨s, hs⟩ : ∃ s, dots = s := ⟨_, rfl⟩
  have hsz : s.size = 4 := by rw [← hs]; rfl
  obtain ⟨x, hx⟩ : ∃ x, s[2]'(by omega) = x := ⟨_, rfl⟩
  have hx1 : x.toNat < 128 := by subst hs; rw [← hx]; exact dots_at 2 (by decide)
  have hIB : ∃ m : Int, m < 0 ∧ ∀ w, Calls Tryz.prog 188 #[.string (s.extract 3 4), .int .u8 (c.toNat : Int)] w fun e w' => e = .returned (.int .i64 m) ∧ w' = w := by
    refine ⟨_, idxB_neg (l := (s.extract 3 4).data.toList) (fun b hb => ?_) hc1, fun w => ?_⟩
    · rw [← hs] at hb; exact dots_ascii b (mem_extract hb)
    · have := Tryz.strings_IndexByte (s.extract 3 4) (c.toNat : Int) w
      rwa [show ((c.toNat : Int)).toNat.toUInt8 = c by simp] at this
  obtain ⟨m, hm, hIB⟩ := hIB
  have hcc := hc (by omega)
  rw [hs]
  clear hs hc
  have h2 : ¬ r < 128 := by omega
  have h3 : (0 : Int) ≤ r := by omega
  have hne : ((x.toNat : Int) != (c.toNat : Int)) = true := by simp; omega
  go_enter Tryz.func186, Tryz.ntmps186
  go_wp2_with (go_at_call 189; refine (Tryz.utf8_ValidRune _ _).mono ?_; rintro e w' ⟨rfl, hw⟩; rw [hw, hv])
  go_step3
  go_wp2
  go_loopg [9, 10] 1 (fun _ x9 _ wx => x9 = .int .i64 2 ∧ wx = w)
  case atStart => exact ⟨rfl, rfl⟩
  case round =>
    obtain ⟨rfl, rfl⟩ := hrel
    go_wp2
    go_step3
    go_wp2
    go_quiet (fail)
    go_wp2
    have hwr : IntKind.i64.wrap 3 = 3 := by decide
    go_quiet (exact (hIB _).mono fun e w' h => ⟨h.1, _, h.2⟩)
    go_wp2
    simp only [Exit.noGoto_ret, Exit.inBlock, Exit.then]
    go_ret
    exact ⟨rfl, below_drewNg _ _⟩

set_option maxHeartbeats 4000000 in
set_option maxRecDepth 1000000 in
theorem IndexRune_enc3 (r : Int) (w : World) (h0 : 128 ≤ r) (h1 : ¬ r = 65533) (hv : Lib.validRune r = true) (t : ByteArray) (ht : Utf8.encode r = t) (hk : t.size = 4) (c : UInt8) (hc : ∀ h : 3 < t.size, t[3]'h = c) (hc1 : 128 ≤ c.toNat) : Calls Tryz.prog 186 #[.string dots, .int .i32 r] w fun e w' => e = .returned (.int .i64 (-1)) ∧ Below w.heap.size w w' := by
  obtain ⟨s, hs⟩ : ∃ s, dots = s := ⟨_, rfl⟩
  have hsz : s.size = 4 := by rw [← hs]; rfl
  obtain ⟨x, hx⟩ : ∃ x, s[3]'(by omega) = x := ⟨_, rfl⟩
  have hx1 : x.toNat < 128 := by subst hs; rw [← hx]; exact dots_at 3 (by decide)
  have hIB : ∃ m : Int, m < 0 ∧ ∀ w, Calls Tryz.prog 188 #[.string (s.extract 4 4), .int .u8 (c.toNat : Int)] w fun e w' => e = .returned (.int .i64 m) ∧ w' = w := by
    refine ⟨_, idxB_neg (l := (s.extract 4 4).data.toList) (fun b hb => ?_) hc1, fun w => ?_⟩
    · rw [← hs] at hb; exact dots_ascii b (mem_extract hb)
    · have := Tryz.strings_IndexByte (s.extract 4 4) (c.toNat : Int) w
      rwa [show ((c.toNat : Int)).toNat.toUInt8 = c by simp] at this
  obtain ⟨m, hm, hIB⟩ := hIB
  have hIB2 := hIB
  rw [show s.extract 4 4 = ByteArray.empty by simp] at hIB2
  have hcc := hc (by omega)
  rw [hs]
  clear hs hc
  have h2 : ¬ r < 128 := by omega
  have h3 : (0 : Int) ≤ r := by omega
  have hne : ((x.toNat : Int) != (c.toNat : Int)) = true := by simp; omega
  go_enter Tryz.func186, Tryz.ntmps186
  go_wp2_with (go_at_call 189; refine (Tryz.utf8_ValidRune _ _).mono ?_; rintro e w' ⟨rfl, hw⟩; rw [hw, hv])
  go_step3
  go_wp2
  go_loopg [9, 10] 1 (fun _ x9 _ wx => x9 = .int .i64 3 ∧ wx = w)
  case atStart => exact ⟨rfl, rfl⟩
  case round =>
    obtain ⟨rfl, rfl⟩ := hrel
    go_wp2
    go_step3
    go_wp2
    go_quiet (fail)
    go_wp2
    have hwr : IntKind.i64.wrap 4 = 4 := by decide
    go_quiet (exact (hIB2 _).mono fun e w' h => ⟨h.1, _, h.2⟩)
    go_wp2
    simp only [Exit.noGoto_ret, Exit.inBlock, Exit.then]
    go_ret
    exact ⟨rfl, below_drewNg _ _⟩

theorem IndexRune_big (r : Int) (w : World) (h0 : 128 ≤ r) : Calls Tryz.prog 186 #[.string dots, .int .i32 r] w fun e w' => e = .returned (.int .i64 (-1)) ∧ Below w.heap.size w w' := by
  by_cases h1 : r = 65533
  · subst h1; exact IndexRune_error w
  cases hv : Lib.validRune r with
  | false => exact (IndexRune_invalid r w h0 h1 hv).mono fun e w' h => ⟨h.1, h.2 ▸ Below.refl _ _⟩
  | true =>
    obtain ⟨n, hn, hk, c, hc, hc1⟩ := enc_last r h0 hv
    rcases hk with rfl | rfl | rfl
    · exact IndexRune_enc1 r w h0 h1 hv _ rfl hn c hc hc1
    · exact IndexRune_enc2 r w h0 h1 hv _ rfl hn c hc hc1
    · exact IndexRune_enc3 r w h0 h1 hv _ rfl hn c hc hc1
set_option maxHeartbeats 1000000 in
set_option maxRecDepth 1000000 in
theorem ContainsRune_big (r : Int) (w : World) (h0 : 128 ≤ r) : Calls Tryz.prog 184 #[.string dots, .int .i32 r] w fun e w' => e = .returned (.bool false) ∧ Below w.heap.size w w' := by
  obtain ⟨s, hs⟩ : ∃ s, dots = s := ⟨_, rfl⟩
  have hI := IndexRune_big r w h0
  rw [hs] at hI ⊢
  clear hs
  go_enter Tryz.func184, Tryz.ntmps184
  go_wp2_with (go_at_call 186; refine hI.mono ?_; rintro e w' ⟨rfl, hb⟩)
  go_ret
  exact ⟨rfl, hb⟩
/-- Whether a rune may not stand in a proof. -/
def badR (x : Nat) : Bool := !(((decide (97 ≤ x ∧ x ≤ 122) || decide (65 ≤ x ∧ x ≤ 90)) || decide (48 ≤ x ∧ x ≤ 57)) || (decide (x < 128) && dots.data.toList.contains x.toUInt8))
set_option maxHeartbeats 4000000 in
set_option maxRecDepth 1000000 in
theorem isProof1_c (x : Nat) (w : World) : Calls Tryz.prog 183 #[.int .i32 (x : Int)] w fun e w' => e = .returned (.bool (badR x)) ∧ Below w.heap.size w w' := by
  have hC : ∃ b, (x < 128 → b = dots.data.toList.contains x.toUInt8) ∧ (128 ≤ x → b = false) ∧ ∀ w, Calls Tryz.prog 184 #[.string ⟨#[45, 95, 46, 63]⟩, .int .i32 (x : Int)] w fun e w' => e = .returned (.bool b) ∧ Below w.heap.size w w' := by
    by_cases h : x < 128
    · refine ⟨dots.data.toList.contains x.toUInt8, fun _ => rfl, fun h' => by omega, fun w => ?_⟩
      have := Tryz.strings_ContainsRune_ascii dots (x : Int) w (by omega) (by omega)
      rw [show ((x : Int)).toNat.toUInt8 = x.toUInt8 by simp, ← Lib.contains_iff_indexByte] at this
      exact this.mono fun e w' h => ⟨h.1, h.2 ▸ Below.refl _ _⟩
    · exact ⟨false, fun h' => absurd h' h, fun _ => rfl, fun w => ContainsRune_big x w (by omega)⟩
  obtain ⟨b, hb1, hb2, hC⟩ := hC
  have hspec : badR x = !(((decide (97 ≤ x ∧ x ≤ 122) || decide (65 ≤ x ∧ x ≤ 90)) || decide (48 ≤ x ∧ x ≤ 57)) || b) := by
    unfold badR
    by_cases h : x < 128
    · rw [hb1 h]; simp [h]
    · rw [hb2 (by omega)]; simp [h]
  rw [hspec]
  clear hspec hb1 hb2
  have HC := hC w
  clear hC
  go_enter Tryz.func183, Tryz.ntmps183
  by_cases c1 : 97 ≤ x <;> by_cases c2 : x ≤ 122 <;> by_cases c3 : 65 ≤ x <;> by_cases c4 : x ≤ 90 <;> by_cases c5 : 48 ≤ x <;> by_cases c6 : x ≤ 57
  all_goals first | (exfalso; omega) | skip
  all_goals
    go_wp2_with (go_at_call 184; refine HC.mono ?_; rintro e w' ⟨rfl, hb⟩)
    go_ret
    exact ⟨by first | (simp [c1, c2, c3, c4, c5, c6]; done) | (simp [c1, c2, c3, c4, c5, c6]; omega), by first | exact hb | exact Below.refl _ _⟩
end Go.Proofs.YtnpgmdffjemnbaaGreatDoor
namespace Go.Proofs.YtnpgmdffjemnbaaGreatDoor

/-- The byte at a place. -/
abbrev bt (s : ByteArray) (k : Nat) : UInt8 := ge s.data.toList k
theorem len_bytes (s : ByteArray) : s.data.toList.length = s.size := by simp
def printB (c : UInt8) : Bool := (decide ((33 : Int) ≤ (c.toNat : Int))) && (decide ((c.toNat : Int) ≤ (126 : Int)))
/-- A byte that may not stand in a label. -/
def badB (c : UInt8) : Bool := ((((!(((decide ((97 : Int) ≤ (c.toNat : Int))) && (decide ((c.toNat : Int) ≤ (122 : Int)))) || ((decide ((65 : Int) ≤ (c.toNat : Int))) && (decide ((c.toNat : Int) ≤ (90 : Int)))))) && ((decide ((c.toNat : Int) < (48 : Int))) || (decide ((57 : Int) < (c.toNat : Int))))) && (!decide ((c.toNat : Int) = (45 : Int)))) && (!decide ((c.toNat : Int) = (95 : Int)))) && (!decide ((c.toNat : Int) = (46 : Int)))
def wordB (s : ByteArray) : Bool := s.data.toList.all printB && !decide (s = ⟨#[]⟩)
def symB (s : ByteArray) : Bool := s.data.toList.all (fun c => !decide ((c.toNat : Int) = 36)) && (wordB s && decide ((s.size : Int) ≤ 60))
def labB (s : ByteArray) : Bool := s.data.toList.all (fun c => !badB c) && (!decide (s = ⟨#[]⟩) && decide ((s.size : Int) ≤ 60))

theorem all_ge {α : Type} [Inhabited α] {p : α → Bool} {xs : List α} (h : ∀ j, j < xs.length → p (ge xs j) = true) : xs.all p = true := by
  rw [List.all_eq_true]
  intro x hx
  obtain ⟨k, hk, rfl⟩ := mem_ge hx
  exact h k hk
theorem not_all_ge {α : Type} [Inhabited α] {p : α → Bool} {xs : List α} {k : Nat} (hk : k < xs.length) (h : p (ge xs k) = false) : xs.all p = false := by
  rw [List.all_eq_false]
  exact ⟨ge xs k, ge_mem hk, by simp [h]⟩
theorem all_bt {p : UInt8 → Bool} {s : ByteArray} (h : ∀ j, j < s.size → p (bt s j) = true) : s.data.toList.all p = true := all_ge fun j hj => h j (by rwa [len_bytes] at hj)
theorem not_all_bt {p : UInt8 → Bool} {s : ByteArray} {k : Nat} (hk : k < s.size) (h : p (bt s k) = false) : s.data.toList.all p = false := not_all_ge (by rwa [len_bytes]) h

theorem step_all {p : Nat → Prop} {k : Nat} (h : ∀ j, j < k → p j) (hk : p k) : ∀ j, j < k + 1 → p j := fun j hj => by
  by_cases e : j = k
  · subst e; exact hk
  · exact h j (by omega)

/-- A symbol of the database. -/
def symD (d : Db) (s : ByteArray) : Bool := decide (s ∈ d.consts) || decide (s ∈ d.vars)

/-- A byte that may not stand in a proof's word. -/
def badP (s : ByteArray) (k : Nat) : Bool := (!decide (((ge s.data.toList k).toNat : Int) = (63 : Int))) && (!labB (s.extract k (k + 1)))
def proofB (s : ByteArray) : Bool := (decide (s = ⟨#[40]⟩) || decide (s = ⟨#[41]⟩)) || ((List.range s.size).all (fun k => !badP s k) && !decide (s = ⟨#[]⟩))
/-- A floating hypothesis of a variable of a list. -/
def ofB (h : Hy) (vs : List ByteArray) : Bool := (h.floating && decide ((h.text.length : Int) = (2 : Int))) && decide (ge h.text 1 ∈ vs)
/-- The error of a formula's symbols. -/
def formB (d : Db) (l : List ByteArray) : Bool := decide (ge l 0 ∈ d.consts) && (List.range l.length).all (fun j => decide (j = 0) || symD d (ge l j))
def formE (d : Db) (l : List ByteArray) : Int := if formB d l then 0 else 12
theorem formE_c {d : Db} {l : List ByteArray} (h : ¬ ge l 0 ∈ d.consts) : formE d l = 12 := by simp [formE, formB, h]
theorem formE_no {d : Db} {l : List ByteArray} {j : Nat} (h0 : 0 < j) (hj : j < l.length) (h : symD d (ge l j) = false) : formE d l = 12 := by
  have : (List.range l.length).all (fun j => decide (j = 0) || symD d (ge l j)) = false := by
    rw [List.all_eq_false]
    exact ⟨j, by simpa using hj, by simp [h, Nat.ne_of_gt h0]⟩
  simp [formE, formB, this]
theorem formE_ok {d : Db} {l : List ByteArray} (h0 : ge l 0 ∈ d.consts) (h : ∀ j, 0 < j → j < l.length → symD d (ge l j) = true) : formE d l = 0 := by
  have : (List.range l.length).all (fun j => decide (j = 0) || symD d (ge l j)) = true := by
    rw [List.all_eq_true]
    intro k hk
    rcases Nat.eq_zero_or_pos k with h | h'
    · simp [h]
    · simp [h k h' (by simpa using hk)]
  simp [formE, formB, h0, this]
/-- The length of the longest common beginning. -/
def comL : List ByteArray → List ByteArray → Nat
  | x :: xs, y :: ys => if x = y then comL xs ys + 1 else 0
  | _, _ => 0
theorem comL_eq : ∀ (xs ys : List ByteArray) (n : Nat), n ≤ xs.length → n ≤ ys.length → (∀ j, j < n → ge xs j = ge ys j) → ¬ (n < xs.length ∧ n < ys.length ∧ ge xs n = ge ys n) → n = comL xs ys
  | [], ys, n, h1, _, _, _ => by simp at h1; simp [comL, h1]
  | x :: xs, [], n, _, h2, _, _ => by simp at h2; simp [comL, h2]
  | x :: xs, y :: ys, n, h1, h2, h3, h4 => by
    simp only [comL]
    by_cases e : x = y
    · rw [if_pos e]
      obtain ⟨m, rfl⟩ : ∃ m, n = m + 1 := by
        cases n with
        | zero => exact absurd ⟨by simp, by simp, by simpa [ge] using e⟩ h4
        | succ m => exact ⟨m, rfl⟩
      rw [← comL_eq xs ys m (by simpa using h1) (by simpa using h2) (fun j hj => by simpa [ge] using h3 (j + 1) (by omega)) (fun ⟨a, b, c⟩ => h4 ⟨by simpa using a, by simpa using b, by simpa [ge] using c⟩)]
    · rw [if_neg e]
      cases n with
      | zero => rfl
      | succ m => exact absurd (by simpa [ge] using h3 0 (by omega)) e
/-- Pairs of two variables of a list. -/
def inV (vs : List ByteArray) (p : Pr) : Bool := decide (p.a ∈ vs) && decide (p.b ∈ vs)
theorem filter_take_succ {α : Type} [Inhabited α] {p : α → Bool} {xs : List α} {k : Nat} (h : k < xs.length) : (xs.take (k + 1)).filter p = (xs.take k).filter p ++ (if p (ge xs k) then [ge xs k] else []) := by
  rw [take_ge h, List.filter_append]
  by_cases hp : p (ge xs k) = true <;> simp [hp]
theorem take_all {α : Type} {xs : List α} {k : Nat} (h : xs.length ≤ k) : xs.take k = xs := List.take_of_length_le h
/-- Words of a list that are among vs, each once, in the order of their first occurrence. -/
def occF (vs : List ByteArray) (ws : List ByteArray) : List ByteArray := ws.foldl (fun out s => if decide (s ∈ vs) && !decide (s ∈ out) then out ++ [s] else out) []
theorem occF_snoc (vs ws : List ByteArray) (s : ByteArray) : occF vs (ws ++ [s]) = if decide (s ∈ vs) && !decide (s ∈ occF vs ws) then occF vs ws ++ [s] else occF vs ws := by simp [occF]
theorem occF_spec (vs ws : List ByteArray) : (occF vs ws).Nodup ∧ (∀ x, x ∈ occF vs ws ↔ x ∈ ws ∧ x ∈ vs) := by
  have key : ∀ (r pre : List ByteArray), (occF vs pre).Nodup ∧ (∀ x, x ∈ occF vs pre ↔ x ∈ pre ∧ x ∈ vs) → (occF vs (pre ++ r)).Nodup ∧ (∀ x, x ∈ occF vs (pre ++ r) ↔ x ∈ pre ++ r ∧ x ∈ vs) := by
    intro r
    induction r with
    | nil => intro pre h; simpa using h
    | cons s r ih =>
      intro pre h
      have := ih (pre ++ [s]) (by
        rw [occF_snoc]
        obtain ⟨h1, h2⟩ := h
        by_cases hs : s ∈ vs
        · by_cases ho : s ∈ occF vs pre
          · simp only [hs, ho, decide_true, Bool.not_true, Bool.and_false, Bool.false_eq_true, if_false]
            refine ⟨h1, fun x => ?_⟩
            rw [h2]
            have := (h2 s).1 ho
            grind
          · simp only [hs, ho, decide_true, decide_false, Bool.not_false, Bool.and_self, if_true]
            refine ⟨?_, fun x => ?_⟩
            · rw [List.nodup_append]
              exact ⟨h1, by simp, fun a ha b hb => by simp at hb; subst hb; intro e; subst e; exact ho ha⟩
            · have := h2 x
              grind
        · simp only [hs, decide_false, Bool.false_and, Bool.false_eq_true, if_false]
          refine ⟨h1, fun x => ?_⟩
          have := h2 x
          grind)
      simpa using this
  simpa using key ws [] ⟨by simp [occF], by simp [occF]⟩
theorem nodup_le : ∀ {xs ys : List ByteArray}, xs.Nodup → (∀ x ∈ xs, x ∈ ys) → xs.length ≤ ys.length
  | [], _, _, _ => by simp
  | x :: xs, ys, h, hs => by
    have h1 := List.nodup_cons.1 h
    have h2 := nodup_le (xs := xs) (ys := ys.erase x) h1.2 fun z hz => by
      have hne : z ≠ x := fun e => h1.1 (e ▸ hz)
      exact (List.mem_erase_of_ne hne).2 (hs z (by simp [hz]))
    have h3 := List.length_erase_of_mem (hs x (by simp))
    have h4 : 0 < ys.length := List.length_pos_of_mem (hs x (by simp))
    simp only [List.length_cons]
    omega
/-- The essential hypotheses. -/
def essF (hs : List Hy) : List Hy := hs.filter fun h => !h.floating
/-- All hypotheses of frames. -/
def hysF (fs : List Fr) : List Hy := fs.flatMap fun f => f.hyps ++ f.dummies
end Go.Proofs.YtnpgmdffjemnbaaGreatDoor
namespace Go.Proofs.YtnpgmdffjemnbaaGreatDoor
open Go.RowKit Go.Shelf Go.Lib

theorem badR_big {x : Nat} (h : 128 ≤ x) : badR x = true := by
  simp [badR, show ¬ x < 128 by omega, show ¬ x ≤ 122 by omega, show ¬ x ≤ 90 by omega, show ¬ x ≤ 57 by omega]
/-- A byte that may not stand in a proof. -/
def badC (c : UInt8) : Bool := (!decide ((c.toNat : Int) = (63 : Int))) && badB c
theorem badR_all : ∀ n : Fin 256, badR (UInt8.ofNat n).toNat = badC (UInt8.ofNat n) := by decide +kernel
theorem badR_byte (c : UInt8) : badR c.toNat = badC c := by
  have := badR_all ⟨c.toNat, c.toNat_lt⟩
  simpa using this
theorem labB_one {s : ByteArray} {k : Nat} (hk : k < s.size) : labB (s.extract k (k + 1)) = !badB (bt s k) := by
  have hl : (s.extract k (k + 1)).data.toList = [bt s k] := by
    rw [ByteArray.data_extract, Array.toList_extract]
    have h1 : k < s.data.toList.length := by rw [len_bytes]; exact hk
    rw [List.extract_eq_take_drop, show k + 1 - k = 1 by omega, List.drop_eq_getElem_cons h1, List.take_succ_cons, List.take_zero, bt, ge_eq h1]
  have hz : (s.extract k (k + 1)).size = 1 := by rw [← len_bytes, hl]; rfl
  have hne : ¬ s.extract k (k + 1) = ⟨#[]⟩ := fun e => by rw [e] at hz; exact absurd hz (by decide)
  unfold labB
  rw [hl, hz]
  simp [hne]
theorem badP_byte {s : ByteArray} {k : Nat} (hk : k < s.size) : badP s k = badC (bt s k) := by
  rw [badP, labB_one hk, Bool.not_not, badC]
theorem bt_get {s : ByteArray} {k : Nat} (hk : k < s.size) : s[k]'hk = bt s k := by
  have h1 : k < s.data.toList.length := by rw [len_bytes]; exact hk
  rw [bt, ge_eq h1]
  rfl
theorem decode_big (s : ByteArray) (k : Nat) (hk : k < s.size) (h : 128 ≤ (s[k]'hk).toNat) : 128 ≤ (Utf8.decode s k).1 := by
  have h0 : (s.get! (k + 0)).toNat = (s[k]'hk).toNat := by
    rw [show s.get! (k + 0) = s[k]'hk by show s.get! k = _; simp [ByteArray.get!, getElem!_pos, hk]; rfl]
  unfold Utf8.decode
  simp only [Utf8.runeError]
  rw [if_neg (by omega)]
  repeat' split
  all_goals first | (simp; done) | (simp_all; done) | (simp_all; omega)
theorem eq_toList {s : ByteArray} {l : Array UInt8} : decide (s = ⟨l⟩) = decide (s.toList = l.toList) := by
  rw [Bool.eq_iff_iff, decide_eq_true_eq, decide_eq_true_eq, ByteArray.toList_eq]
  exact ⟨fun h => by rw [h], fun h => ByteArray.ext (Array.toList_inj.1 h)⟩
theorem idx_runes (s : ByteArray) : ∀ (f pos : Nat), s.size ≤ pos + f → (0 ≤ Lib.idxFuncFrom badR true s f pos ↔ ∃ k, pos ≤ k ∧ k < s.size ∧ badC (bt s k) = true)
  | 0, pos, h => by
    simp only [Lib.idxFuncFrom]
    constructor
    · intro h; omega
    · rintro ⟨k, h1, h2, _⟩; omega
  | f + 1, pos, h => by
    simp only [Lib.idxFuncFrom]
    by_cases hp : pos < s.size
    · rw [if_pos hp]
      by_cases ha : (s[pos]'hp).toNat < 128
      · rw [decode_ascii s pos hp ha]
        have e : badR (s[pos]'hp).toNat = badC (bt s pos) := by rw [badR_byte, bt_get hp]
        simp only [e]
        by_cases hb : badC (bt s pos) = true
        · rw [if_pos hb]
          exact ⟨fun _ => ⟨pos, Nat.le_refl _, hp, hb⟩, fun _ => Int.natCast_nonneg _⟩
        · rw [if_neg hb, idx_runes s f (pos + 1) (by omega)]
          constructor
          · rintro ⟨k, h1, h2, h3⟩; exact ⟨k, by omega, h2, h3⟩
          · rintro ⟨k, h1, h2, h3⟩
            refine ⟨k, ?_, h2, h3⟩
            by_cases e : k = pos
            · subst e; exact absurd h3 hb
            · omega
      · have e : badC (bt s pos) = true := by
          rw [← badR_byte, ← bt_get hp]; exact badR_big (by omega)
        rw [if_pos (badR_big (decode_big s pos hp (by omega)))]
        exact ⟨fun _ => ⟨pos, Nat.le_refl _, hp, e⟩, fun _ => Int.natCast_nonneg _⟩
    · rw [if_neg hp]
      constructor
      · intro h; omega
      · rintro ⟨k, h1, h2, _⟩; omega
theorem idx_proof (s : ByteArray) : (!decide (0 ≤ Lib.idxFunc badR true s)) = (List.range s.size).all fun k => !badP s k := by
  have := idx_runes s s.size 0 (by omega)
  rw [← Lib.idxFunc] at this
  rw [Bool.eq_iff_iff, Bool.not_eq_true', decide_eq_false_iff_not, this, List.all_eq_true]
  constructor
  · intro h k hk
    have hk' : k < s.size := by simpa using hk
    rw [badP_byte hk']
    cases hb : badC (bt s k) with
    | false => rfl
    | true => exact absurd ⟨k, Nat.zero_le _, hk', hb⟩ h
  · rintro h ⟨k, _, h2, h3⟩
    have := h k (by simpa using h2)
    rw [badP_byte h2, h3] at this
    exact absurd this (by decide)
set_option maxHeartbeats 2000000 in
set_option maxRecDepth 1000000 in
theorem isProofL_c (s : ByteArray) (w : World) : Calls Tryz.prog 178 #[.string s] w fun e w' => e = .returned (.bool (proofB s)) ∧ Below w.heap.size w w' := by
  have hF := Tryz.strings_ContainsFunc_grows 183 #[] (callOk Tryz.func183 rfl rfl) badR s w fun W x _ _ => isProof1_c x W
  obtain ⟨b, hb⟩ : ∃ b, decide (0 ≤ Lib.idxFunc badR true s) = b := ⟨_, rfl⟩
  have hspec : proofB s = ((decide (s.toList = [40]) || decide (s.toList = [41])) || (!b && !decide (s.toList = []))) := by
    rw [proofB, ← idx_proof, hb, eq_toList, eq_toList, eq_toList]
  rw [hb] at hF
  rw [hspec]
  clear hspec hb
  go_enter Tryz.func178, Tryz.ntmps178
  go_wp2_with (go_at_call 182; refine hF.mono ?_; rintro e w' ⟨rfl, hb⟩)
  all_goals
    go_ret
    exact ⟨by simp_all, by first | exact hb | exact Below.refl _ _⟩
end Go.Proofs.YtnpgmdffjemnbaaGreatDoor
namespace Go.Proofs.YtnpgmdffjemnbaaGreatDoor

theorem any_take_succ {α : Type} [Inhabited α] {p : α → Bool} {xs : List α} {k : Nat} (h : k < xs.length) : (xs.take (k + 1)).any p = ((xs.take k).any p || p (ge xs k)) := by
  rw [take_ge h, List.any_append]; simp
theorem all_take_succ {α : Type} [Inhabited α] {p : α → Bool} {xs : List α} {k : Nat} (h : k < xs.length) : (xs.take (k + 1)).all p = ((xs.take k).all p && p (ge xs k)) := by
  rw [take_ge h, List.all_append]; simp
theorem any_hit {α : Type} [Inhabited α] {p : α → Bool} {xs : List α} {k : Nat} (h : k < xs.length) (hp : p (ge xs k) = true) : xs.any p = true := List.any_eq_true.2 ⟨_, ge_mem h, hp⟩
theorem any_none {α : Type} [Inhabited α] {p : α → Bool} {xs : List α} {k : Nat} (h : (xs.take k).any p = false) (hk : xs.length ≤ k) : xs.any p = false := by rwa [take_all hk] at h
theorem any_miss {α : Type} [Inhabited α] {p : α → Bool} {xs : List α} {k : Nat} (h : k < xs.length) (h0 : (xs.take k).any p = false) (hp : p (ge xs k) = false) : (xs.take (k + 1)).any p = false := by rw [any_take_succ h, h0, hp]; rfl

/-- Whether a text is the label of one of the first n frames; of one of their hypotheses. -/
def frL (d : Db) (n : Nat) (s : ByteArray) : Bool := (d.frames.take n).any fun f => decide (f.label = s)
def hyL (d : Db) (n : Nat) (s : ByteArray) : Bool := (d.frames.take n).any fun f => (f.hyps ++ f.dummies).any fun h => decide (h.label = s)
/-- The hypotheses of the first k frames. -/
def oth (d : Db) (k : Nat) : List Hy := hysF (d.frames.take k)
theorem oth_zero (d : Db) : oth d 0 = [] := rfl
theorem oth_succ {d : Db} {k : Nat} (h : k < d.frames.length) : oth d (k + 1) = oth d k ++ ((ge d.frames k).hyps ++ (ge d.frames k).dummies) := by
  simp [oth, hysF, take_ge h]

def hForm (y : Hy) (dm : Bool) : Bool := ((!labB y.label || (dm && !y.floating)) || (y.floating && !decide (((y.text.length : Nat) : Int) = 2))) || (!y.floating && (decide (((y.text.length : Nat) : Int) = 0) || decide (200 < ((y.text.length : Nat) : Int))))
theorem hForm_two {y : Hy} {dm : Bool} (h : hForm y dm = false) (hf : y.floating = true) : y.text.length = 2 := by
  simp [hForm, hf] at h; omega
theorem hForm_pos {y : Hy} {dm : Bool} (h : hForm y dm = false) : 0 < y.text.length := by
  cases hf : y.floating with
  | true => have := hForm_two h hf; omega
  | false => simp [hForm, hf] at h; exact List.length_pos_iff.2 (by grind)
def hScope (d : Db) (y : Hy) : Bool := y.floating && (!decide (ge y.text 0 ∈ d.consts) || !decide (ge y.text 1 ∈ d.vars))
def hLab (y x : Hy) : Bool := decide (x.label = y.label)
def hOf (y x : Hy) : Bool := ofB x (y.text.drop 1)
def hTyp (y x : Hy) : Bool := ofB x (y.text.drop 1) && !decide (ge x.text 0 = ge y.text 0)
def hSam (y x : Hy) : Bool := decide (x.label = y.label) && !hyEq x y
/-- The error of a hypothesis of the frame k, behind others of it. -/
def hypE (d : Db) (k : Nat) (y : Hy) (bs : List Hy) (dm : Bool) : Int :=
  if hForm y dm then 2 else if frL d (k + 1) y.label || symD d y.label then 6 else if bs.any (hLab y) then 6
  else if hScope d y then 12 else if !y.floating && !decide (formE d y.text = 0) then formE d y.text
  else if y.floating && (oth d k ++ bs).any (hTyp y) then 11 else if y.floating && bs.any (hOf y) then 6
  else if (oth d k).any (hSam y) then 6 else 0

/-- The first number that is not 0 among the first n. -/
def firstE (n : Nat) (g : Nat → Int) : Int := match (List.range n).find? (fun i => !decide (g i = 0)) with | some i => g i | none => 0
theorem firstE_ok {n : Nat} {g : Nat → Int} (h : ∀ j, j < n → g j = 0) : firstE n g = 0 := by
  have : (List.range n).find? (fun i => !decide (g i = 0)) = none := by
    rw [List.find?_eq_none]
    intro x hx
    simp [h x (by simpa using hx)]
  rw [firstE, this]
theorem firstE_hit {n k : Nat} {g : Nat → Int} (hk : k < n) (h : ∀ j, j < k → g j = 0) (hg : g k ≠ 0) : firstE n g = g k := by
  have : (List.range n).find? (fun i => !decide (g i = 0)) = some k := by
    rw [List.find?_eq_some_iff_getElem]
    refine ⟨by simp [hg], k, by simpa using hk, by simp, fun j hj => ?_⟩
    simp [h j hj]
  rw [firstE, this]
theorem firstE_inv {n : Nat} {g : Nat → Int} (h : firstE n g = 0) : ∀ j, j < n → g j = 0 := by
  intro j hj
  rw [firstE] at h
  split at h
  · rename_i i hi
    have := List.find?_some hi
    simp [h] at this
  · rename_i hi
    rw [List.find?_eq_none] at hi
    simpa using hi j (by simpa using hj)

/-- Pairs in order, each once. -/
def ltP (x y : Pr) : Bool := Op.bytesLess x.a.toList y.a.toList || (decide (x.a = y.a) && Op.bytesLess x.b.toList y.b.toList)
def putF : List Pr → Pr → List Pr
  | [], p => [p]
  | x :: xs, p => if ltP x p then x :: putF xs p else if prEq x p then x :: xs else p :: x :: xs
def joinF (w z : List Pr) : List Pr := (w ++ z).foldl putF []
/-- The mandatory variables of a frame; those that it types; what is right about them. -/
def mandF (d : Db) (f : Fr) : List ByteArray := occF d.vars (f.text :: (essF f.hyps).map Hy.text).flatten
def typF (hs : List Hy) : List ByteArray := (hs.filter fun h => h.floating).map fun h => ge h.text 1
def hIn (m : List ByteArray) (h : Hy) : Bool := !h.floating || ofB h m
def badW (d : Db) (p : Pr) : Bool := (!Op.bytesLess p.a.toList p.b.toList || !decide (p.a ∈ d.vars)) || !decide (p.b ∈ d.vars)
def strB (d : Db) (f : Fr) : Bool :=
  ((f.hyps.all (hIn (mandF d f)) && (mandF d f).all fun s => decide (s ∈ typF f.hyps)) && !f.wide.any (badW d)) && (decide (f.wide = joinF f.wide []) && decide (f.apart = f.wide.filter (inV (mandF d f))))

/-- The error of a frame, of the symbols, of a database. -/
def befL (d : Db) (k : Nat) : List ByteArray := if k = 0 then [] else (essF (ge d.frames (k - 1)).hyps).map Hy.label
def lstG (d : Db) (k i : Nat) : Int := hypE d k (ge ((ge d.frames k).hyps ++ (ge d.frames k).dummies) i) (((ge d.frames k).hyps ++ (ge d.frames k).dummies).take i) (decide ((((ge d.frames k).hyps.length : Nat) : Int) ≤ ((i : Nat) : Int)))
def lstE (d : Db) (k : Nat) : Int := firstE ((ge d.frames k).hyps ++ (ge d.frames k).dummies).length (lstG d k)
theorem hypE_form {d : Db} {k : Nat} {y : Hy} {bs : List Hy} {dm : Bool} (h : hypE d k y bs dm = 0) : hForm y dm = false := by
  cases hf : hForm y dm with
  | false => rfl
  | true => simp [hypE, hf] at h
theorem comL_le : ∀ (xs ys : List ByteArray), comL xs ys ≤ ys.length
  | [], _ => by simp [comL]
  | _ :: _, [] => by simp [comL]
  | x :: xs, y :: ys => by
    simp only [comL, List.length_cons]
    have := comL_le xs ys
    split <;> omega
def ordB (d : Db) (k : Nat) (f : Fr) : Bool := (((essF f.hyps).map Hy.label).drop (comL (befL d k) ((essF f.hyps).map Hy.label))).any (hyL d k)
theorem nd_t {p : Prop} [Decidable p] (h : (!decide p) = true) : ¬ p := by simpa using h
theorem nd_f {p : Prop} [Decidable p] (h : (!decide p) = false) : p := by simpa using h
def frmE (d : Db) (k : Nat) (f : Fr) : Int :=
  if !labB f.label then 2 else if (frL d k f.label || hyL d k f.label) || symD d f.label then 6
  else if decide (40 < ((f.hyps.length : Nat) : Int)) || decide (40 < ((f.dummies.length : Nat) : Int)) then 4
  else if !decide (lstE d k = 0) then lstE d k
  else if decide (((f.text.length : Nat) : Int) = 0) || decide (200 < ((f.text.length : Nat) : Int)) then 2
  else if !decide (formE d f.text = 0) then formE d f.text
  else if !strB d f then 70
  else if (decide (0 < ((f.proof.length : Nat) : Int)) && !f.thm) || decide (8000 < ((f.proof.length : Nat) : Int)) then 2
  else if !f.proof.all proofB then 2
  else if ordB d k f then 7 else 0
def frE (d : Db) (k : Nat) : Int := frmE d k (ge d.frames k)
theorem frE_size {d : Db} {k : Nat} (h : frE d k = 0) : (ge d.frames k).hyps.length ≤ 40 ∧ (ge d.frames k).dummies.length ≤ 40 := by
  rw [frE, frmE] at h
  split at h
  · simp at h
  split at h
  · simp at h
  split at h
  · simp at h
  rename_i h0
  simp at h0
  omega
def cstE (d : Db) (i : Nat) : Int := if !symB (ge d.consts i) then 2 else if decide (ge d.consts i ∈ d.consts.take i) then 6 else 0
def varE (d : Db) (i : Nat) : Int := if !symB (ge d.vars i) then 2 else if decide (ge d.vars i ∈ d.consts) || decide (ge d.vars i ∈ d.vars.take i) then 6 else 0
def symE (d : Db) : Int := if !decide (firstE d.consts.length (cstE d) = 0) then firstE d.consts.length (cstE d) else firstE d.vars.length (varE d)
def chkE (d : Db) : Int :=
  if (decide (400 < ((d.frames.length : Nat) : Int)) || decide (8000 < ((d.consts.length : Nat) : Int))) || decide (8000 < ((d.vars.length : Nat) : Int)) then 8
  else if !decide (symE d = 0) then symE d else firstE d.frames.length (frE d)

end Go.Proofs.YtnpgmdffjemnbaaGreatDoor
namespace Go.Proofs.YtnpgmdffjemnbaaGreatDoor

/-- The words of a proof that name what it uses. -/
def namW (l : List ByteArray) : List ByteArray := if decide (0 < l.length) && decide (ge l 0 = ⟨#[40]⟩) then (l.drop 1).takeWhile (fun s => !decide (s = ⟨#[41]⟩)) else l
theorem takeWhile_ge {α : Type} [Inhabited α] {p : α → Bool} : ∀ {l : List α} {n : Nat}, n ≤ l.length → (∀ j, j < n → p (ge l j) = true) → ¬ (n < l.length ∧ p (ge l n) = true) → l.take n = l.takeWhile p
  | [], n, h, _, _ => by simp
  | x :: xs, 0, _, _, h3 => by
    have : p x = false := by simpa [ge] using h3
    simp [this]
  | x :: xs, n + 1, h1, h2, h3 => by
    have h0 : p x = true := by simpa [ge] using h2 0 (by omega)
    rw [List.take_succ_cons, List.takeWhile_cons_of_pos h0, takeWhile_ge (p := p) (l := xs) (n := n) (by simpa using h1) (fun j hj => by simpa [ge] using h2 (j + 1) (by omega)) (fun hab => h3 ⟨by simpa using hab.1, by simpa [ge] using hab.2⟩)]
theorem namW_plain {l : List ByteArray} (h : 0 < l.length → ¬ ge l 0 = ⟨#[40]⟩) : l = namW l := by
  rw [namW, if_neg (by simpa using h)]
/-- The numbers below k of the frames whose labels are among words. -/
def usesK (d : Db) (ws : List ByteArray) (k : Nat) : List Int := ((List.range k).filter fun q => decide ((ge d.frames q).label ∈ ws)).map fun (q : Nat) => (q : Int)
theorem usesK_lt {d : Db} {ws : List ByteArray} {k : Nat} {x : Int} (h : x ∈ usesK d ws k) : 0 ≤ x ∧ x < k := by
  simp only [usesK, List.mem_map, List.mem_filter, List.mem_range] at h
  obtain ⟨q, ⟨h1, _⟩, rfl⟩ := h
  omega
def usesD (d : Db) (i : Nat) : List Int := if (ge d.frames i).thm then usesK d (namW (ge d.frames i).proof) i else []
def chdE (d : Db) (i : Int) : Int := if !decide (chkE d = 0) then chkE d else if decide (i < 0) || decide (((d.frames.length : Nat) : Int) ≤ i) then 3 else 0
theorem chdE_range {d : Db} {i : Int} (h : chdE d i = 0) : chkE d = 0 ∧ 0 ≤ i ∧ i < d.frames.length := by
  rw [chdE] at h
  split at h
  · rename_i h0; simp [h] at h0
  · rename_i h0
    split at h
    · simp at h
    · rename_i h1
      simp at h0 h1
      exact ⟨h0, by omega, by omega⟩
theorem chkE_size {d : Db} (h : chkE d = 0) : d.frames.length ≤ 400 := by
  rw [chkE] at h
  split at h
  · simp at h
  · rename_i h0
    simp at h0
    omega
end Go.Proofs.YtnpgmdffjemnbaaGreatDoor
