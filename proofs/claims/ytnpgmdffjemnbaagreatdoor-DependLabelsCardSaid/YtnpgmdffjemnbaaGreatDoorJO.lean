/-
  CONTRACTS: strings.IndexRune at a rune beyond ASCII in a text of ASCII bytes.
  WHAT A RIGHT DATABASE IS, IN PLAIN LEAN: labels, symbols, formulas, hypotheses, frames.
  CONTRACTS: whether a word can stand in a proof (layout.isProof), over runes; the plain law: over bytes.
  WHAT A RIGHT DATABASE IS, IN PLAIN LEAN: the errors of hypotheses, of frames, of a database.
  WHAT USES WHAT, IN PLAIN LEAN.
-/
import Derived.Test.YtnpgmdffjemnbaaGreatDoorJE
import Derived.Test.YtnpgmdffjemnbaaGreatDoorJN
import Derived.Laws.Runes
import Derived.Laws.RangeString
import Derived.Laws.Strings3
import Derived.Deep.LoopGhost
import Derived.Lib.IndexAny
import Derived.Deep.QuietTactic
import Derived.WalkMore
import Derived.Test.YtnpgmdffjemnbaaGreatDoorJI
namespace Go.Proofs.YtnpgmdffjemnbaaGreatDoor
open Go.RowKit Go.Shelf Go.Lib

def dots : ByteArray := ⟨#[45, 95, 46, 63]⟩
theorem Zac : ∀ b ∈ dots.data.toList, b.toNat < 128 := by decide
theorem ZdR (i : Nat) (h : i < dots.size) : (dots[i]'h).toNat < 128 := Zac _ (Array.getElem_mem_toList (xs := dots.data) h)

set_option maxHeartbeats 2000000 in
set_option maxRecDepth 1000000 in
theorem ZcF (w : World) : Calls Tryz.prog 186 #[.string dots, .int .i32 65533] w fun e w' => e = .returned (.int .i64 (-1)) ∧ Below w.heap.size w w' := by
  obtain ⟨s, hs⟩ : ∃ s, dots = s := ⟨_, rfl⟩
  have HA : Hid (∀ (i : Nat) (h : i < s.size), (s[i]'h).toNat < 128) := by rw [← hs]; exact ZdR
  rw [hs]
  clear hs
  go_enter Tryz.func186, Tryz.ntmps186
  go_wp2
  go_loopg [5, 6] s.size (fun g _ _ wx => ∃ i : Nat, i + g = s.size ∧ wx = w.iter s i)
  case atStart => exact ⟨0, by omega, rfl⟩
  case round =>
    obtain ⟨i, hig, rfl⟩ := hrel
    cases gk with
    | zero =>
      obtain rfl : i = s.size := by omega
      have hnx := run_next_end (P := Tryz.prog) w s s.size
      go_wp2
      go_ret
      exact ⟨rfl, (Below.refl _ _).alloc (Nat.le_refl _) _⟩
    | succ g =>
      have hi : i < s.size := by omega
      obtain ⟨x, hx⟩ : ∃ x : UInt8, s[i]'hi = x := ⟨_, rfl⟩
      have hx128 : x.toNat < 128 := by rw [← hx]; exact HA.out i hi
      have hnx := fun ty => run_next_ascii (P := Tryz.prog) w s i ty hi (by rw [hx]; exact hx128)
      rw [hx] at hnx
      clear hx
      have hne : ¬ ((x.toNat : Int) = 65533) := by omega
      go_wp2
      go_roundg g
      case measure => omega
      case rel => exact ⟨i + 1, by omega, rfl⟩

set_option maxHeartbeats 2000000 in
set_option maxRecDepth 1000000 in
theorem Zbd (r : Int) (w : World) (h0 : 128 ≤ r) (h1 : ¬ r = 65533) (hv : Lib.validRune r = false) : Calls Tryz.prog 186 #[.string dots, .int .i32 r] w fun e w' => e = .returned (.int .i64 (-1)) ∧ w' = w := by
  obtain ⟨s, hs⟩ : ∃ s, dots = s := ⟨_, rfl⟩
  rw [hs]
  clear hs
  have h2 : ¬ r < 128 := by omega
  have h3 : (0 : Int) ≤ r := by omega
  go_enter Tryz.func186, Tryz.ntmps186
  go_wp2_with (go_at_call 189; refine (Tryz.utf8_ValidRune _ _).mono ?_; rintro e w' ⟨rfl, hw⟩; rw [hw, hv])
  go_ret
  exact ⟨rfl, rfl⟩

theorem ZdM {l : List UInt8} {c : UInt8} (hs : ∀ b ∈ l, b.toNat < 128) (hc : 128 ≤ c.toNat) : Lib.indexByte l c < 0 := by
  have := Lib.contains_iff_indexByte l c
  have h2 : l.contains c = false := by
    rw [← Bool.not_eq_true, List.contains_iff_mem]
    intro h
    have := hs c h
    omega
  rw [h2] at this
  have := of_decide_eq_false this.symm
  omega

theorem ZlP (r : Int) (h0 : 128 ≤ r) (hv : Lib.validRune r = true) : ∃ n : Nat, (Utf8.encode r).size = n + 1 ∧ (n = 1 ∨ n = 2 ∨ n = 3) ∧ ∃ c : UInt8, (∀ h : n < (Utf8.encode r).size, (Utf8.encode r)[n]'h = c) ∧ 128 ≤ c.toNat := by
  obtain ⟨e1, e2, e3⟩ := encode_facts r (by rw [validRune_eq]; exact hv) h0
  exact ⟨(Utf8.encode r).size - 1, by omega, by omega, _, fun _ => rfl, e3 (by omega)⟩

set_option maxHeartbeats 4000000 in
set_option maxRecDepth 1000000 in
theorem ZcR (r : Int) (w : World) (h0 : 128 ≤ r) (h1 : ¬ r = 65533) (hv : Lib.validRune r = true) (t : ByteArray) (ht : Utf8.encode r = t) (hk : t.size = 2) (c : UInt8) (hc : ∀ h : 1 < t.size, t[1]'h = c) (hc1 : 128 ≤ c.toNat) : Calls Tryz.prog 186 #[.string dots, .int .i32 r] w fun e w' => e = .returned (.int .i64 (-1)) ∧ Below w.heap.size w w' := by
  obtain ⟨s, hs⟩ : ∃ s, dots = s := ⟨_, rfl⟩
  have hsz : s.size = 4 := by rw [← hs]; rfl
  obtain ⟨x, hx⟩ : ∃ x, s[1]'(by omega) = x := ⟨_, rfl⟩
  have hx1 : x.toNat < 128 := by subst hs; rw [← hx]; exact ZdR 1 (by decide)
  have hIB : ∃ m : Int, m < 0 ∧ ∀ w, Calls Tryz.prog 188 #[.string (s.extract 2 4), .int .u8 (c.toNat : Int)] w fun e w' => e = .returned (.int .i64 m) ∧ w' = w := by
    refine ⟨_, ZdM (l := (s.extract 2 4).data.toList) (fun b hb => ?_) hc1, fun w => ?_⟩
    · rw [← hs] at hb; exact Zac b (mem_extract hb)
    · have := Tryz.strings_IndexByte (s.extract 2 4) (c.toNat : Int) w
      rwa [show ((c.toNat : Int)).toNat.toUInt8 = c by simp] at this
  obtain ⟨m, hm, hIB⟩ := hIB
  have hcc := hc (by omega)
  rw [hs]
  clear hs hc
  have h2 : ¬ r < 128 := by omega
  have h3 : (0 : Int) ≤ r := by omega
  have hne : ((x.toNat : Int) != (c.toNat : Int)) = true := by simp; omega
  go_enter Tryz.func186, Tryz.ntmps186
  go_wp2_with (go_at_call 189; refine (Tryz.utf8_ValidRune _ _).mono ?_; rintro e w' ⟨rfl, hw⟩; rw [hw, hv])
  go_step3
  go_wp2
  go_loopg [9, 10] 1 (fun _ x9 _ wx => x9 = .int .i64 1 ∧ wx = w)
  case atStart => exact ⟨rfl, rfl⟩
  case round =>
    obtain ⟨rfl, rfl⟩ := hrel
    go_wp2
    go_step3
    go_wp2
    go_quiet (fail)
    go_wp2
    have hwr : IntKind.i64.wrap 2 = 2 := by decide
    go_quiet (exact (hIB _).mono fun e w' h => ⟨h.1, _, h.2⟩)
    go_wp2
    simp only [Exit.noGoto_ret, Exit.inBlock, Exit.then]
    go_ret
    exact ⟨rfl, below_drewNg _ _⟩

set_option maxHeartbeats 4000000 in
set_option maxRecDepth 1000000 in
theorem ZcQ (r : Int) (w : World) (h0 : 128 ≤ r) (h1 : ¬ r = 65533) (hv : Lib.validRune r = true) (t : ByteArray) (ht : Utf8.encode r = t) (hk : t.size = 3) (c : UInt8) (hc : ∀ h : 2 < t.size, t[2]'h = c) (hc1 : 128 ≤ c.toNat) : Calls Tryz.prog 186 #[.string dots, .int .i32 r] w fun e w' => e = .returned (.int .i64 (-1)) ∧ Below w.heap.size w w' := by
  obtain ⟨s, hs⟩ : ∃ s, dots = s := ⟨_, rfl⟩
  have hsz : s.size = 4 := by rw [← hs]; rfl
  obtain ⟨x, hx⟩ : ∃ x, s[2]'(by omega) = x := ⟨_, rfl⟩
  have hx1 : x.toNat < 128 := by subst hs; rw [← hx]; exact ZdR 2 (by decide)
  have hIB : ∃ m : Int, m < 0 ∧ ∀ w, Calls Tryz.prog 188 #[.string (s.extract 3 4), .int .u8 (c.toNat : Int)] w fun e w' => e = .returned (.int .i64 m) ∧ w' = w := by
    refine ⟨_, ZdM (l := (s.extract 3 4).data.toList) (fun b hb => ?_) hc1, fun w => ?_⟩
    · rw [← hs] at hb; exact Zac b (mem_extract hb)
    · have := Tryz.strings_IndexByte (s.extract 3 4) (c.toNat : Int) w
      rwa [show ((c.toNat : Int)).toNat.toUInt8 = c by simp] at this
  obtain ⟨m, hm, hIB⟩ := hIB
  have hcc := hc (by omega)
  rw [hs]
  clear hs hc
  have h2 : ¬ r < 128 := by omega
  have h3 : (0 : Int) ≤ r := by omega
  have hne : ((x.toNat : Int) != (c.toNat : Int)) = true := by simp; omega
  go_enter Tryz.func186, Tryz.ntmps186
  go_wp2_with (go_at_call 189; refine (Tryz.utf8_ValidRune _ _).mono ?_; rintro e w' ⟨rfl, hw⟩; rw [hw, hv])
  go_step3
  go_wp2
  go_loopg [9, 10] 1 (fun _ x9 _ wx => x9 = .int .i64 2 ∧ wx = w)
  case atStart => exact ⟨rfl, rfl⟩
  case round =>
    obtain ⟨rfl, rfl⟩ := hrel
    go_wp2
    go_step3
    go_wp2
    go_quiet (fail)
    go_wp2
    have hwr : IntKind.i64.wrap 3 = 3 := by decide
    go_quiet (exact (hIB _).mono fun e w' h => ⟨h.1, _, h.2⟩)
    go_wp2
    simp only [Exit.noGoto_ret, Exit.inBlock, Exit.then]
    go_ret
    exact ⟨rfl, below_drewNg _ _⟩

set_option maxHeartbeats 4000000 in
set_option maxRecDepth 1000000 in
theorem ZcP (r : Int) (w : World) (h0 : 128 ≤ r) (h1 : ¬ r = 65533) (hv : Lib.validRune r = true) (t : ByteArray) (ht : Utf8.encode r = t) (hk : t.size = 4) (c : UInt8) (hc : ∀ h : 3 < t.size, t[3]'h = c) (hc1 : 128 ≤ c.toNat) : Calls Tryz.prog 186 #[.string dots, .int .i32 r] w fun e w' => e = .returned (.int .i64 (-1)) ∧ Below w.heap.size w w' := by
  obtain ⟨s, hs⟩ : ∃ s, dots = s := ⟨_, rfl⟩
  have hsz : s.size = 4 := by rw [← hs]; rfl
  obtain ⟨x, hx⟩ : ∃ x, s[3]'(by omega) = x := ⟨_, rfl⟩
  have hx1 : x.toNat < 128 := by subst hs; rw [← hx]; exact ZdR 3 (by decide)
  have hIB : ∃ m : Int, m < 0 ∧ ∀ w, Calls Tryz.prog 188 #[.string (s.extract 4 4), .int .u8 (c.toNat : Int)] w fun e w' => e = .returned (.int .i64 m) ∧ w' = w := by
    refine ⟨_, ZdM (l := (s.extract 4 4).data.toList) (fun b hb => ?_) hc1, fun w => ?_⟩
    · rw [← hs] at hb; exact Zac b (mem_extract hb)
    · have := Tryz.strings_IndexByte (s.extract 4 4) (c.toNat : Int) w
      rwa [show ((c.toNat : Int)).toNat.toUInt8 = c by simp] at this
  obtain ⟨m, hm, hIB⟩ := hIB
  have hIB2 := hIB
  rw [show s.extract 4 4 = ByteArray.empty by simp] at hIB2
  have hcc := hc (by omega)
  rw [hs]
  clear hs hc
  have h2 : ¬ r < 128 := by omega
  have h3 : (0 : Int) ≤ r := by omega
  have hne : ((x.toNat : Int) != (c.toNat : Int)) = true := by simp; omega
  go_enter Tryz.func186, Tryz.ntmps186
  go_wp2_with (go_at_call 189; refine (Tryz.utf8_ValidRune _ _).mono ?_; rintro e w' ⟨rfl, hw⟩; rw [hw, hv])
  go_step3
  go_wp2
  go_loopg [9, 10] 1 (fun _ x9 _ wx => x9 = .int .i64 3 ∧ wx = w)
  case atStart => exact ⟨rfl, rfl⟩
  case round =>
    obtain ⟨rfl, rfl⟩ := hrel
    go_wp2
    go_step3
    go_wp2
    go_quiet (fail)
    go_wp2
    have hwr : IntKind.i64.wrap 4 = 4 := by decide
    go_quiet (exact (hIB2 _).mono fun e w' h => ⟨h.1, _, h.2⟩)
    go_wp2
    simp only [Exit.noGoto_ret, Exit.inBlock, Exit.then]
    go_ret
    exact ⟨rfl, below_drewNg _ _⟩

theorem Zea (r : Int) (w : World) (h0 : 128 ≤ r) : Calls Tryz.prog 186 #[.string dots, .int .i32 r] w fun e w' => e = .returned (.int .i64 (-1)) ∧ Below w.heap.size w w' := by
  by_cases h1 : r = 65533
  · subst h1; exact ZcF w
  cases hv : Lib.validRune r with
  | false => exact (Zbd r w h0 h1 hv).mono fun e w' h => ⟨h.1, h.2 ▸ Below.refl _ _⟩
  | true =>
    obtain ⟨n, hn, hk, c, hc, hc1⟩ := ZlP r h0 hv
    rcases hk with rfl | rfl | rfl
    · exact ZcR r w h0 h1 hv _ rfl hn c hc hc1
    · exact ZcQ r w h0 h1 hv _ rfl hn c hc hc1
    · exact ZcP r w h0 h1 hv _ rfl hn c hc hc1
set_option maxHeartbeats 1000000 in
set_option maxRecDepth 1000000 in
theorem Zby (r : Int) (w : World) (h0 : 128 ≤ r) : Calls Tryz.prog 184 #[.string dots, .int .i32 r] w fun e w' => e = .returned (.bool false) ∧ Below w.heap.size w w' := by
  obtain ⟨s, hs⟩ : ∃ s, dots = s := ⟨_, rfl⟩
  have hI := Zea r w h0
  rw [hs] at hI ⊢
  clear hs
  go_enter Tryz.func184, Tryz.ntmps184
  go_wp2_with (go_at_call 186; refine hI.mono ?_; rintro e w' ⟨rfl, hb⟩)
  go_ret
  exact ⟨rfl, hb⟩
def Zin (x : Nat) : Bool := !(((decide (97 ≤ x ∧ x ≤ 122) || decide (65 ≤ x ∧ x ≤ 90)) || decide (48 ≤ x ∧ x ≤ 57)) || (decide (x < 128) && dots.data.toList.contains x.toUInt8))
set_option maxHeartbeats 4000000 in
set_option maxRecDepth 1000000 in
theorem Zh2 (x : Nat) (w : World) : Calls Tryz.prog 183 #[.int .i32 (x : Int)] w fun e w' => e = .returned (.bool (Zin x)) ∧ Below w.heap.size w w' := by
  have hC : ∃ b, (x < 128 → b = dots.data.toList.contains x.toUInt8) ∧ (128 ≤ x → b = false) ∧ ∀ w, Calls Tryz.prog 184 #[.string ⟨#[45, 95, 46, 63]⟩, .int .i32 (x : Int)] w fun e w' => e = .returned (.bool b) ∧ Below w.heap.size w w' := by
    by_cases h : x < 128
    · refine ⟨dots.data.toList.contains x.toUInt8, fun _ => rfl, fun h' => by omega, fun w => ?_⟩
      have := Tryz.strings_ContainsRune_ascii dots (x : Int) w (by omega) (by omega)
      rw [show ((x : Int)).toNat.toUInt8 = x.toUInt8 by simp, ← Lib.contains_iff_indexByte] at this
      exact this.mono fun e w' h => ⟨h.1, h.2 ▸ Below.refl _ _⟩
    · exact ⟨false, fun h' => absurd h' h, fun _ => rfl, fun w => Zby x w (by omega)⟩
  obtain ⟨b, hb1, hb2, hC⟩ := hC
  have hspec : Zin x = !(((decide (97 ≤ x ∧ x ≤ 122) || decide (65 ≤ x ∧ x ≤ 90)) || decide (48 ≤ x ∧ x ≤ 57)) || b) := by
    unfold Zin
    by_cases h : x < 128
    · rw [hb1 h]; simp [h]
    · rw [hb2 (by omega)]; simp [h]
  rw [hspec]
  clear hspec hb1 hb2
  have HC := hC w
  clear hC
  go_enter Tryz.func183, Tryz.ntmps183
  by_cases c1 : 97 ≤ x <;> by_cases c2 : x ≤ 122 <;> by_cases c3 : 65 ≤ x <;> by_cases c4 : x ≤ 90 <;> by_cases c5 : 48 ≤ x <;> by_cases c6 : x ≤ 57
  all_goals first | (exfalso; omega) | skip
  all_goals
    go_wp2_with (go_at_call 184; refine HC.mono ?_; rintro e w' ⟨rfl, hb⟩)
    go_ret
    exact ⟨by first | (simp [c1, c2, c3, c4, c5, c6]; done) | (simp [c1, c2, c3, c4, c5, c6]; omega), by first | exact hb | exact Below.refl _ _⟩
end Go.Proofs.YtnpgmdffjemnbaaGreatDoor
namespace Go.Proofs.YtnpgmdffjemnbaaGreatDoor

abbrev bt (s : ByteArray) (k : Nat) : UInt8 := ge s.data.toList k
theorem QW (s : ByteArray) : s.data.toList.length = s.size := by simp
def QF (c : UInt8) : Bool := (decide ((33 : Int) ≤ (c.toNat : Int))) && (decide ((c.toNat : Int) ≤ (126 : Int)))
def Zio (c : UInt8) : Bool := ((((!(((decide ((97 : Int) ≤ (c.toNat : Int))) && (decide ((c.toNat : Int) ≤ (122 : Int)))) || ((decide ((65 : Int) ≤ (c.toNat : Int))) && (decide ((c.toNat : Int) ≤ (90 : Int)))))) && ((decide ((c.toNat : Int) < (48 : Int))) || (decide ((57 : Int) < (c.toNat : Int))))) && (!decide ((c.toNat : Int) = (45 : Int)))) && (!decide ((c.toNat : Int) = (95 : Int)))) && (!decide ((c.toNat : Int) = (46 : Int)))
def Zdr (s : ByteArray) : Bool := s.data.toList.all QF && !decide (s = ⟨#[]⟩)
def Zdt (s : ByteArray) : Bool := s.data.toList.all (fun c => !decide ((c.toNat : Int) = 36)) && (Zdr s && decide ((s.size : Int) ≤ 60))
def Zbn (s : ByteArray) : Bool := s.data.toList.all (fun c => !Zio c) && (!decide (s = ⟨#[]⟩) && decide ((s.size : Int) ≤ 60))

theorem all_ge {α : Type} [Inhabited α] {p : α → Bool} {xs : List α} (h : ∀ j, j < xs.length → p (ge xs j) = true) : xs.all p = true := by
  rw [List.all_eq_true]
  intro x hx
  obtain ⟨k, hk, rfl⟩ := Y6 hx
  exact h k hk
theorem Qk {α : Type} [Inhabited α] {p : α → Bool} {xs : List α} {k : Nat} (hk : k < xs.length) (h : p (ge xs k) = false) : xs.all p = false := by
  rw [List.all_eq_false]
  exact ⟨ge xs k, Zg hk, by simp [h]⟩
theorem Zdo {p : UInt8 → Bool} {s : ByteArray} (h : ∀ j, j < s.size → p (bt s j) = true) : s.data.toList.all p = true := all_ge fun j hj => h j (by rwa [QW] at hj)
theorem XR {p : UInt8 → Bool} {s : ByteArray} {k : Nat} (hk : k < s.size) (h : p (bt s k) = false) : s.data.toList.all p = false := Qk (by rwa [QW]) h

theorem Zkz {s : ByteArray} {k : Nat} (hk : k < s.size) (h : QF (bt s k) = false) : Zdr s = false := by rw [Zdr, XR hk h]; rfl
theorem Ziu {s : ByteArray} (h : ∀ j, j < s.size → QF (bt s j) = true) : Zdr s = !decide (s = ⟨#[]⟩) := by rw [Zdr, Zdo h]; rfl
theorem Znw {s : ByteArray} {k : Nat} (hk : k < s.size) (h : ((bt s k).toNat : Int) = 36) : Zdt s = false := by rw [Zdt, XR (p := fun c => !decide ((c.toNat : Int) = 36)) hk (by simpa using h)]; rfl
theorem ZkH {s : ByteArray} (h : ∀ j, j < s.size → ¬ ((bt s j).toNat : Int) = 36) : Zdt s = (Zdr s && decide ((s.size : Int) ≤ 60)) := by rw [Zdt, Zdo (p := fun c => !decide ((c.toNat : Int) = 36)) (fun j hj => by simpa using h j hj)]; rfl
theorem ZnX {s : ByteArray} {k : Nat} (hk : k < s.size) (h : Zio (bt s k) = true) : Zbn s = false := by rw [Zbn, XR (p := fun c => !Zio c) hk (by simpa using h)]; rfl
theorem ZlG {s : ByteArray} (h : ∀ j, j < s.size → Zio (bt s j) = false) : Zbn s = (!decide (s = ⟨#[]⟩) && decide ((s.size : Int) ≤ 60)) := by rw [Zbn, Zdo (p := fun c => !Zio c) (fun j hj => by simpa using h j hj)]; rfl
theorem ZH {p : Nat → Prop} {k : Nat} (h : ∀ j, j < k → p j) (hk : p k) : ∀ j, j < k + 1 → p j := fun j hj => by
  by_cases e : j = k
  · subst e; exact hk
  · exact h j (by omega)

def ZaE (d : Db) (s : ByteArray) : Bool := decide (s ∈ d.consts) || decide (s ∈ d.vars)

def Zkv (s : ByteArray) (k : Nat) : Bool := (!decide (((ge s.data.toList k).toNat : Int) = (63 : Int))) && (!Zbn (s.extract k (k + 1)))
def Yz (s : ByteArray) : Bool := (decide (s = ⟨#[40]⟩) || decide (s = ⟨#[41]⟩)) || ((List.range s.size).all (fun k => !Zkv s k) && !decide (s = ⟨#[]⟩))
theorem ZhR {s : ByteArray} (h : s = ⟨#[40]⟩ ∨ s = ⟨#[41]⟩) : Yz s = true := by
  rcases h with h | h <;> simp [Yz, h]
theorem Zjb {s : ByteArray} {k : Nat} (h0 : ¬ s = ⟨#[40]⟩ ∧ ¬ s = ⟨#[41]⟩) (hk : k < s.size) (h : Zkv s k = true) : Yz s = false := by
  have : (List.range s.size).all (fun k => !Zkv s k) = false := by
    rw [List.all_eq_false]
    exact ⟨k, by simpa using hk, by simp [h]⟩
  simp [Yz, h0.1, h0.2, this]
theorem ZhS {s : ByteArray} (h0 : ¬ s = ⟨#[40]⟩ ∧ ¬ s = ⟨#[41]⟩) (h : ∀ j, j < s.size → Zkv s j = false) : Yz s = !decide (s = ⟨#[]⟩) := by
  have : (List.range s.size).all (fun k => !Zkv s k) = true := by
    rw [List.all_eq_true]
    intro k hk
    simp [h k (by simpa using hk)]
  simp [Yz, h0.1, h0.2, this]
def ofB (h : Hy) (vs : List ByteArray) : Bool := (h.floating && decide ((h.text.length : Int) = (2 : Int))) && decide (ge h.text 1 ∈ vs)
def ZlM (d : Db) (l : List ByteArray) : Bool := decide (ge l 0 ∈ d.consts) && (List.range l.length).all (fun j => decide (j = 0) || ZaE d (ge l j))
def QY (d : Db) (l : List ByteArray) : Int := if ZlM d l then 0 else 12
theorem ZjS {d : Db} {l : List ByteArray} (h : ¬ ge l 0 ∈ d.consts) : QY d l = 12 := by simp [QY, ZlM, h]
theorem Zhh {d : Db} {l : List ByteArray} {j : Nat} (h0 : 0 < j) (hj : j < l.length) (h : ZaE d (ge l j) = false) : QY d l = 12 := by
  have : (List.range l.length).all (fun j => decide (j = 0) || ZaE d (ge l j)) = false := by
    rw [List.all_eq_false]
    exact ⟨j, by simpa using hj, by simp [h, Nat.ne_of_gt h0]⟩
  simp [QY, ZlM, this]
theorem Zhg {d : Db} {l : List ByteArray} (h0 : ge l 0 ∈ d.consts) (h : ∀ j, 0 < j → j < l.length → ZaE d (ge l j) = true) : QY d l = 0 := by
  have : (List.range l.length).all (fun j => decide (j = 0) || ZaE d (ge l j)) = true := by
    rw [List.all_eq_true]
    intro k hk
    rcases Nat.eq_zero_or_pos k with h | h'
    · simp [h]
    · simp [h k h' (by simpa using hk)]
  simp [QY, ZlM, h0, this]
def ZbG : List ByteArray → List ByteArray → Nat
  | x :: xs, y :: ys => if x = y then ZbG xs ys + 1 else 0
  | _, _ => 0
theorem Zf3 : ∀ (xs ys : List ByteArray) (n : Nat), n ≤ xs.length → n ≤ ys.length → (∀ j, j < n → ge xs j = ge ys j) → ¬ (n < xs.length ∧ n < ys.length ∧ ge xs n = ge ys n) → n = ZbG xs ys
  | [], ys, n, h1, _, _, _ => by simp at h1; simp [ZbG, h1]
  | x :: xs, [], n, _, h2, _, _ => by simp at h2; simp [ZbG, h2]
  | x :: xs, y :: ys, n, h1, h2, h3, h4 => by
    simp only [ZbG]
    by_cases e : x = y
    · rw [if_pos e]
      obtain ⟨m, rfl⟩ : ∃ m, n = m + 1 := by
        cases n with
        | zero => exact absurd ⟨by simp, by simp, by simpa [ge] using e⟩ h4
        | succ m => exact ⟨m, rfl⟩
      rw [← Zf3 xs ys m (by simpa using h1) (by simpa using h2) (fun j hj => by simpa [ge] using h3 (j + 1) (by omega)) (fun ⟨a, b, c⟩ => h4 ⟨by simpa using a, by simpa using b, by simpa [ge] using c⟩)]
    · rw [if_neg e]
      cases n with
      | zero => rfl
      | succ m => exact absurd (by simpa [ge] using h3 0 (by omega)) e
def inV (vs : List ByteArray) (p : Pr) : Bool := decide (p.a ∈ vs) && decide (p.b ∈ vs)
theorem ZA {α : Type} [Inhabited α] {p : α → Bool} {xs : List α} {k : Nat} (h : k < xs.length) : (xs.take (k + 1)).filter p = (xs.take k).filter p ++ (if p (ge xs k) then [ge xs k] else []) := by
  rw [ZI h, List.filter_append]
  by_cases hp : p (ge xs k) = true <;> simp [hp]
theorem Zu {α : Type} {xs : List α} {k : Nat} (h : xs.length ≤ k) : xs.take k = xs := List.take_of_length_le h
def XM (vs : List ByteArray) (ws : List ByteArray) : List ByteArray := ws.foldl (fun out s => if decide (s ∈ vs) && !decide (s ∈ out) then out ++ [s] else out) []
theorem QU (vs ws : List ByteArray) (s : ByteArray) : XM vs (ws ++ [s]) = if decide (s ∈ vs) && !decide (s ∈ XM vs ws) then XM vs ws ++ [s] else XM vs ws := by simp [XM]
theorem Zcc (vs ws : List ByteArray) : (XM vs ws).Nodup ∧ (∀ x, x ∈ XM vs ws ↔ x ∈ ws ∧ x ∈ vs) := by
  have key : ∀ (r pre : List ByteArray), (XM vs pre).Nodup ∧ (∀ x, x ∈ XM vs pre ↔ x ∈ pre ∧ x ∈ vs) → (XM vs (pre ++ r)).Nodup ∧ (∀ x, x ∈ XM vs (pre ++ r) ↔ x ∈ pre ++ r ∧ x ∈ vs) := by
    intro r
    induction r with
    | nil => intro pre h; simpa using h
    | cons s r ih =>
      intro pre h
      have := ih (pre ++ [s]) (by
        rw [QU]
        obtain ⟨h1, h2⟩ := h
        by_cases hs : s ∈ vs
        · by_cases ho : s ∈ XM vs pre
          · simp only [hs, ho, decide_true, Bool.not_true, Bool.and_false, Bool.false_eq_true, if_false]
            refine ⟨h1, fun x => ?_⟩
            rw [h2]
            have := (h2 s).1 ho
            grind
          · simp only [hs, ho, decide_true, decide_false, Bool.not_false, Bool.and_self, if_true]
            refine ⟨?_, fun x => ?_⟩
            · rw [List.nodup_append]
              exact ⟨h1, by simp, fun a ha b hb => by simp at hb; subst hb; intro e; subst e; exact ho ha⟩
            · have := h2 x
              grind
        · simp only [hs, decide_false, Bool.false_and, Bool.false_eq_true, if_false]
          refine ⟨h1, fun x => ?_⟩
          have := h2 x
          grind)
      simpa using this
  simpa using key ws [] ⟨by simp [XM], by simp [XM]⟩
theorem Q7 : ∀ {xs ys : List ByteArray}, xs.Nodup → (∀ x ∈ xs, x ∈ ys) → xs.length ≤ ys.length
  | [], _, _, _ => by simp
  | x :: xs, ys, h, hs => by
    have h1 := List.nodup_cons.1 h
    have h2 := Q7 (xs := xs) (ys := ys.erase x) h1.2 fun z hz => by
      have hne : z ≠ x := fun e => h1.1 (e ▸ hz)
      exact (List.mem_erase_of_ne hne).2 (hs z (by simp [hz]))
    have h3 := List.length_erase_of_mem (hs x (by simp))
    have h4 : 0 < ys.length := List.length_pos_of_mem (hs x (by simp))
    simp only [List.length_cons]
    omega
theorem Zjr (vs ws : List ByteArray) : (XM vs ws).length ≤ vs.length := Q7 (Zcc vs ws).1 fun x hx => ((Zcc vs ws).2 x).1 hx |>.2

def Yt (hs : List Hy) : List Hy := hs.filter fun h => !h.floating
def hysF (fs : List Fr) : List Hy := fs.flatMap fun f => f.hyps ++ f.dummies
end Go.Proofs.YtnpgmdffjemnbaaGreatDoor
namespace Go.Proofs.YtnpgmdffjemnbaaGreatDoor
open Go.RowKit Go.Shelf Go.Lib

theorem Zhy {x : Nat} (h : 128 ≤ x) : Zin x = true := by
  simp [Zin, show ¬ x < 128 by omega, show ¬ x ≤ 122 by omega, show ¬ x ≤ 90 by omega, show ¬ x ≤ 57 by omega]
def ZmK (c : UInt8) : Bool := (!decide ((c.toNat : Int) = (63 : Int))) && Zio c
theorem ZmJ : ∀ n : Fin 256, Zin (UInt8.ofNat n).toNat = ZmK (UInt8.ofNat n) := by decide +kernel
theorem Zfg (c : UInt8) : Zin c.toNat = ZmK c := by
  have := ZmJ ⟨c.toNat, c.toNat_lt⟩
  simpa using this
theorem ZlF {s : ByteArray} {k : Nat} (hk : k < s.size) : Zbn (s.extract k (k + 1)) = !Zio (bt s k) := by
  have hl : (s.extract k (k + 1)).data.toList = [bt s k] := by
    rw [ByteArray.data_extract, Array.toList_extract]
    have h1 : k < s.data.toList.length := by rw [QW]; exact hk
    rw [List.extract_eq_take_drop, show k + 1 - k = 1 by omega, List.drop_eq_getElem_cons h1, List.take_succ_cons, List.take_zero, bt, Xz h1]
  have hz : (s.extract k (k + 1)).size = 1 := by rw [← QW, hl]; rfl
  have hne : ¬ s.extract k (k + 1) = ⟨#[]⟩ := fun e => by rw [e] at hz; exact absurd hz (by decide)
  unfold Zbn
  rw [hl, hz]
  simp [hne]
theorem Zfh {s : ByteArray} {k : Nat} (hk : k < s.size) : Zkv s k = ZmK (bt s k) := by
  rw [Zkv, ZlF hk, Bool.not_not, ZmK]
theorem Znn {s : ByteArray} {k : Nat} (hk : k < s.size) : s[k]'hk = bt s k := by
  have h1 : k < s.data.toList.length := by rw [QW]; exact hk
  rw [bt, Xz h1]
  rfl
theorem Zid (s : ByteArray) (k : Nat) (hk : k < s.size) (h : 128 ≤ (s[k]'hk).toNat) : 128 ≤ (Utf8.decode s k).1 := by
  have h0 : (s.get! (k + 0)).toNat = (s[k]'hk).toNat := by
    rw [show s.get! (k + 0) = s[k]'hk by show s.get! k = _; simp [ByteArray.get!, getElem!_pos, hk]; rfl]
  unfold Utf8.decode
  simp only [Utf8.runeError]
  rw [if_neg (by omega)]
  repeat' split
  all_goals first | (simp; done) | (simp_all; done) | (simp_all; omega)
theorem Zcp {s : ByteArray} {l : Array UInt8} : decide (s = ⟨l⟩) = decide (s.toList = l.toList) := by
  rw [Bool.eq_iff_iff, decide_eq_true_eq, decide_eq_true_eq, ByteArray.toList_eq]
  exact ⟨fun h => by rw [h], fun h => ByteArray.ext (Array.toList_inj.1 h)⟩
theorem ZeU (s : ByteArray) : ∀ (f pos : Nat), s.size ≤ pos + f → (0 ≤ Lib.idxFuncFrom Zin true s f pos ↔ ∃ k, pos ≤ k ∧ k < s.size ∧ ZmK (bt s k) = true)
  | 0, pos, h => by
    simp only [Lib.idxFuncFrom]
    constructor
    · intro h; omega
    · rintro ⟨k, h1, h2, _⟩; omega
  | f + 1, pos, h => by
    simp only [Lib.idxFuncFrom]
    by_cases hp : pos < s.size
    · rw [if_pos hp]
      by_cases ha : (s[pos]'hp).toNat < 128
      · rw [decode_ascii s pos hp ha]
        have e : Zin (s[pos]'hp).toNat = ZmK (bt s pos) := by rw [Zfg, Znn hp]
        simp only [e]
        by_cases hb : ZmK (bt s pos) = true
        · rw [if_pos hb]
          exact ⟨fun _ => ⟨pos, Nat.le_refl _, hp, hb⟩, fun _ => Int.natCast_nonneg _⟩
        · rw [if_neg hb, ZeU s f (pos + 1) (by omega)]
          constructor
          · rintro ⟨k, h1, h2, h3⟩; exact ⟨k, by omega, h2, h3⟩
          · rintro ⟨k, h1, h2, h3⟩
            refine ⟨k, ?_, h2, h3⟩
            by_cases e : k = pos
            · subst e; exact absurd h3 hb
            · omega
      · have e : ZmK (bt s pos) = true := by
          rw [← Zfg, ← Znn hp]; exact Zhy (by omega)
        rw [if_pos (Zhy (Zid s pos hp (by omega)))]
        exact ⟨fun _ => ⟨pos, Nat.le_refl _, hp, e⟩, fun _ => Int.natCast_nonneg _⟩
    · rw [if_neg hp]
      constructor
      · intro h; omega
      · rintro ⟨k, h1, h2, _⟩; omega
theorem ZjM (s : ByteArray) : (!decide (0 ≤ Lib.idxFunc Zin true s)) = (List.range s.size).all fun k => !Zkv s k := by
  have := ZeU s s.size 0 (by omega)
  rw [← Lib.idxFunc] at this
  rw [Bool.eq_iff_iff, Bool.not_eq_true', decide_eq_false_iff_not, this, List.all_eq_true]
  constructor
  · intro h k hk
    have hk' : k < s.size := by simpa using hk
    rw [Zfh hk']
    cases hb : ZmK (bt s k) with
    | false => rfl
    | true => exact absurd ⟨k, Nat.zero_le _, hk', hb⟩ h
  · rintro h ⟨k, _, h2, h3⟩
    have := h k (by simpa using h2)
    rw [Zfh h2, h3] at this
    exact absurd this (by decide)
set_option maxHeartbeats 2000000 in
set_option maxRecDepth 1000000 in
theorem Zh1 (s : ByteArray) (w : World) : Calls Tryz.prog 178 #[.string s] w fun e w' => e = .returned (.bool (Yz s)) ∧ Below w.heap.size w w' := by
  have hF := Tryz.strings_ContainsFunc_grows 183 #[] (Zp Tryz.func183 rfl rfl) Zin s w fun W x _ _ => Zh2 x W
  obtain ⟨b, hb⟩ : ∃ b, decide (0 ≤ Lib.idxFunc Zin true s) = b := ⟨_, rfl⟩
  have hspec : Yz s = ((decide (s.toList = [40]) || decide (s.toList = [41])) || (!b && !decide (s.toList = []))) := by
    rw [Yz, ← ZjM, hb, Zcp, Zcp, Zcp]
  rw [hb] at hF
  rw [hspec]
  clear hspec hb
  go_enter Tryz.func178, Tryz.ntmps178
  go_wp2_with (go_at_call 182; refine hF.mono ?_; rintro e w' ⟨rfl, hb⟩)
  all_goals
    go_ret
    exact ⟨by simp_all, by first | exact hb | exact Below.refl _ _⟩
end Go.Proofs.YtnpgmdffjemnbaaGreatDoor
namespace Go.Proofs.YtnpgmdffjemnbaaGreatDoor

theorem Xv {α : Type} [Inhabited α] {p : α → Bool} {xs : List α} {k : Nat} (h : k < xs.length) : (xs.take (k + 1)).any p = ((xs.take k).any p || p (ge xs k)) := by
  rw [ZI h, List.any_append]; simp
theorem Y4 {α : Type} [Inhabited α] {p : α → Bool} {xs : List α} {k : Nat} (h : k < xs.length) : (xs.take (k + 1)).all p = ((xs.take k).all p && p (ge xs k)) := by
  rw [ZI h, List.all_append]; simp
theorem X0 {α : Type} [Inhabited α] {p : α → Bool} {xs : List α} {k : Nat} (h : k < xs.length) (hp : p (ge xs k) = true) : xs.any p = true := List.any_eq_true.2 ⟨_, Zg h, hp⟩
theorem Xw {α : Type} [Inhabited α] {p : α → Bool} {xs : List α} {k : Nat} (h : (xs.take k).any p = false) (hk : xs.length ≤ k) : xs.any p = false := by rwa [Zu hk] at h
theorem Xx {α : Type} [Inhabited α] {p : α → Bool} {xs : List α} {k : Nat} (h : k < xs.length) (h0 : (xs.take k).any p = false) (hp : p (ge xs k) = false) : (xs.take (k + 1)).any p = false := by rw [Xv h, h0, hp]; rfl

def frL (d : Db) (n : Nat) (s : ByteArray) : Bool := (d.frames.take n).any fun f => decide (f.label = s)
def hyL (d : Db) (n : Nat) (s : ByteArray) : Bool := (d.frames.take n).any fun f => (f.hyps ++ f.dummies).any fun h => decide (h.label = s)
def oth (d : Db) (k : Nat) : List Hy := hysF (d.frames.take k)
theorem ZgX (d : Db) : oth d 0 = [] := rfl
theorem Q6 {d : Db} {k : Nat} (h : k < d.frames.length) : oth d (k + 1) = oth d k ++ ((ge d.frames k).hyps ++ (ge d.frames k).dummies) := by
  simp [oth, hysF, ZI h]

def Qd (y : Hy) (dm : Bool) : Bool := ((!Zbn y.label || (dm && !y.floating)) || (y.floating && !decide (((y.text.length : Nat) : Int) = 2))) || (!y.floating && (decide (((y.text.length : Nat) : Int) = 0) || decide (200 < ((y.text.length : Nat) : Int))))
theorem Yf {y : Hy} {dm : Bool} (h : Qd y dm = false) (hf : y.floating = true) : y.text.length = 2 := by
  simp [Qd, hf] at h; omega
theorem ZeY {y : Hy} {dm : Bool} (h : Qd y dm = false) : 0 < y.text.length := by
  cases hf : y.floating with
  | true => have := Yf h hf; omega
  | false => simp [Qd, hf] at h; exact List.length_pos_iff.2 (by grind)
def Zdd (d : Db) (y : Hy) : Bool := y.floating && (!decide (ge y.text 0 ∈ d.consts) || !decide (ge y.text 1 ∈ d.vars))
def Zh5 (y x : Hy) : Bool := decide (x.label = y.label)
def hOf (y x : Hy) : Bool := ofB x (y.text.drop 1)
def ZeX (y x : Hy) : Bool := ofB x (y.text.drop 1) && !decide (ge x.text 0 = ge y.text 0)
def Zba (y x : Hy) : Bool := decide (x.label = y.label) && !Zh4 x y
theorem Zjq {x : Hy} {vs : List ByteArray} (h : ofB x vs = true) : x.text.length = 2 := by
  simp [ofB] at h; omega
def Zbo (d : Db) (k : Nat) (y : Hy) (bs : List Hy) (dm : Bool) : Int :=
  if Qd y dm then 2 else if frL d (k + 1) y.label || ZaE d y.label then 6 else if bs.any (Zh5 y) then 6
  else if Zdd d y then 12 else if !y.floating && !decide (QY d y.text = 0) then QY d y.text
  else if y.floating && (oth d k ++ bs).any (ZeX y) then 11 else if y.floating && bs.any (hOf y) then 6
  else if (oth d k).any (Zba y) then 6 else 0

def YN (n : Nat) (g : Nat → Int) : Int := match (List.range n).find? (fun i => !decide (g i = 0)) with | some i => g i | none => 0
theorem Xb {n : Nat} {g : Nat → Int} (h : ∀ j, j < n → g j = 0) : YN n g = 0 := by
  have : (List.range n).find? (fun i => !decide (g i = 0)) = none := by
    rw [List.find?_eq_none]
    intro x hx
    simp [h x (by simpa using hx)]
  rw [YN, this]
theorem Z3 {n k : Nat} {g : Nat → Int} (hk : k < n) (h : ∀ j, j < k → g j = 0) (hg : g k ≠ 0) : YN n g = g k := by
  have : (List.range n).find? (fun i => !decide (g i = 0)) = some k := by
    rw [List.find?_eq_some_iff_getElem]
    refine ⟨by simp [hg], k, by simpa using hk, by simp, fun j hj => ?_⟩
    simp [h j hj]
  rw [YN, this]
theorem Zab {n : Nat} {g : Nat → Int} (h : YN n g = 0) : ∀ j, j < n → g j = 0 := by
  intro j hj
  rw [YN] at h
  split at h
  · rename_i i hi
    have := List.find?_some hi
    simp [h] at this
  · rename_i hi
    rw [List.find?_eq_none] at hi
    simpa using hi j (by simpa using hj)

def ltP (x y : Pr) : Bool := Op.bytesLess x.a.toList y.a.toList || (decide (x.a = y.a) && Op.bytesLess x.b.toList y.b.toList)
def ZaK : List Pr → Pr → List Pr
  | [], p => [p]
  | x :: xs, p => if ltP x p then x :: ZaK xs p else if ZcJ x p then x :: xs else p :: x :: xs
theorem ZfL : ∀ (l : List Pr) (p : Pr) (k : Nat), k ≤ l.length → (∀ j, j < k → ltP (ge l j) p = true) → ¬ (k < l.length ∧ ltP (ge l k) p = true) →
    ZaK l p = if k < l.length ∧ ZcJ (ge l k) p = true then l else l.take k ++ p :: l.drop k
  | [], p, k, h1, _, _ => by simp at h1; subst h1; simp [ZaK]
  | x :: xs, p, 0, _, _, h3 => by
    have : ltP x p = false := by simpa [ge] using h3
    simp only [ZaK, this]
    by_cases e : ZcJ x p = true <;> simp [e, ge]
  | x :: xs, p, k + 1, h1, h2, h3 => by
    have h0 : ltP x p = true := by simpa [ge] using h2 0 (by omega)
    have ih := ZfL xs p k (by simpa using h1) (fun j hj => by simpa [ge] using h2 (j + 1) (by omega)) (fun ⟨a, b⟩ => h3 ⟨by simpa using a, by simpa [ge] using b⟩)
    simp only [ZaK, h0, if_true, ih]
    by_cases e : k < xs.length ∧ ZcJ (ge xs k) p = true
    · have e' : k + 1 < (x :: xs).length ∧ ZcJ (ge (x :: xs) (k + 1)) p = true := ⟨by simpa using e.1, by simpa [ge] using e.2⟩
      rw [if_pos e, if_pos e']
    · have e' : ¬ (k + 1 < (x :: xs).length ∧ ZcJ (ge (x :: xs) (k + 1)) p = true) := fun ⟨a, b⟩ => e ⟨by simpa using a, by simpa [ge] using b⟩
      rw [if_neg e, if_neg e']; rfl
theorem ZgT (l : List Pr) (p : Pr) : (ZaK l p).length ≤ l.length + 1 := by
  induction l with
  | nil => simp [ZaK]
  | cons x xs ih => simp only [ZaK]; split <;> (try split) <;> simp <;> omega
def ZcM (w z : List Pr) : List Pr := (w ++ z).foldl ZaK []
theorem Zck {α β : Type} [Inhabited α] {f : β → α → β} {a : β} {xs : List α} {k : Nat} (h : k < xs.length) : (xs.take (k + 1)).foldl f a = f ((xs.take k).foldl f a) (ge xs k) := by
  rw [ZI h, List.foldl_append]; rfl

def XF (d : Db) (f : Fr) : List ByteArray := XM d.vars (f.text :: (Yt f.hyps).map Hy.text).flatten
def Zbe (hs : List Hy) : List ByteArray := (hs.filter fun h => h.floating).map fun h => ge h.text 1
def hIn (m : List ByteArray) (h : Hy) : Bool := !h.floating || ofB h m
def ZoT (d : Db) (p : Pr) : Bool := (!Op.bytesLess p.a.toList p.b.toList || !decide (p.a ∈ d.vars)) || !decide (p.b ∈ d.vars)
def Zbt (d : Db) (f : Fr) : Bool :=
  ((f.hyps.all (hIn (XF d f)) && (XF d f).all fun s => decide (s ∈ Zbe f.hyps)) && !f.wide.any (ZoT d)) && (decide (f.wide = ZcM f.wide []) && decide (f.apart = f.wide.filter (inV (XF d f))))

def Zgj (d : Db) (k : Nat) : List ByteArray := if k = 0 then [] else (Yt (ge d.frames (k - 1)).hyps).map Hy.label
def Zao (d : Db) (k i : Nat) : Int := Zbo d k (ge ((ge d.frames k).hyps ++ (ge d.frames k).dummies) i) (((ge d.frames k).hyps ++ (ge d.frames k).dummies).take i) (decide ((((ge d.frames k).hyps.length : Nat) : Int) ≤ ((i : Nat) : Int)))
def Zkt (d : Db) (k : Nat) : Int := YN ((ge d.frames k).hyps ++ (ge d.frames k).dummies).length (Zao d k)
theorem ZaM {d : Db} {k : Nat} {y : Hy} {bs : List Hy} {dm : Bool} (h : Zbo d k y bs dm = 0) : Qd y dm = false := by
  cases hf : Qd y dm with
  | false => rfl
  | true => simp [Zbo, hf] at h
theorem Zlz {d : Db} {k : Nat} (h : Zkt d k = 0) : ∀ y ∈ (ge d.frames k).hyps ++ (ge d.frames k).dummies, y.floating = true → y.text.length = 2 := fun y hy hf => by
  obtain ⟨j, hj, rfl⟩ := Y6 hy
  exact Yf (ZaM (Zab h j hj)) hf
theorem ZlQ {α : Type} [Inhabited α] {p : α → Bool} {xs : List α} {c i : Nat} (h1 : c ≤ i) (h2 : i < xs.length) (hp : p (ge xs i) = true) : (xs.drop c).any p = true := by
  rw [List.any_eq_true]
  refine ⟨ge xs i, ?_, hp⟩
  rw [List.mem_drop_iff_getElem]
  exact ⟨i - c, by omega, by simp [ge, List.getD_eq_getElem?_getD, Nat.add_sub_cancel' h1, List.getElem?_eq_getElem h2]⟩
theorem ZjZ {α : Type} [Inhabited α] {p : α → Bool} {xs : List α} {c : Nat} (h : ∀ i, c ≤ i → i < xs.length → p (ge xs i) = false) : (xs.drop c).any p = false := by
  rw [List.any_eq_false]
  intro x hx
  rw [List.mem_drop_iff_getElem] at hx
  obtain ⟨i, hi, rfl⟩ := hx
  have := h (c + i) (by omega) (by omega)
  simp only [ge, List.getD_eq_getElem?_getD, List.getElem?_eq_getElem (show c + i < xs.length by omega), Option.getD_some] at this
  simpa [Nat.add_comm] using this
theorem Zf2 : ∀ (xs ys : List ByteArray), ZbG xs ys ≤ ys.length
  | [], _ => by simp [ZbG]
  | _ :: _, [] => by simp [ZbG]
  | x :: xs, y :: ys => by
    simp only [ZbG, List.length_cons]
    have := Zf2 xs ys
    split <;> omega
def ordB (d : Db) (k : Nat) (f : Fr) : Bool := (((Yt f.hyps).map Hy.label).drop (ZbG (Zgj d k) ((Yt f.hyps).map Hy.label))).any (hyL d k)
theorem Q8 {p : Prop} [Decidable p] (h : (!decide p) = true) : ¬ p := by simpa using h
theorem Zcd {p : Prop} [Decidable p] (h : (!decide p) = false) : p := by simpa using h
def ZaY (d : Db) (k : Nat) (f : Fr) : Int :=
  if !Zbn f.label then 2 else if (frL d k f.label || hyL d k f.label) || ZaE d f.label then 6
  else if decide (40 < ((f.hyps.length : Nat) : Int)) || decide (40 < ((f.dummies.length : Nat) : Int)) then 4
  else if !decide (Zkt d k = 0) then Zkt d k
  else if decide (((f.text.length : Nat) : Int) = 0) || decide (200 < ((f.text.length : Nat) : Int)) then 2
  else if !decide (QY d f.text = 0) then QY d f.text
  else if !Zbt d f then 70
  else if (decide (0 < ((f.proof.length : Nat) : Int)) && !f.thm) || decide (8000 < ((f.proof.length : Nat) : Int)) then 2
  else if !f.proof.all Yz then 2
  else if ordB d k f then 7 else 0
def frE (d : Db) (k : Nat) : Int := ZaY d k (ge d.frames k)
theorem Zhf {d : Db} {k : Nat} (h : frE d k = 0) : (ge d.frames k).hyps.length ≤ 40 ∧ (ge d.frames k).dummies.length ≤ 40 := by
  rw [frE, ZaY] at h
  split at h
  · simp at h
  split at h
  · simp at h
  split at h
  · simp at h
  rename_i h0
  simp at h0
  omega
def ZcO (d : Db) (i : Nat) : Int := if !Zdt (ge d.consts i) then 2 else if decide (ge d.consts i ∈ d.consts.take i) then 6 else 0
def Zeb (d : Db) (i : Nat) : Int := if !Zdt (ge d.vars i) then 2 else if decide (ge d.vars i ∈ d.consts) || decide (ge d.vars i ∈ d.vars.take i) then 6 else 0
def Q1 (d : Db) : Int := if !decide (YN d.consts.length (ZcO d) = 0) then YN d.consts.length (ZcO d) else YN d.vars.length (Zeb d)
def Xk (d : Db) : Int :=
  if (decide (400 < ((d.frames.length : Nat) : Int)) || decide (8000 < ((d.consts.length : Nat) : Int))) || decide (8000 < ((d.vars.length : Nat) : Int)) then 8
  else if !decide (Q1 d = 0) then Q1 d else YN d.frames.length (frE d)

end Go.Proofs.YtnpgmdffjemnbaaGreatDoor
namespace Go.Proofs.YtnpgmdffjemnbaaGreatDoor

def X9 (l : List ByteArray) : List ByteArray := if decide (0 < l.length) && decide (ge l 0 = ⟨#[40]⟩) then (l.drop 1).takeWhile (fun s => !decide (s = ⟨#[41]⟩)) else l
theorem QN {α : Type} [Inhabited α] {p : α → Bool} : ∀ {l : List α} {n : Nat}, n ≤ l.length → (∀ j, j < n → p (ge l j) = true) → ¬ (n < l.length ∧ p (ge l n) = true) → l.take n = l.takeWhile p
  | [], n, h, _, _ => by simp
  | x :: xs, 0, _, _, h3 => by
    have : p x = false := by simpa [ge] using h3
    simp [this]
  | x :: xs, n + 1, h1, h2, h3 => by
    have h0 : p x = true := by simpa [ge] using h2 0 (by omega)
    rw [List.take_succ_cons, List.takeWhile_cons_of_pos h0, QN (p := p) (l := xs) (n := n) (by simpa using h1) (fun j hj => by simpa [ge] using h2 (j + 1) (by omega)) (fun hab => h3 ⟨by simpa using hab.1, by simpa [ge] using hab.2⟩)]
theorem Zhd {l : List ByteArray} {j : Nat} : ge (l.drop 1) j = ge l (j + 1) := by simp [ge, List.getD_eq_getElem?_getD]
theorem ZeO {l : List ByteArray} {n : Nat} (h0 : 0 < l.length ∧ ge l 0 = ⟨#[40]⟩) (h1 : 1 ≤ n) (h2 : n ≤ l.length) (h3 : ∀ j, 1 ≤ j → j < n → ge l j ≠ ⟨#[41]⟩) (h4 : n < l.length → ge l n = ⟨#[41]⟩) : (l.take n).drop 1 = X9 l := by
  rw [X9, if_pos (by simp [h0.1, h0.2]), List.drop_take]
  refine QN (by simp; omega) (fun j hj => ?_) fun ⟨a, b⟩ => ?_
  · rw [Zhd]; simpa using h3 (j + 1) (by omega) (by omega)
  · rw [Zhd, show n - 1 + 1 = n by omega] at b
    simp only [List.length_drop] at a
    simp [h4 (by omega)] at b
theorem Ql {l : List ByteArray} (h : 0 < l.length → ¬ ge l 0 = ⟨#[40]⟩) : l = X9 l := by
  rw [X9, if_neg (by simpa using h)]
def QK (d : Db) (ws : List ByteArray) (k : Nat) : List Int := ((List.range k).filter fun q => decide ((ge d.frames q).label ∈ ws)).map fun (q : Nat) => (q : Int)
theorem ZhD (d : Db) (ws : List ByteArray) (k : Nat) : QK d ws (k + 1) = QK d ws k ++ (if (ge d.frames k).label ∈ ws then [(k : Int)] else []) := by
  rw [QK, QK, List.range_succ, List.filter_append, List.map_append]
  by_cases h : (ge d.frames k).label ∈ ws <;> simp [h]
theorem Zgp {d : Db} {ws : List ByteArray} {k : Nat} {x : Int} (h : x ∈ QK d ws k) : 0 ≤ x ∧ x < k := by
  simp only [QK, List.mem_map, List.mem_filter, List.mem_range] at h
  obtain ⟨q, ⟨h1, _⟩, rfl⟩ := h
  omega
theorem Zej (d : Db) (ws : List ByteArray) (k : Nat) : (QK d ws k).length ≤ k := by
  rw [QK, List.length_map]
  exact Nat.le_trans (List.length_filter_le _ _) (by simp)
def Qg (d : Db) (ws : List ByteArray) (k n : Nat) : List Int := QK d ws k ++ (if (ge d.frames k).label ∈ ws.take n then [(k : Int)] else [])
theorem ZkD (d : Db) (ws : List ByteArray) (k : Nat) : ¬ (k : Int) ∈ QK d ws k := fun h => by have := Zgp h; omega
theorem Qw {xs : List ByteArray} {n : Nat} {s : ByteArray} (h : n < xs.length) : s ∈ xs.take (n + 1) ↔ s ∈ xs.take n ∨ s = ge xs n := by rw [ZI h]; simp
theorem Zeg {d : Db} {ws : List ByteArray} {k n : Nat} : (k : Int) ∈ Qg d ws k n ↔ (ge d.frames k).label ∈ ws.take n := by
  rw [Qg, List.mem_append]
  have := ZkD d ws k
  by_cases h : (ge d.frames k).label ∈ ws.take n <;> simp [h, this]
theorem ZaA {d : Db} {ws : List ByteArray} {k n : Nat} (hn : n < ws.length) (h : ge ws n = (ge d.frames k).label) (h0 : ¬ (k : Int) ∈ Qg d ws k n) : Qg d ws k n ++ [(k : Int)] = Qg d ws k (n + 1) := by
  rw [Zeg] at h0
  rw [Qg, Qg, if_neg h0, if_pos ((Qw hn).2 (.inr h.symm)), List.append_nil]
theorem ZcT {d : Db} {ws : List ByteArray} {k n : Nat} (hn : n < ws.length) (h : ge ws n = (ge d.frames k).label → (k : Int) ∈ Qg d ws k n) : Qg d ws k n = Qg d ws k (n + 1) := by
  rw [Zeg] at h
  rw [Qg, Qg]
  by_cases h0 : (ge d.frames k).label ∈ ws.take n
  · rw [if_pos h0, if_pos ((Qw hn).2 (.inl h0))]
  · rw [if_neg h0, if_neg fun h1 => ((Qw hn).1 h1).elim h0 fun e => h0 (h e.symm)]
theorem Zei {d : Db} {ws : List ByteArray} {k n : Nat} (hn : ws.length ≤ n) : Qg d ws k n = QK d ws (k + 1) := by rw [Qg, Zu hn, ZhD]
theorem Zeh (d : Db) (ws : List ByteArray) (k n : Nat) : (Qg d ws k n).length ≤ k + 1 := by
  rw [Qg, List.length_append]
  have := Zej d ws k
  split <;> simp <;> omega
def ZT (d : Db) (i : Nat) : List Int := if (ge d.frames i).thm then QK d (X9 (ge d.frames i).proof) i else []
def ZX (d : Db) (s : ByteArray) : Int := match d.frames.findIdx? (fun f => decide (f.label = s)) with | some i => (i : Int) | none => -1
theorem Ze5 {d : Db} {s : ByteArray} {k : Nat} (hk : k < d.frames.length) (h : (ge d.frames k).label = s) (h0 : ∀ j, j < k → ¬ (ge d.frames j).label = s) : ZX d s = (k : Int) := by
  have : d.frames.findIdx? (fun f => decide (f.label = s)) = some k := by
    rw [List.findIdx?_eq_some_iff_getElem]
    refine ⟨hk, ?_, fun j hj => ?_⟩
    · simpa [ge, List.getD_eq_getElem?_getD, List.getElem?_eq_getElem hk] using h
    · have := h0 j hj
      simpa [ge, List.getD_eq_getElem?_getD, List.getElem?_eq_getElem (show j < d.frames.length by omega)] using this
  rw [ZX, this]
theorem Zdi {d : Db} {s : ByteArray} (h0 : ∀ j, j < d.frames.length → ¬ (ge d.frames j).label = s) : ZX d s = -1 := by
  have : d.frames.findIdx? (fun f => decide (f.label = s)) = none := by
    rw [List.findIdx?_eq_none_iff]
    intro x hx
    obtain ⟨j, hj, rfl⟩ := Y6 hx
    simpa using h0 j hj
  rw [ZX, this]
def Zif (d : Db) (i : Int) : Int := if !decide (Xk d = 0) then Xk d else if decide (i < 0) || decide (((d.frames.length : Nat) : Int) ≤ i) then 3 else 0
theorem Zie {d : Db} {i : Int} (h : Zif d i = 0) : Xk d = 0 ∧ 0 ≤ i ∧ i < d.frames.length := by
  rw [Zif] at h
  split at h
  · rename_i h0; simp [h] at h0
  · rename_i h0
    split at h
    · simp at h
    · rename_i h1
      simp at h0 h1
      exact ⟨h0, by omega, by omega⟩
theorem Xt {d : Db} (h : Xk d = 0) : d.frames.length ≤ 400 := by
  rw [Xk] at h
  split at h
  · simp at h
  · rename_i h0
    simp at h0
    omega
end Go.Proofs.YtnpgmdffjemnbaaGreatDoor
