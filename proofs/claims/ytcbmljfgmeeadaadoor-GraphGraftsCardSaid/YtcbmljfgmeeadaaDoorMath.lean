/-
  THE GRAPHS OF STEPS IN PLAIN LEAN: what each function computes, said of lists, with no program in sight.
-/
namespace Go.Proofs.YtcbmljfgmeeadaaDoor

/-- A step of a proof. -/
structure Stp where
  label : ByteArray
  args : List Int

/-- The place of the first element that passes, or -1. -/
def firstAt {α : Type} (p : α → Bool) : List α → Nat → Int
  | [], _ => -1
  | x :: r, i => if p x then (i : Int) else firstAt p r (i + 1)

theorem firstAt_any {α : Type} (p : α → Bool) : ∀ (xs : List α) (i : Nat), decide (0 ≤ firstAt p xs i) = xs.any p
  | [], i => by simp [firstAt]
  | x :: r, i => by
    simp only [firstAt, List.any_cons]
    by_cases h : p x = true
    · simp [h]
    · simp only [h]
      have := firstAt_any p r (i + 1)
      simp [this]

theorem firstAt_lt {α : Type} (p : α → Bool) : ∀ (xs : List α) (i : Nat), -1 ≤ firstAt p xs i ∧ firstAt p xs i < i + xs.length + 1
  | [], i => by simp [firstAt]; omega
  | x :: r, i => by
    simp only [firstAt]
    have := firstAt_lt p r (i + 1)
    split
    · simp; omega
    · simp only [List.length_cons]; omega

def badArg (i : Int) (a : Int) : Bool := decide (a < 0) || decide (i ≤ a)

def formGo : Nat → List Stp → Int
  | _, [] => 0
  | i, s :: r => if 40 < s.args.length then 4 else if s.args.any (badArg i) then 3 else formGo (i + 1) r
def formM (ss : List Stp) : Int := if ss.length < 1 ∨ 2000 < ss.length then 4 else formGo 0 ss

def fewM (ss : List Stp) (most : Int) : Bool := decide ((ss.length : Int) ≤ most) && !(ss.any fun s => decide (60 < s.args.length))

/-- A row that is filled from the left: one more place. -/
theorem fill_set {α : Type} (L : List α) (z : α) (k : Nat) (h : k < L.length) :
    (L.take k ++ List.replicate (L.length - k) z).set k L[k] = L.take (k + 1) ++ List.replicate (L.length - (k + 1)) z := by
  have hlen : (L.take k).length = k := by rw [List.length_take]; omega
  rw [List.set_append_right _ _ (by omega), hlen, Nat.sub_self, List.take_succ_eq_append_getElem h]
  obtain ⟨m, hm⟩ : ∃ m, L.length - k = m + 1 := ⟨L.length - k - 1, by omega⟩
  rw [hm, List.replicate_succ, List.set_cons_zero, show L.length - (k + 1) = m by omega, List.append_assoc]
  rfl
theorem fill_get {α : Type} (L : List α) (z : α) (k : Nat) (h : k < L.length) : (L.take k ++ List.replicate (L.length - k) z)[k]? = some z := by
  have hlen : (L.take k).length = k := by rw [List.length_take]; omega
  rw [List.getElem?_append_right (by omega), hlen, Nat.sub_self, List.getElem?_replicate, if_pos (by omega)]

end Go.Proofs.YtcbmljfgmeeadaaDoor
