/-
  PLAIN LAW: the key of a step tells it; so the map finds a step where it lies.
-/
import Derived.Test.YtcbmljfgmeeadaaDoorG15
import Derived.Test.YtcbmljfgmeeadaaDoorShr
namespace Go.Proofs.YtcbmljfgmeeadaaDoor

def unDec (l : List UInt8) : Nat := l.foldl (fun acc b => acc * 10 + (b.toNat - 48)) 0

theorem unDec_snoc (l : List UInt8) (b : UInt8) : unDec (l ++ [b]) = unDec l * 10 + (b.toNat - 48) := by simp [unDec]

theorem decDigits_spec (u : Nat) : unDec (Lib.decDigits u) = u ∧ ∀ b ∈ Lib.decDigits u, 48 ≤ b.toNat ∧ b.toNat ≤ 57 := by
  induction u using Nat.strongRecOn with
  | _ u ih =>
    have hb : ∀ d : Nat, d < 10 → (UInt8.ofNat (48 + d)).toNat = 48 + d := fun d hd => by
      rw [UInt8.toNat_ofNat']; omega
    by_cases h : u < 10
    · rw [Lib.decDigits, dif_pos h]
      have h1 := hb u h
      refine ⟨?_, ?_⟩
      · show 0 * 10 + ((UInt8.ofNat (48 + u)).toNat - 48) = u
        rw [h1]; omega
      · intro b hb2
        simp only [List.mem_singleton] at hb2
        rw [hb2, h1]; omega
    · rw [Lib.decDigits, dif_neg h]
      obtain ⟨i1, i2⟩ := ih (u / 10) (by omega)
      have h1 := hb (u % 10) (by omega)
      refine ⟨?_, ?_⟩
      · rw [unDec_snoc, i1, h1]; omega
      · intro b hb2
        rcases List.mem_append.1 hb2 with h2 | h2
        · exact i2 b h2
        · simp only [List.mem_singleton] at h2
          rw [h2, h1]; omega

theorem decDigits_inj {a b : Nat} (h : Lib.decDigits a = Lib.decDigits b) : a = b := by
  rw [← (decDigits_spec a).1, ← (decDigits_spec b).1, h]

theorem itoa_inj {a b : Int} (h : Lib.itoa a = Lib.itoa b) : a = b := by
  have no : ∀ (u v : Nat), Lib.decDigits u ≠ 45 :: Lib.decDigits v := fun u v he => by
    have := (decDigits_spec u).2 45 (by rw [he]; simp)
    have h45 : (45 : UInt8).toNat = 45 := rfl
    omega
  unfold Lib.itoa at h
  split at h <;> split at h
  · have := decDigits_inj (List.cons.inj h).2
    omega
  · exact absurd h.symm (no _ _)
  · exact absurd h (no _ _)
  · have := decDigits_inj h
    omega

theorem itoa_no32 (a : Int) : ∀ b ∈ Lib.itoa a, b ≠ 32 := by
  intro b hb he
  subst he
  have h32 : (32 : UInt8).toNat = 32 := rfl
  unfold Lib.itoa at hb
  split at hb
  · rcases List.mem_cons.1 hb with h | h
    · exact absurd h (by decide)
    · have := (decDigits_spec _).2 _ h; omega
  · have := (decDigits_spec _).2 _ hb; omega

theorem split32 : ∀ (l m x y : List UInt8), (∀ b ∈ l, b ≠ 32) → (∀ b ∈ m, b ≠ 32) → l ++ 32 :: x = m ++ 32 :: y → l = m ∧ x = y
  | [], [], x, y, _, _, h => ⟨rfl, (List.cons.inj h).2⟩
  | [], b :: m, x, y, _, hm, h => absurd (List.cons.inj h).1.symm (hm b (by simp))
  | b :: l, [], x, y, hl, _, h => absurd (List.cons.inj h).1 (hl b (by simp))
  | b :: l, c :: m, x, y, hl, hm, h => by
    obtain ⟨h1, h2⟩ := List.cons.inj h
    obtain ⟨h3, h4⟩ := split32 l m x y (fun b hb => hl b (by simp [hb])) (fun b hb => hm b (by simp [hb])) h2
    exact ⟨by rw [h1, h3], h4⟩

theorem keyStr_inj : ∀ (l m : List Int), keyStr l = keyStr m → l = m
  | [], [], _ => rfl
  | [], b :: m, h => by simp [keyStr] at h
  | a :: l, [], h => by simp [keyStr] at h
  | a :: l, b :: m, h => by
    have e : ∀ (a : Int) (l : List Int), keyStr (a :: l) = Lib.itoa a ++ 32 :: keyStr l := fun a l => by simp [keyStr]
    rw [e, e] at h
    obtain ⟨h1, h2⟩ := split32 _ _ _ _ (itoa_no32 a) (itoa_no32 b) h
    rw [itoa_inj h1, keyStr_inj l m h2]

theorem keyOfStp_inj {s t : Stp} (h : keyOfStp s = keyOfStp t) : s = t := by
  unfold keyOfStp at h
  obtain ⟨h1, h2⟩ := Prod.mk.inj h
  refine Stp.ext' h1 (keyStr_inj _ _ ?_)
  have h3 := congrArg (fun b : ByteArray => b.data.toList) h2
  simpa using h3

theorem findK_idx (s : Stp) : ∀ (out : List Stp) (i : Nat), findK (keyOfStp s) (out.map keyOfStp) i = if s ∈ out then some (i + out.idxOf s) else none
  | [], i => by simp [findK]
  | t :: out, i => by
    simp only [List.map_cons, findK]
    by_cases h : s = t
    · subst h
      simp
    · have hk : ¬ keyOfStp t = keyOfStp s := fun e => h (keyOfStp_inj e).symm
      have hk' : ¬ keyOfStp s = keyOfStp t := fun e => h (keyOfStp_inj e)
      have ih := findK_idx s out (i + 1)
      simp only [hk', if_false, ih, List.mem_cons, h, false_or]
      have ht : (t == s) = false := by simp; exact fun e => h e.symm
      simp only [List.idxOf_cons, ht, cond_false]
      split
      · congr 1; omega
      · rfl

theorem addM_eq (out : List Stp) (s : Stp) : addM out s = if s ∈ out then out else out ++ [s] := by
  unfold addM
  rw [findK_idx]
  split <;> rename_i h
  · split at h
    · rename_i h2; rw [if_pos h2]
    · cases h
  · split at h
    · cases h
    · rename_i h2; rw [if_neg h2]
theorem addAt_eq (out : List Stp) (s : Stp) : addAt out s = out.idxOf s := by
  unfold addAt
  rw [findK_idx]
  by_cases h : s ∈ out
  · simp [h]
  · rw [if_neg h]; exact (List.idxOf_eq_length h).symm

end Go.Proofs.YtcbmljfgmeeadaaDoor
