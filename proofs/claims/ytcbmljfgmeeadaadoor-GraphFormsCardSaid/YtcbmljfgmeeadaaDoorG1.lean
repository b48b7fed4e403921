/-
  CONTRACTS: slices.IndexFunc and ContainsFunc at integers and at steps, the form of a proof, Few.
-/
import Derived.Test.YtcbmljfgmeeadaaDoorJA
namespace Go.Proofs.YtcbmljfgmeeadaaDoor
open Go.RowKit

theorem form1_c (a i : Int) (b : Nat) (w : World) (h : w.cell? ⟨b, 0, none⟩ = some (.int .i64 i)) :
    Calls Tryd.prog 54 #[.int .i64 a, .pointer (some ⟨b, 0, none⟩)] w fun e w' => e = .returned (.bool (badArg i a)) ∧ w = w' := by
  by_cases h0 : a < 0
  · go_enter Tryd.func54, Tryd.ntmps54
    go_wp2
    go_ret
    exact ⟨by simp [badArg, h0], rfl⟩
  · go_enter Tryd.func54, Tryd.ntmps54
    go_wp2
    go_ret
    exact ⟨by simp [badArg]; omega, rfl⟩

/-- What a function value does, asked of one element in whatever later world: it returns a bool and keeps what lies. -/
def Asks {α : Type} (P : Program) (f : Nat) (caps : Array Value) (enc : World → α → Value → Prop) (p : α → Bool) (xs : List α) (w : World) : Prop :=
  ∀ x ∈ xs, ∀ w' v, Keeps All w w' → enc w' x v → Calls P f (#[v] ++ caps) w' fun e w'' => e = .returned (.bool (p x)) ∧ Keeps All w' w''

set_option maxHeartbeats 400000 in
theorem IndexInts_c (f : Nat) (caps : Array Value) (eg : ∀ args w, (callFunc f args).run Tryd.prog w = .ok (.enter f args) w) (p : Int → Bool) (xs : List Int) (v : Value) (w : World)
    (hv : IsInts All w v xs) (hf : Asks Tryd.prog f caps (fun _ x v => v = .int .i64 x) p xs w) :
    Calls Tryd.prog 63 #[v, .func (.func f) #[] caps] w fun e w' => e = .returned (.int .i64 (firstAt p xs 0)) ∧ Keeps All w w' := by
  obtain ⟨a, cap, rfl, hl, hx, h⟩ := hv
  have H := hid hf
  have Hx := hid hx
  clear hf hx
  go_enter Tryd.func63, Tryd.ntmps63
  go_wp2
  go_loopw [5, 8] (fun i5 i wr => ∃ k : Nat, k ≤ xs.length ∧ i = .int .i64 k ∧ Hid (firstAt p xs 0 = firstAt p (xs.drop k) k) ∧ Keeps All w wr) (fun _ i _ => xs.length - (intOf i).toNat)
  case atStart => exact ⟨0, Nat.zero_le _, rfl, by simp [Hid], Keeps.refl _ _⟩
  case round =>
    obtain ⟨k, hk, rfl, hn, hb⟩ := hrel
    by_cases hlt : k < xs.length
    · rcases h with ⟨rfl, _⟩ | ⟨b, off, rfl, hB, _, hc⟩
      · simp at hlt
      have hcell : wr.cell? ⟨b, off + k, none⟩ = some (.int .i64 xs[k]) := hb.cell (p := ⟨b, off + k, none⟩) trivial (hc k hlt)
      have hdrop : Hid (xs.drop k = xs[k] :: xs.drop (k + 1)) := List.drop_eq_getElem_cons hlt
      have Hc := hid hc
      clear hc
      have hcall := H.out xs[k] (List.getElem_mem hlt) wr _ hb rfl
      have Hq : ∀ q : Bool, p xs[k] = q → Hid (p xs[k] = q) := fun q h => h
      generalize hq : p xs[k] = q at hcall
      have hq' := Hq q hq
      clear Hq hq
      cases q
      · go_wp2_with ((with_reducible refine hcall.mono ?_); clear hcall; rintro e w1 ⟨rfl, hb1⟩)
        go_roundw
        case rel => exact ⟨k + 1, by omega, by go_num, by rw [hn.out, hdrop.out]; simp only [Hid, firstAt]; simp [hq'.out], hb.trans hb1⟩
        case measure => simp [intOf]; omega
      · go_wp2_with ((with_reducible refine hcall.mono ?_); clear hcall; rintro e w1 ⟨rfl, hb1⟩)
        go_ret
        exact ⟨by rw [hn.out, hdrop.out]; simp only [firstAt]; simp [hq'.out], hb.trans hb1⟩
    · go_wp2
      go_ret
      exact ⟨by rw [hn.out, List.drop_eq_nil_of_le (by omega)]; rfl, hb⟩

theorem ContainsInts_c (f : Nat) (caps : Array Value) (eg : ∀ args w, (callFunc f args).run Tryd.prog w = .ok (.enter f args) w) (p : Int → Bool) (xs : List Int) (v : Value) (w : World)
    (hv : IsInts All w v xs) (hf : Asks Tryd.prog f caps (fun _ x v => v = .int .i64 x) p xs w) :
    Calls Tryd.prog 53 #[v, .func (.func f) #[] caps] w fun e w' => e = .returned (.bool (xs.any p)) ∧ Keeps All w w' := by
  have hc := IndexInts_c f caps eg p xs v w hv hf
  have hb := firstAt_lt p xs 0
  have hl : xs.length ≤ 140737488351232 := by obtain ⟨_, _, _, hl, _⟩ := hv; exact hl
  have ha := hid (firstAt_any p xs 0)
  generalize firstAt p xs 0 = q at hc hb ha
  obtain ⟨hb1, hb2⟩ := hb
  clear hf hv eg
  go_enter Tryd.func53, Tryd.ntmps53
  go_wp2_with (go_at_call 63; refine hc.mono ?_; clear hc; rintro e w1 ⟨rfl, hb1⟩)
  go_ret
  exact ⟨by rw [ha.out]; rfl, hb1⟩

end Go.Proofs.YtcbmljfgmeeadaaDoor
