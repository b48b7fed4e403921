/-
  CONTRACTS: the form of a proof.
-/
import Derived.Test.YtcbmljfgmeeadaaDoorG1
import Derived.Test.YtcbmljfgmeeadaaDoorSeq
namespace Go.Proofs.YtcbmljfgmeeadaaDoor
open Go.RowKit Go.Shelf

theorem eg_form1 : ∀ args w, (callFunc 54 args).run Tryd.prog w = .ok (.enter 54 args) w := enters_of Tryd.func54 (by kernel_rfl) rfl

set_option maxHeartbeats 400000 in
theorem form_c (ss : List Stp) (v : Value) (w : World) (hv : IsProof All w v ss) :
    Calls Tryd.prog 29 #[v] w fun e w' => e = .returned (.int .i64 (formM ss)) ∧ Keeps All w w' := by
  obtain ⟨u, rfl, a, cap, rfl, hl, h⟩ := hv
  by_cases h1 : ss.length < 1
  · go_enter Tryd.func29, Tryd.ntmps29
    go_wp2
    go_ret
    exact ⟨by simp [formM, h1], (Keeps.refl _ _).alloc _⟩
  by_cases h2 : 2000 < ss.length
  · go_enter Tryd.func29, Tryd.ntmps29
    go_wp2
    go_ret
    exact ⟨by simp [formM, h2], (Keeps.refl _ _).alloc _⟩
  rcases h with ⟨rfl, _⟩ | ⟨b, off, rfl, hB, _, hc⟩
  · simp at h1
  have hM : Hid (formM ss = formGo 0 ss) := by simp [Hid, formM, h1, h2]
  have Hc := hid hc
  clear hc
  go_enter Tryd.func29, Tryd.ntmps29
  go_wp2
  go_loopw [3, 4, 18] (fun i3 i4 i wr => ∃ k : Nat, k ≤ ss.length ∧ i = .int .i64 k ∧ Hid (formGo 0 ss = formGo k (ss.drop k)) ∧ Keeps All (w.alloc (.cells #[.slice (some ⟨b, off, none⟩) ss.length cap] 24)) wr) (fun _ _ i _ => ss.length - (intOf i).toNat)
  case atStart => exact ⟨0, Nat.zero_le _, rfl, by simp [Hid], Keeps.refl _ _⟩
  case round =>
    obtain ⟨k, hk, rfl, hn, hb⟩ := hrel
    by_cases hlt : k < ss.length
    · have hdrop : Hid (ss.drop k = ss[k] :: ss.drop (k + 1)) := List.drop_eq_getElem_cons hlt
      obtain ⟨c1, va, c2, hva⟩ := Hc.out k hlt
      have hk0 : Keeps All w wr := ((Keeps.refl All w).alloc _).trans hb
      have e1 : wr.cell? ⟨b, off + k * 2, none⟩ = some (.string ss[k].label) := hk0.cell (p := ⟨b, off + k * 2, none⟩) trivial c1
      have e2 : wr.cell? ⟨b, off + k * 2 + 1, none⟩ = some va := hk0.cell (p := ⟨b, off + k * 2 + 1, none⟩) trivial c2
      clear c1 c2
      have hva2 : IsInts All wr va ss[k].args := hva.keep hk0 fun _ _ h => h
      obtain ⟨a2, cap2, rfl, hl2, hx2, h2'⟩ := hva
      clear h2'
      have hf : Hid (formGo k (ss.drop k) = if 40 < ss[k].args.length then 4 else if ss[k].args.any (badArg k) then 3 else formGo (k + 1) (ss.drop (k + 1))) := by rw [hdrop.out]; rfl
      by_cases hlen : 40 < ss[k].args.length
      · go_wp2
        go_ret
        exact ⟨ret_int (by rw [hM.out, hn.out, hf.out, if_pos hlen]), (((hk0.alloc _).alloc _))⟩
      have hcall := ContainsInts_c 54 #[.pointer (some ⟨wr.heap.size, 0, none⟩)] eg_form1 (badArg k) ss[k].args (.slice a2 ss[k].args.length cap2) ((wr.alloc (.cells #[.int .i64 k] 3)).alloc (.cells #[.string ss[k].label, .slice a2 ss[k].args.length cap2] 45))
        (hva2.keep (((Keeps.refl _ _).alloc _).alloc _) fun _ _ h => h) (fun x hx w' v hw he => by
          subst he
          exact (form1_c x k wr.heap.size w' (hw.cell (p := ⟨wr.heap.size, 0, none⟩) trivial (by simp [go_sem]))).mono fun e w'' ⟨he, hw2⟩ => ⟨he, hw2 ▸ Keeps.refl _ _⟩)
      generalize hq : ss[k].args.any (badArg k) = q at hcall
      have hq' := hid hq
      clear hq
      cases q
      · go_wp2_with (go_at_call 53; refine hcall.mono ?_; clear hcall; rintro e w1 ⟨rfl, hb1⟩)
        go_roundw
        case rel => exact ⟨k + 1, by omega, by go_num, by rw [hn.out, hf.out, if_neg hlen, hq'.out]; rfl, ((hb.alloc _).alloc _).trans hb1⟩
        case measure => simp [intOf]; omega
      · go_wp2_with (go_at_call 53; refine hcall.mono ?_; clear hcall; rintro e w1 ⟨rfl, hb1⟩)
        go_ret
        exact ⟨ret_int (by rw [hM.out, hn.out, hf.out, if_neg hlen, hq'.out]; rfl), ((hk0.alloc _).alloc _).trans hb1⟩
    · go_wp2
      go_ret
      exact ⟨ret_int (by rw [hM.out, hn.out, List.drop_eq_nil_of_le (by omega)]; rfl), ((Keeps.refl All w).alloc _).trans hb⟩

end Go.Proofs.YtcbmljfgmeeadaaDoor
