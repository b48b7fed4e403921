/-
  CONTRACT: Share.
-/
import Derived.Test.YtcbmljfgmeeadaaDoorG2
import Derived.Test.YtcbmljfgmeeadaaDoorG11
namespace Go.Proofs.YtcbmljfgmeeadaaDoor
open Go.RowKit Go.Shelf

attribute [local go_sem] Oper.semAt_some

theorem Share_bad (ss : List Stp) (v : Value) (w : World) (hv : IsProof All w v ss) (hf : formM ss ≠ 0) :
    Calls Tryd.prog 9 #[v] w fun e w' => e = .returned (.tuple #[.agg #[.slice none 0 0], .int .i64 (formM ss)]) ∧ Keeps All w w' := by
  obtain ⟨u, rfl, hs⟩ := hv
  have hform := form_c ss (.agg #[u]) (((w.alloc (.cells #[u] 24)).alloc (.cells #[.slice none 0 0] 24))) ⟨u, rfl, hs.keep (((Keeps.refl _ _).alloc _).alloc _) fun _ _ h => h⟩
  obtain ⟨a, cap, rfl, hl, h⟩ := hs
  clear h
  generalize formM ss = e0 at hform hf
  have h0 : (e0 == 0) = false := by simpa using hf
  go_enter Tryd.func9, Tryd.ntmps9
  go_wp2_with (go_at_call 29; refine hform.mono ?_; clear hform; rintro e w1 ⟨rfl, hk1⟩; have r1 : IsRow w1 (w.heap.size + 1) 24 [.slice none 0 0] := IsRow.keep (S := All) (IsRow.newAt (by simp)) hk1 trivial; obtain ⟨c1, c2⟩ := r1.one)
  have k2 := (r1.set 0 (.slice none 0 0)).one
  refine bodyPost_ret (v := .tuple #[.agg #[.slice none 0 0], .int .i64 e0]) (by simp [results, Tryd.results9, go_sem, k2]) rfl ⟨rfl, ?_⟩
  exact (((Keeps.refl All w).alloc _).trans (((Keeps.refl _ _).alloc _).trans hk1)).setCell (fun (h : w.heap.size + 1 < _) => absurd h (by omega)) _

theorem Share_good (ss : List Stp) (v : Value) (w : World) (hv : IsProof All w v ss) (hok : Okay ss) (htab : Tab w) :
    Calls Tryd.prog 9 #[v] w fun e w' => ∃ vr, e = .returned (.tuple #[vr, .int .i64 0]) ∧ IsProof All w' vr (shareM ss) ∧ Keeps All w w' := by
  obtain ⟨u, rfl, hs⟩ := hv
  have hform := form_c ss (.agg #[u]) (((w.alloc (.cells #[u] 24)).alloc (.cells #[.slice none 0 0] 24))) ⟨u, rfl, hs.keep (((Keeps.refl _ _).alloc _).alloc _) fun _ _ h => h⟩
  rw [(formM_zero ss).2 hok] at hform
  have hsh : ∀ W, Keeps All w W → Calls Tryd.prog 32 #[.agg #[u]] W fun e w' => ∃ vr, e = .returned vr ∧ IsProof (fun k => W.heap.size ≤ k) w' vr (shareM ss) ∧ Keeps All W w' :=
    fun W hk => share_c ss _ W ⟨u, rfl, hs.keep hk fun _ _ _ => trivial⟩ hok (htab.keep hk)
  obtain ⟨a, cap, rfl, hl, h⟩ := hs
  clear h
  go_enter Tryd.func9, Tryd.ntmps9
  go_wp2_with (go_at_call 29; refine hform.mono ?_; clear hform; rintro e w1 ⟨rfl, hk1⟩; have hk0 : Keeps All w w1 := (((Keeps.refl _ _).alloc _).alloc _).trans hk1; have r1 : IsRow w1 (w.heap.size + 1) 24 [.slice none 0 0] := IsRow.keep (S := All) (IsRow.newAt (by simp)) hk1 trivial; have r0 : IsRow w1 w.heap.size 24 [.slice a ss.length cap] := IsRow.keep (S := All) ((IsRow.new _ _ _).alloc _) hk1 trivial; obtain ⟨c1, c2⟩ := r1.one; obtain ⟨c3, c4⟩ := r0.one; have hlt1 := r1.lt)
  go_wp2_with (go_at_call 32; refine (hsh _ hk0).mono ?_; clear hsh; rintro e w2 ⟨vr, rfl, ⟨u2, rfl, hs2⟩, hk2⟩; have hs2' := hs2; obtain ⟨a2, cap2, rfl, _, h⟩ := hs2'; clear h; have r2 := r1.keep hk2 trivial; obtain ⟨c5, c6⟩ := r2.one)
  have k2 := (r2.set 0 (.slice a2 (shareM ss).length cap2)).one
  have hkw : Keeps (fun k => k ≠ w.heap.size + 1) w2 (w2.setCell ⟨w.heap.size + 1, 0, none⟩ (.slice a2 (shareM ss).length cap2)) := (Keeps.refl _ _).setCell (fun _ hn => hn rfl) _
  refine bodyPost_ret (v := .tuple #[.agg #[.slice a2 (shareM ss).length cap2], .int .i64 0]) (by simp [results, Tryd.results9, go_sem, k2]) rfl ⟨_, rfl, ⟨_, rfl, ?_⟩, ?_⟩
  · exact hs2.move hkw fun k _ hk => ⟨by omega, trivial⟩
  · exact (hk0.trans hk2).upto hkw fun k hk => by omega

end Go.Proofs.YtcbmljfgmeeadaaDoor
