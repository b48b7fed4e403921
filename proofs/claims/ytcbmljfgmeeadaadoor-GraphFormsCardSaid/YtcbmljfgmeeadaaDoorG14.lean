/-
  CONTRACT: expand, Expand.
-/
import Derived.Test.YtcbmljfgmeeadaaDoorG13
import Derived.Test.YtcbmljfgmeeadaaDoorG7
import Derived.Test.YtcbmljfgmeeadaaDoorG2
import Derived.Laws.EntriesVeiled
namespace Go.Proofs.YtcbmljfgmeeadaaDoor
open Go.RowKit Go.Shelf

attribute [local go_sem] Oper.semAt_some

theorem last_size {ss : List Stp} (hok : Okay ss) : ∃ y : Int, (ints (sizesM ss))[ss.length - 1]? = some (.int .i64 y) ∧ y = ((min (tsize (treeM ss)) 1000000000 : Nat) : Int) := by
  have hn0 : 1 ≤ ss.length := hok.1
  refine ⟨_, ?_, rfl⟩
  rw [ints_get]
  have h1 : ss.length - 1 < (sizesM ss).length := by rw [show (sizesM ss).length = ss.length from sizesTo_length ss _]; omega
  have := sizesM_last hok
  rw [List.getD_eq_getElem?_getD, List.getElem?_eq_getElem h1, Option.getD_some] at this
  rw [List.getElem?_eq_getElem h1, this]
  rfl

theorem expand_large (ss : List Stp) (v : Value) (most : Int) (w : World) (hv : IsProof All w v ss) (hok : Okay ss) (h1 : 1 ≤ most) (h2 : most ≤ 2000) (hbig : most < tsize (treeM ss)) :
    Calls Tryd.prog 39 #[v, .int .i64 most] w fun e w' => e = .returned (.tuple #[.agg #[.slice none 0 0], .int .i64 15]) ∧ Keeps All w w' := by
  obtain ⟨u, rfl, hs⟩ := hv
  have hsz := sizes_c ss (.agg #[u]) ((w.alloc (.cells #[u] 24)).alloc (.cells #[.slice none 0 0] 24)) ⟨u, rfl, hs.keep (((Keeps.refl _ _).alloc _).alloc _) fun _ _ h => h⟩ hok
  obtain ⟨a, cap, rfl, hl, h⟩ := hs
  clear h
  have hn0 : 1 ≤ ss.length := hok.1
  have hn1 : ss.length ≤ 2000 := hok.2.1
  obtain ⟨y, hy1, hy2⟩ := last_size hok
  have hyb : most < y := by rw [hy2]; omega
  clear hy2 hbig
  go_enter Tryd.func39, Tryd.ntmps39
  go_wp2_with (go_at_call 33; refine Hid.out ?_)
  refine hid ?_
  refine hsz.mono ?_
  clear hsz
  rintro e w1 ⟨nb, rfl, hnb, hrow, hk1⟩
  have f2 : w1.cell? ⟨nb, ss.length - 1, none⟩ = some (.int .i64 y) := by rw [hrow.cell, hy1]
  have r1 : IsRow w1 (w.heap.size + 1) 24 [.slice none 0 0] := IsRow.keep (S := All) (IsRow.newAt (by simp)) hk1 trivial
  obtain ⟨c1, c2⟩ := r1.one
  clear hy1 hrow
  go_wp2
  have k2 := (r1.set 0 (.slice none 0 0)).one
  refine bodyPost_ret (v := .tuple #[.agg #[.slice none 0 0], .int .i64 15]) (by simp [results, Tryd.results39, go_sem, k2]) rfl ⟨rfl, ?_⟩
  exact (((Keeps.refl All w).alloc _).trans (((Keeps.refl _ _).alloc _).trans hk1)).setCell (fun (h : w.heap.size + 1 < _) => absurd h (by omega)) _

theorem expand_good (ss : List Stp) (v : Value) (most : Int) (w : World) (hv : IsProof All w v ss) (hok : Okay ss) (h1 : 1 ≤ most) (h2 : most ≤ 2000) (hbig : tsize (treeM ss) ≤ most) :
    Calls Tryd.prog 39 #[v, .int .i64 most] w fun e w' => ∃ vr, e = .returned (.tuple #[vr, .int .i64 0]) ∧ IsProof (fun k => w.heap.size + 2 ≤ k) w' vr (expandM ss) ∧ Keeps All w w' := by
  obtain ⟨u, rfl, hs⟩ := hv
  have hs' := hs
  have hsz := sizes_c ss (.agg #[u]) ((w.alloc (.cells #[u] 24)).alloc (.cells #[.slice none 0 0] 24)) ⟨u, rfl, hs.keep (((Keeps.refl _ _).alloc _).alloc _) fun _ _ h => h⟩ hok
  obtain ⟨a, cap, rfl, hl, h⟩ := hs
  clear h
  have hn0 : 1 ≤ ss.length := hok.1
  have hn1 : ss.length ≤ 2000 := hok.2.1
  obtain ⟨y, hy1, hy2⟩ := last_size hok
  have hyb : y ≤ most := by rw [hy2]; omega
  have hbig' := hid hbig
  clear hy2 hbig
  have hcast : Hid ((ss.length : Int) - 1 = ((ss.length - 1 : Nat) : Int)) := by show _ = _; omega
  go_enter Tryd.func39, Tryd.ntmps39
  go_wp2_with (go_at_call 33; refine Hid.out ?_)
  refine hid ?_
  refine hsz.mono ?_
  clear hsz
  rintro e w1 ⟨nb, rfl, hnb, hrow, hk1⟩
  have f2 : w1.cell? ⟨nb, ss.length - 1, none⟩ = some (.int .i64 y) := by rw [hrow.cell, hy1]
  have r0 : IsRow w1 w.heap.size 24 [.slice a ss.length cap] := IsRow.keep (S := All) ((IsRow.new _ _ _).alloc _) hk1 trivial
  have r1 : IsRow w1 (w.heap.size + 1) 24 [.slice none 0 0] := IsRow.keep (S := All) (IsRow.newAt (by simp)) hk1 trivial
  obtain ⟨c1, c2⟩ := r1.one
  have hk0 : Keeps All w w1 := (((Keeps.refl _ _).alloc _).alloc _).trans hk1
  have hlt := r1.lt
  have l1 : w1.heap.size < w1.heap.size + 1 := by omega
  clear hy1 hrow
  go_wp2_with (go_at_call 58; refine Hid.out ?_)
  refine hid ?_
  obtain ⟨W2, hW2⟩ : ∃ W2, (w1.alloc (.cells #[.slice none 0 0] 24)).alloc (.cells #[.func (.func 58) #[] #[.pointer (some ⟨w.heap.size, 0, none⟩), .pointer (some ⟨w1.heap.size + 1, 0, none⟩), .pointer (some ⟨w1.heap.size, 0, none⟩)]] 78) = W2 := ⟨_, rfl⟩
  have hk2 : Keeps All w1 W2 := by rw [← hW2]; exact ((Keeps.refl _ _).alloc _).alloc _
  have hs2 : W2.heap.size = w1.heap.size + 2 := by rw [← hW2]; simp
  have hE : EState (fun k => w1.heap.size + 2 ≤ k) ss (w1.heap.size + 2) w.heap.size (w1.heap.size + 1) w1.heap.size (.slice a ss.length cap) (· < w.heap.size) W2 (.slice none 0 0) [] := by
    refine ⟨by omega, r0.keep hk2 trivial, hs'.move (hk0.trans hk2) (fun k h _ => ⟨trivial, h⟩), ?_, ?_, OwnIn.nil _ _ _⟩
    · rw [← hW2]; exact IsRow.newAt (by simp)
    · rw [← hW2]; exact (IsRow.new _ _ _).alloc _
  have hcall := expand1_c ss hok (w1.heap.size + 2) w.heap.size (w1.heap.size + 1) w1.heap.size (.slice a ss.length cap) (· < w.heap.size) (fun k h => by omega) (by omega) (by omega) (by omega) ss.length (ss.length - 1) (fun k => w1.heap.size + 2 ≤ k) (.slice none 0 0) [] W2 (by omega) (by omega) hE (fun k h => by omega) (fun k h => h) (by have := hbig'.out; unfold treeM at this; simp only [List.length_nil]; omega)
  rw [hW2]
  rw [← hcast.out] at hcall
  refine hcall.mono ?_
  clear hcall
  rintro e w3 ⟨rfl, v2, hE2, hk3, hwh⟩
  have hcast2 := hcast
  obtain ⟨a2, c3, rfl⟩ := hE2.out.form
  obtain ⟨f3, _⟩ := hE2.obox.one
  have r3 := (r1.keep hk2 trivial).keep hk3 ⟨by omega, fun e => by cases e⟩
  obtain ⟨c4, c5⟩ := r3.one
  have hst := hE2.out.toSteps.isSteps (by have := hbig'.out; unfold treeM at this; simp [flat_length]; omega)
  obtain ⟨outs, ho⟩ : ∃ o, o = [] ++ flat (treeAt ss (ss.length - 1)) ([] : List Stp).length := ⟨_, rfl⟩
  rw [← ho] at hst f3
  have Ho := hid ho
  clear ho hE2
  go_wp2
  have k2 := (r3.set 0 (.slice a2 outs.length c3)).one
  have hkw : Keeps (fun k => k ≠ w.heap.size + 1) w3 (w3.setCell ⟨w.heap.size + 1, 0, none⟩ (.slice a2 outs.length c3)) := (Keeps.refl _ _).setCell (fun _ hn => hn rfl) _
  refine bodyPost_ret (v := .tuple #[.agg #[.slice a2 outs.length c3], .int .i64 0]) (by simp [results, Tryd.results39, go_sem, k2]) rfl ⟨_, rfl, ⟨_, rfl, ?_⟩, ?_⟩
  · have he : expandM ss = outs := by rw [Ho.out]; rfl
    rw [he]
    exact hst.move hkw fun k _ hk => ⟨by omega, by omega⟩
  · have h3 : Keeps All w w3 := (hk0.trans hk2).upto hk3 fun k hk => ⟨by omega, fun e => by cases e⟩
    exact h3.upto hkw fun k hk => by omega

theorem Expand_bad (ss : List Stp) (v : Value) (most : Int) (w : World) (hv : IsProof All w v ss) (hf : formM ss ≠ 0) :
    Calls Tryd.prog 13 #[v, .int .i64 most] w fun e w' => e = .returned (.tuple #[.agg #[.slice none 0 0], .int .i64 (formM ss)]) ∧ Keeps All w w' := by
  obtain ⟨u, rfl, hs⟩ := hv
  have hform := form_c ss (.agg #[u]) (((w.alloc (.cells #[u] 24)).alloc (.cells #[.slice none 0 0] 24))) ⟨u, rfl, hs.keep (((Keeps.refl _ _).alloc _).alloc _) fun _ _ h => h⟩
  obtain ⟨a, cap, rfl, hl, h⟩ := hs
  clear h
  generalize formM ss = e0 at hform hf
  have h0 : (e0 == 0) = false := by simpa using hf
  go_enter Tryd.func13, Tryd.ntmps13
  go_wp2_with (go_at_call 29; refine Hid.out ?_)
  refine hid ?_
  refine hform.mono ?_
  clear hform
  rintro e w1 ⟨rfl, hk1⟩
  have r1 : IsRow w1 (w.heap.size + 1) 24 [.slice none 0 0] := IsRow.keep (S := All) (IsRow.newAt (by simp)) hk1 trivial
  obtain ⟨c1, c2⟩ := r1.one
  go_wp2
  have k2 := (r1.set 0 (.slice none 0 0)).one
  refine bodyPost_ret (v := .tuple #[.agg #[.slice none 0 0], .int .i64 e0]) (by simp [results, Tryd.results13, go_sem, k2]) rfl ⟨rfl, ?_⟩
  exact (((Keeps.refl All w).alloc _).trans (((Keeps.refl _ _).alloc _).trans hk1)).setCell (fun (h : w.heap.size + 1 < _) => absurd h (by omega)) _

theorem Expand_arg (ss : List Stp) (v : Value) (most : Int) (w : World) (hv : IsProof All w v ss) (hok : Okay ss) (hm : most < 1) :
    Calls Tryd.prog 13 #[v, .int .i64 most] w fun e w' => e = .returned (.tuple #[.agg #[.slice none 0 0], .int .i64 1]) ∧ Keeps All w w' := by
  obtain ⟨u, rfl, hs⟩ := hv
  have hform := form_c ss (.agg #[u]) (((w.alloc (.cells #[u] 24)).alloc (.cells #[.slice none 0 0] 24))) ⟨u, rfl, hs.keep (((Keeps.refl _ _).alloc _).alloc _) fun _ _ h => h⟩
  rw [(formM_zero ss).2 hok] at hform
  obtain ⟨a, cap, rfl, hl, h⟩ := hs
  clear h
  go_enter Tryd.func13, Tryd.ntmps13
  go_wp2_with (go_at_call 29; refine Hid.out ?_)
  refine hid ?_
  refine hform.mono ?_
  clear hform
  rintro e w1 ⟨rfl, hk1⟩
  have r1 : IsRow w1 (w.heap.size + 1) 24 [.slice none 0 0] := IsRow.keep (S := All) (IsRow.newAt (by simp)) hk1 trivial
  obtain ⟨c1, c2⟩ := r1.one
  go_wp2
  have k2 := (r1.set 0 (.slice none 0 0)).one
  refine bodyPost_ret (v := .tuple #[.agg #[.slice none 0 0], .int .i64 1]) (by simp [results, Tryd.results13, go_sem, k2]) rfl ⟨rfl, ?_⟩
  exact (((Keeps.refl All w).alloc _).trans (((Keeps.refl _ _).alloc _).trans hk1)).setCell (fun (h : w.heap.size + 1 < _) => absurd h (by omega)) _

theorem Expand_large (ss : List Stp) (v : Value) (most : Int) (w : World) (hv : IsProof All w v ss) (hok : Okay ss) (h1 : 1 ≤ most) (h2 : most ≤ 9223372036854775807) (hbig : min most 2000 < tsize (treeM ss)) :
    Calls Tryd.prog 13 #[v, .int .i64 most] w fun e w' => e = .returned (.tuple #[.agg #[.slice none 0 0], .int .i64 15]) ∧ Keeps All w w' := by
  obtain ⟨u, rfl, hs⟩ := hv
  have hform := form_c ss (.agg #[u]) (((w.alloc (.cells #[u] 24)).alloc (.cells #[.slice none 0 0] 24))) ⟨u, rfl, hs.keep (((Keeps.refl _ _).alloc _).alloc _) fun _ _ h => h⟩
  rw [(formM_zero ss).2 hok] at hform
  have hexp : ∀ m W, m = min most 2000 → Keeps All w W → Calls Tryd.prog 39 #[.agg #[u], .int .i64 m] W fun e w' => e = .returned (.tuple #[.agg #[.slice none 0 0], .int .i64 15]) ∧ Keeps All W w' :=
    fun m W hm hk => expand_large ss _ _ W ⟨u, rfl, hs.keep hk fun _ _ _ => trivial⟩ hok (by omega) (by omega) (by omega)
  obtain ⟨a, cap, rfl, hl, h⟩ := hs
  clear h hbig
  go_enter Tryd.func13, Tryd.ntmps13
  go_wp2_with (go_at_call 29; refine Hid.out ?_)
  refine hid ?_
  refine hform.mono ?_
  clear hform
  rintro e w1 ⟨rfl, hk1⟩
  have hk0 : Keeps All w w1 := (((Keeps.refl _ _).alloc _).alloc _).trans hk1
  have r1 : IsRow w1 (w.heap.size + 1) 24 [.slice none 0 0] := IsRow.keep (S := All) (IsRow.newAt (by simp)) hk1 trivial
  have r0 : IsRow w1 w.heap.size 24 [.slice a ss.length cap] := IsRow.keep (S := All) ((IsRow.new _ _ _).alloc _) hk1 trivial
  obtain ⟨c1, c2⟩ := r1.one
  obtain ⟨c3, c4⟩ := r0.one
  have hlt := r1.lt
  go_wp2_with (go_at_call 39; refine Hid.out ?_)
  all_goals
    refine hid ?_
    refine (hexp _ w1 (by omega) hk0).mono ?_
    clear hexp
    rintro e w2 ⟨rfl, hk2⟩
    have r2 := r1.keep hk2 trivial
    obtain ⟨c5, c6⟩ := r2.one
    go_wp2
    have k2 := (r2.set 0 (.slice none 0 0)).one
    refine bodyPost_ret (v := .tuple #[.agg #[.slice none 0 0], .int .i64 15]) (by simp [results, Tryd.results13, go_sem, k2]) rfl ⟨rfl, ?_⟩
    exact (hk0.trans hk2).setCell (fun (h : w.heap.size + 1 < _) => absurd h (by omega)) _

theorem Expand_good (ss : List Stp) (v : Value) (most : Int) (w : World) (hv : IsProof All w v ss) (hok : Okay ss) (h1 : 1 ≤ most) (h2 : most ≤ 9223372036854775807) (hbig : tsize (treeM ss) ≤ min most 2000) :
    Calls Tryd.prog 13 #[v, .int .i64 most] w fun e w' => ∃ vr, e = .returned (.tuple #[vr, .int .i64 0]) ∧ IsProof All w' vr (expandM ss) ∧ Keeps All w w' := by
  obtain ⟨u, rfl, hs⟩ := hv
  have hform := form_c ss (.agg #[u]) (((w.alloc (.cells #[u] 24)).alloc (.cells #[.slice none 0 0] 24))) ⟨u, rfl, hs.keep (((Keeps.refl _ _).alloc _).alloc _) fun _ _ h => h⟩
  rw [(formM_zero ss).2 hok] at hform
  have hexp : ∀ m W, m = min most 2000 → Keeps All w W → Calls Tryd.prog 39 #[.agg #[u], .int .i64 m] W fun e w' => ∃ vr, e = .returned (.tuple #[vr, .int .i64 0]) ∧ IsProof (fun k => W.heap.size + 2 ≤ k) w' vr (expandM ss) ∧ Keeps All W w' :=
    fun m W hm hk => expand_good ss _ _ W ⟨u, rfl, hs.keep hk fun _ _ _ => trivial⟩ hok (by omega) (by omega) (by omega)
  obtain ⟨a, cap, rfl, hl, h⟩ := hs
  clear h hbig
  go_enter Tryd.func13, Tryd.ntmps13
  go_wp2_with (go_at_call 29; refine Hid.out ?_)
  refine hid ?_
  refine hform.mono ?_
  clear hform
  rintro e w1 ⟨rfl, hk1⟩
  have hk0 : Keeps All w w1 := (((Keeps.refl _ _).alloc _).alloc _).trans hk1
  have r1 : IsRow w1 (w.heap.size + 1) 24 [.slice none 0 0] := IsRow.keep (S := All) (IsRow.newAt (by simp)) hk1 trivial
  have r0 : IsRow w1 w.heap.size 24 [.slice a ss.length cap] := IsRow.keep (S := All) ((IsRow.new _ _ _).alloc _) hk1 trivial
  obtain ⟨c1, c2⟩ := r1.one
  obtain ⟨c3, c4⟩ := r0.one
  have hlt := r1.lt
  go_wp2_with (go_at_call 39; refine Hid.out ?_)
  all_goals
    refine hid ?_
    refine (hexp _ w1 (by omega) hk0).mono ?_
    clear hexp
    rintro e w2 ⟨vr, rfl, ⟨u2, rfl, hs2⟩, hk2⟩
    have hs2' := hs2
    obtain ⟨a2, cap2, rfl, _, h⟩ := hs2'
    clear h
    have r2 := r1.keep hk2 trivial
    obtain ⟨c5, c6⟩ := r2.one
    go_wp2
    have k2 := (r2.set 0 (.slice a2 (expandM ss).length cap2)).one
    have hkw : Keeps (fun k => k ≠ w.heap.size + 1) w2 (w2.setCell ⟨w.heap.size + 1, 0, none⟩ (.slice a2 (expandM ss).length cap2)) := (Keeps.refl _ _).setCell (fun _ hn => hn rfl) _
    refine bodyPost_ret (v := .tuple #[.agg #[.slice a2 (expandM ss).length cap2], .int .i64 0]) (by simp [results, Tryd.results13, go_sem, k2]) rfl ⟨_, rfl, ⟨_, rfl, ?_⟩, ?_⟩
    · exact hs2.move hkw fun k _ hk => ⟨by omega, trivial⟩
    · exact (hk0.trans hk2).upto hkw fun k hk => by omega

end Go.Proofs.YtcbmljfgmeeadaaDoor
