/-
  CONTRACT: the reference's Graft.
  CONTRACT: the reference's Graft, where it returns a proof.
-/
import Derived.Test.YtcbmljfgmeeadaaDoorJK
import Derived.Test.YtcbmljfgmeeadaaDoorJG
import Derived.Test.YtcbmljfgmeeadaaDoorAppT
import Derived.Test.YtcbmljfgmeeadaaDoorG18
namespace Go.Proofs.YtcbmljfgmeeadaaDoor
open Go.RowKit

attribute [local go_sem] Oper.semAt_some

/-- The region that appends an Arg's new number to the step in the box. -/
def GfA (bx B6 i k y gn : Nat) (ua nowv : Value) (sa aa : Addr) (xv : Value) (lab : ByteArray) (a2 : Option Addr) (c2 : Nat) (d : Int) (xs : List Int) (T : Array Value) (W0 : World) (b : Nat → Bool) (a' : Act) (w' : World) : Prop :=
  ∃ (tb g' c' : Nat), a' = Act.mk (sIs T [(b 0, 80, .pointer (some ⟨B6, 1, none⟩)), (b 1, 81, .slice a2 k c2), (b 2, 82, nowv), (b 3, 83, .pointer (some ⟨bx, 0, none⟩)), (b 4, 84, ua), (b 5, 85, .int .i64 (i : Int)), (b 6, 86, .pointer (some sa)), (b 7, 87, .pointer (some ⟨sa.block, sa.off + 1, none⟩)), (b 8, 88, xv), (b 9, 89, .int .i64 (k : Int)),
      (b 10, 90, .pointer (some aa)), (b 11, 91, .int .i64 (y : Int)), (b 12, 92, .pointer (some ⟨gn, y, none⟩)), (b 13, 93, .int .i64 d), (b 14, 94, .slice (some ⟨tb, 0, none⟩) 1 1), (b 15, 95, .slice (some ⟨g', 0, none⟩) (k + 1) c'), (b 16, 96, .pointer (some ⟨B6, 1, none⟩))]) [] ∧
    Keeps (fun q => (Value.slice a2 k c2).ownBlock ≠ some q ∧ q ≠ B6) W0 w' ∧ (b 15 = false → Keeps All W0 w') ∧ (b 14 = true → b 15 = false → IsRow w' tb 3 [.int .i64 d]) ∧
    (b 15 = true → w'.ownsRow (B6 + 1) 3 1 (.slice (some ⟨g', 0, none⟩) (k + 1) c') (k + 1) (ints (xs ++ [d]))) ∧
    IsRow w' B6 45 [.string lab, bif b 17 then .slice (some ⟨g', 0, none⟩) (k + 1) c' else .slice a2 k c2] ∧ (b 15 = true → b 1 = true) ∧ (b 15 = true → b 14 = true) ∧ (b 17 = true → b 15 = true)

/-- The region that visits what has been merged. -/
def GfV (bx n : Nat) (ua : Value) (os : List Stp) (T : Array Value) (W0 : World) (b : Nat → Bool) (a' : Act) (w' : World) : Prop :=
  ∃ (nb : Nat) (a3 : Option Addr) (c3 nb2 : Nat), a' = Act.mk (sIs T [(b 0, 121, .agg #[ua]), (b 1, 122, .pointer (some ⟨bx, 0, none⟩)), (b 2, 123, ua), (b 3, 124, .int .i64 (n : Int)), (b 4, 125, .int .i64 ((n : Int) - 1)), (b 5, 126, .pointer (some ⟨bx, 0, none⟩)), (b 6, 127, ua), (b 7, 128, .int .i64 (n : Int)),
      (b 8, 129, .slice (some ⟨nb, 0, none⟩) n n), (b 9, 130, .agg #[.slice none 0 0, .slice (some ⟨nb, 0, none⟩) n n]), (b 10, 131, .agg #[.slice a3 os.length c3, .slice (some ⟨nb, 0, none⟩) n n]), (b 11, 132, .slice a3 os.length c3), (b 12, 133, .agg #[.slice a3 os.length c3]), (b 13, 17, .pointer (some ⟨nb2, 0, none⟩))]) [] ∧
    Keeps All W0 w' ∧ (b 8 = true → b 10 = false → W0.heap.size ≤ nb ∧ IsRow w' nb 3 (ints (List.replicate n (-1)))) ∧ (b 10 = true → IsSteps All w' (.slice a3 os.length c3) os) ∧
    (b 13 = true → W0.heap.size ≤ nb2 ∧ IsRow w' nb2 24 [bif b 14 then .slice a3 os.length c3 else .slice none 0 0]) ∧ (b 9 = true → b 8 = true) ∧ (b 10 = true → b 9 = true) ∧ (b 11 = true → b 10 = true) ∧ (b 12 = true → b 11 = true) ∧ (b 14 = true → b 12 = true) ∧ (b 14 = true → b 13 = true)

set_option maxHeartbeats 1000000 in
theorem rGraft_bad1 (ss ts : List Stp) (v u : Value) (at_ : Int) (w : World) (hv : IsProof All w v ss) (hu : IsProof All w u ts) (hf : formM ss ≠ 0) : Calls Tryd.prog 21 #[v, .int .i64 at_, u] w (RetP [] (formM ss) w) := by
  obtain ⟨ua, rfl, h1⟩ := hv
  obtain ⟨ub, rfl, h2⟩ := hu
  obtain ⟨a, c, rfl⟩ := h1.form
  obtain ⟨a2, c2, rfl⟩ := h2.form
  have hl1 : ss.length ≤ 140737488351232 := by obtain ⟨_, _, _, hl, _⟩ := h1; exact hl
  have m : Kept (fun W => IsRow W w.heap.size 24 [.slice a ss.length c] ∧ IsRow W (w.heap.size + 1) 24 [.slice a2 ts.length c2] ∧ IsRow W (w.heap.size + 2) 24 [.slice none 0 0] ∧ IsProof All W (.agg #[.slice a ss.length c]) ss ∧ IsProof All W (.agg #[.slice a2 ts.length c2]) ts ∧ Keeps All w W)
      (((w.alloc (.cells #[.slice a ss.length c] 24)).alloc (.cells #[.slice a2 ts.length c2] 24)).alloc (.cells #[.slice none 0 0] 24)) := by
    have hk : Keeps All w (((w.alloc (.cells #[.slice a ss.length c] 24)).alloc (.cells #[.slice a2 ts.length c2] 24)).alloc (.cells #[.slice none 0 0] 24)) := (((Keeps.refl _ _).alloc _).alloc _).alloc _
    intro B hB
    exact ⟨(((IsRow.new _ _ _).alloc _).alloc _).keep hB trivial, ((show IsRow _ (w.heap.size + 1) 24 [.slice a2 ts.length c2] from IsRow.newAt (by simp)).alloc _).keep hB trivial, (show IsRow _ (w.heap.size + 2) 24 [_] from IsRow.newAt (by simp)).keep hB trivial, ⟨_, rfl, h1.keep (hk.trans hB) fun _ _ h => h⟩, ⟨_, rfl, h2.keep (hk.trans hB) fun _ _ h => h⟩, hk.trans hB⟩
  have hf1 := rForm_c ss _ _ m.now.2.2.2.1
  have hf2 : ∀ W, IsProof All W (.agg #[.slice a2 ts.length c2]) ts → Calls Tryd.prog 43 #[.agg #[.slice a2 ts.length c2]] W fun e w' => e = .returned (.int .i64 (formM ts)) ∧ Keeps All W w' := fun W h => rForm_c ts _ W h
  generalize formM ss = e0 at hf1 hf ⊢
  have h0 : (e0 == 0) = false := by simpa using hf
  have Hf2 := hid hf2
  clear h1 h2 hf2
  go_enter Tryd.func21, Tryd.ntmps21
  go_wp2_with (go_at_call 43; refine Hid.out ?_)
  refine hid ?_
  refine hf1.mono ?_
  clear hf1
  rintro e w1 ⟨rfl, hk1⟩
  replace m := m.on hk1
  clear hk1
  obtain ⟨p1, p2, p3, _⟩ := m.now
  obtain ⟨d1, _⟩ := p1.one
  obtain ⟨d2, _⟩ := p2.one
  obtain ⟨d3, d4⟩ := p3.one
  have l3 := p3.lt
  go_wp2
  have k2 := (m.now.2.2.1.set 0 (.slice none 0 0)).one
  have hl3 := m.now.2.2.1.lt
  refine bodyPost_ret (v := .tuple #[.agg #[.slice none 0 0], .int .i64 e0]) (by simp [results, Tryd.results21, go_sem, k2]) rfl ⟨none, 0, rfl, steps_nil_any _ _, ?_⟩
  exact m.now.2.2.2.2.2.setCell (fun (h : w.heap.size + 2 < _) => absurd h (by omega)) _

set_option maxHeartbeats 1000000 in
theorem rGraft_bad2 (ss ts : List Stp) (v u : Value) (at_ : Int) (w : World) (hv : IsProof All w v ss) (hu : IsProof All w u ts) (hok1 : Okay ss) (hf : formM ts ≠ 0) : Calls Tryd.prog 21 #[v, .int .i64 at_, u] w (RetP [] (formM ts) w) := by
  obtain ⟨ua, rfl, h1⟩ := hv
  obtain ⟨ub, rfl, h2⟩ := hu
  obtain ⟨a, c, rfl⟩ := h1.form
  obtain ⟨a2, c2, rfl⟩ := h2.form
  have hl1 : ss.length ≤ 140737488351232 := by obtain ⟨_, _, _, hl, _⟩ := h1; exact hl
  have m : Kept (fun W => IsRow W w.heap.size 24 [.slice a ss.length c] ∧ IsRow W (w.heap.size + 1) 24 [.slice a2 ts.length c2] ∧ IsRow W (w.heap.size + 2) 24 [.slice none 0 0] ∧ IsProof All W (.agg #[.slice a ss.length c]) ss ∧ IsProof All W (.agg #[.slice a2 ts.length c2]) ts ∧ Keeps All w W)
      (((w.alloc (.cells #[.slice a ss.length c] 24)).alloc (.cells #[.slice a2 ts.length c2] 24)).alloc (.cells #[.slice none 0 0] 24)) := by
    have hk : Keeps All w (((w.alloc (.cells #[.slice a ss.length c] 24)).alloc (.cells #[.slice a2 ts.length c2] 24)).alloc (.cells #[.slice none 0 0] 24)) := (((Keeps.refl _ _).alloc _).alloc _).alloc _
    intro B hB
    exact ⟨(((IsRow.new _ _ _).alloc _).alloc _).keep hB trivial, ((show IsRow _ (w.heap.size + 1) 24 [.slice a2 ts.length c2] from IsRow.newAt (by simp)).alloc _).keep hB trivial, (show IsRow _ (w.heap.size + 2) 24 [_] from IsRow.newAt (by simp)).keep hB trivial, ⟨_, rfl, h1.keep (hk.trans hB) fun _ _ h => h⟩, ⟨_, rfl, h2.keep (hk.trans hB) fun _ _ h => h⟩, hk.trans hB⟩
  have hf1 := rForm_c ss _ _ m.now.2.2.2.1
  have hf2 : ∀ W, IsProof All W (.agg #[.slice a2 ts.length c2]) ts → Calls Tryd.prog 43 #[.agg #[.slice a2 ts.length c2]] W fun e w' => e = .returned (.int .i64 (formM ts)) ∧ Keeps All W w' := fun W h => rForm_c ts _ W h
  rw [(formM_zero ss).2 hok1] at hf1
  clear hok1
  generalize formM ts = e0 at hf2 hf ⊢
  have h0 : (e0 == 0) = false := by simpa using hf
  have Hf2 := hid hf2
  clear h1 h2 hf2
  go_enter Tryd.func21, Tryd.ntmps21
  go_wp2_with (go_at_call 43; refine Hid.out ?_)
  refine hid ?_
  refine hf1.mono ?_
  clear hf1
  rintro e w1 ⟨rfl, hk1⟩
  replace m := m.on hk1
  clear hk1
  obtain ⟨p1, p2, p3, _⟩ := m.now
  obtain ⟨d1, _⟩ := p1.one
  obtain ⟨d2, _⟩ := p2.one
  obtain ⟨d3, d4⟩ := p3.one
  have hf := Hf2.out _ m.now.2.2.2.2.1
  have l3 := p3.lt
  go_wp2_with (go_at_call 43; refine Hid.out ?_)
  refine hid ?_
  refine hf.mono ?_
  clear hf d1 d2 d3 d4 p1 p2 p3
  rintro e w2 ⟨rfl, hk2⟩
  replace m := m.on hk2
  clear hk2
  obtain ⟨p1, p2, p3, _⟩ := m.now
  obtain ⟨d1, _⟩ := p1.one
  obtain ⟨d3, d4⟩ := p3.one
  have l4 := p3.lt
  go_wp2
  have k2 := (m.now.2.2.1.set 0 (.slice none 0 0)).one
  have hl3 := m.now.2.2.1.lt
  refine bodyPost_ret (v := .tuple #[.agg #[.slice none 0 0], .int .i64 e0]) (by simp [results, Tryd.results21, go_sem, k2]) rfl ⟨none, 0, rfl, steps_nil_any _ _, ?_⟩
  exact m.now.2.2.2.2.2.setCell (fun (h : w.heap.size + 2 < _) => absurd h (by omega)) _

set_option maxHeartbeats 1000000 in
theorem rGraft_range (ss ts : List Stp) (v u : Value) (at_ : Int) (w : World) (hv : IsProof All w v ss) (hu : IsProof All w u ts) (hok1 : Okay ss) (hok2 : Okay ts) (hat : at_ < 0 ∨ (ss.length : Int) ≤ at_) : Calls Tryd.prog 21 #[v, .int .i64 at_, u] w (RetP [] 3 w) := by
  obtain ⟨ua, rfl, h1⟩ := hv
  obtain ⟨ub, rfl, h2⟩ := hu
  obtain ⟨a, c, rfl⟩ := h1.form
  obtain ⟨a2, c2, rfl⟩ := h2.form
  have hl1 : ss.length ≤ 140737488351232 := by obtain ⟨_, _, _, hl, _⟩ := h1; exact hl
  have m : Kept (fun W => IsRow W w.heap.size 24 [.slice a ss.length c] ∧ IsRow W (w.heap.size + 1) 24 [.slice a2 ts.length c2] ∧ IsRow W (w.heap.size + 2) 24 [.slice none 0 0] ∧ IsProof All W (.agg #[.slice a ss.length c]) ss ∧ IsProof All W (.agg #[.slice a2 ts.length c2]) ts ∧ Keeps All w W)
      (((w.alloc (.cells #[.slice a ss.length c] 24)).alloc (.cells #[.slice a2 ts.length c2] 24)).alloc (.cells #[.slice none 0 0] 24)) := by
    have hk : Keeps All w (((w.alloc (.cells #[.slice a ss.length c] 24)).alloc (.cells #[.slice a2 ts.length c2] 24)).alloc (.cells #[.slice none 0 0] 24)) := (((Keeps.refl _ _).alloc _).alloc _).alloc _
    intro B hB
    exact ⟨(((IsRow.new _ _ _).alloc _).alloc _).keep hB trivial, ((show IsRow _ (w.heap.size + 1) 24 [.slice a2 ts.length c2] from IsRow.newAt (by simp)).alloc _).keep hB trivial, (show IsRow _ (w.heap.size + 2) 24 [_] from IsRow.newAt (by simp)).keep hB trivial, ⟨_, rfl, h1.keep (hk.trans hB) fun _ _ h => h⟩, ⟨_, rfl, h2.keep (hk.trans hB) fun _ _ h => h⟩, hk.trans hB⟩
  have hf1 := rForm_c ss _ _ m.now.2.2.2.1
  have hf2 : ∀ W, IsProof All W (.agg #[.slice a2 ts.length c2]) ts → Calls Tryd.prog 43 #[.agg #[.slice a2 ts.length c2]] W fun e w' => e = .returned (.int .i64 (formM ts)) ∧ Keeps All W w' := fun W h => rForm_c ts _ W h
  rw [(formM_zero ss).2 hok1] at hf1
  rw [(formM_zero ts).2 hok2] at hf2
  clear hok1 hok2
  have Hf2 := hid hf2
  clear h1 h2 hf2
  go_enter Tryd.func21, Tryd.ntmps21
  go_wp2_with (go_at_call 43; refine Hid.out ?_)
  refine hid ?_
  refine hf1.mono ?_
  clear hf1
  rintro e w1 ⟨rfl, hk1⟩
  replace m := m.on hk1
  clear hk1
  obtain ⟨p1, p2, p3, _⟩ := m.now
  obtain ⟨d1, _⟩ := p1.one
  obtain ⟨d2, _⟩ := p2.one
  obtain ⟨d3, d4⟩ := p3.one
  have hf := Hf2.out _ m.now.2.2.2.2.1
  have l3 := p3.lt
  go_wp2_with (go_at_call 43; refine Hid.out ?_)
  refine hid ?_
  refine hf.mono ?_
  clear hf d1 d2 d3 d4 p1 p2 p3
  rintro e w2 ⟨rfl, hk2⟩
  replace m := m.on hk2
  clear hk2
  obtain ⟨p1, p2, p3, _⟩ := m.now
  obtain ⟨d1, _⟩ := p1.one
  obtain ⟨d3, d4⟩ := p3.one
  have l4 := p3.lt
  rcases hat with hat | hat
  · go_wp2
    have k2 := (m.now.2.2.1.set 0 (.slice none 0 0)).one
    have hl3 := m.now.2.2.1.lt
    refine bodyPost_ret (v := .tuple #[.agg #[.slice none 0 0], .int .i64 3]) (by simp [results, Tryd.results21, go_sem, k2]) rfl ⟨none, 0, rfl, steps_nil_any _ _, ?_⟩
    exact m.now.2.2.2.2.2.setCell (fun (h : w.heap.size + 2 < _) => absurd h (by omega)) _
  · have hat2 : 0 ≤ at_ := by omega
    go_wp2
    have k2 := (m.now.2.2.1.set 0 (.slice none 0 0)).one
    have hl3 := m.now.2.2.1.lt
    refine bodyPost_ret (v := .tuple #[.agg #[.slice none 0 0], .int .i64 3]) (by simp [results, Tryd.results21, go_sem, k2]) rfl ⟨none, 0, rfl, steps_nil_any _ _, ?_⟩
    exact m.now.2.2.2.2.2.setCell (fun (h : w.heap.size + 2 < _) => absurd h (by omega)) _

end Go.Proofs.YtcbmljfgmeeadaaDoor

namespace Go.Proofs.YtcbmljfgmeeadaaDoor
open Go.RowKit

attribute [local go_sem] Oper.semAt_some

theorem IsRow.ne {w : World} {b b' : Nat} {e e' : TypeId} {L L' : List Value} (h : IsRow w b e L) (h' : IsRow w b' e' L') (hne : e ≠ e') : b ≠ b' := fun hb => by
  subst hb
  have h2 := (show w.heap[b]? = some (.cells L.toArray e) from h).symm.trans (show w.heap[b]? = some (.cells L'.toArray e') from h')
  injection h2 with h3
  injection h3 with _ h4 _
  exact hne h4

set_option maxRecDepth 100000 in
set_option maxHeartbeats 16000000 in
theorem rGraft_good (ss ts : List Stp) (v u : Value) (k : Nat) (w : World) (hv : IsProof All w v ss) (hu : IsProof All w u ts) (hok1 : Okay ss) (hok2 : Okay ts) (hat : k < ss.length) (hlen : ss.length + ts.length ≤ 2000) :
    Calls Tryd.prog 21 #[v, .int .i64 (k : Int), u] w (RetP (shareM (graftM ss k ts)) 0 w) := by
  obtain ⟨ua, rfl, h1⟩ := hv
  obtain ⟨ub, rfl, h2⟩ := hu
  obtain ⟨a, c, rfl⟩ := h1.form
  obtain ⟨a2, c2, rfl⟩ := h2.form
  have hts1 : 1 ≤ ts.length := hok2.1
  have hss1 : 1 ≤ ss.length := hok1.1
  obtain ⟨hw1, hw2⟩ := wholeM_spec hok1 hok2 k hlen
  have hfinal : Hid (orderedM (mergedM (wholeM ss ts k)) = shareM (graftM ss k ts)) := by
    rw [Hid, share_ref hw1, share_of_tree hw1 (graftM_okay hok1 hok2 k hlen) hw2]
  have hqo := hid (mergedM_spec hw1).1
  obtain ⟨hg1, hg2, _⟩ := glLast_spec hok1 hok2 k hlen
  have hgst := hid (fun i hi => glTo_st hok1 hok2 k hlen i hi)
  have hwl : Hid (wholeM ss ts k = (glTo ss ts k ss.length).1.take (glLast ss ts k + 1)) := rfl
  have hwlen : Hid ((wholeM ss ts k).length = glLast ss ts k + 1) := by rw [Hid, wholeM, List.length_take]; omega
  obtain ⟨b2, off2, rfl⟩ : ∃ b off, a2 = some ⟨b, off, none⟩ := by
    obtain ⟨_, _, he, _, h⟩ := h2
    cases he
    rcases h with ⟨h, _⟩ | ⟨b, off, h, _⟩
    · rw [h] at hts1; simp at hts1
    · exact ⟨b, off, h⟩
  have m : Kept (fun W => IsRow W w.heap.size 24 [.slice a ss.length c] ∧ IsRow W (w.heap.size + 1) 24 [.slice (some ⟨b2, off2, none⟩) ts.length c2] ∧ IsRow W (w.heap.size + 2) 24 [.slice none 0 0] ∧ IsProof All W (.agg #[.slice a ss.length c]) ss ∧ IsProof All W (.agg #[.slice (some ⟨b2, off2, none⟩) ts.length c2]) ts ∧ Keeps All w W)
      (((w.alloc (.cells #[.slice a ss.length c] 24)).alloc (.cells #[.slice (some ⟨b2, off2, none⟩) ts.length c2] 24)).alloc (.cells #[.slice none 0 0] 24)) := by
    have hk : Keeps All w (((w.alloc (.cells #[.slice a ss.length c] 24)).alloc (.cells #[.slice (some ⟨b2, off2, none⟩) ts.length c2] 24)).alloc (.cells #[.slice none 0 0] 24)) := (((Keeps.refl _ _).alloc _).alloc _).alloc _
    intro B hB
    exact ⟨(((IsRow.new _ _ _).alloc _).alloc _).keep hB trivial, ((show IsRow _ (w.heap.size + 1) 24 [.slice (some ⟨b2, off2, none⟩) ts.length c2] from IsRow.newAt (by simp)).alloc _).keep hB trivial, (show IsRow _ (w.heap.size + 2) 24 [_] from IsRow.newAt (by simp)).keep hB trivial, ⟨_, rfl, h1.keep (hk.trans hB) fun _ _ h => h⟩, ⟨_, rfl, h2.keep (hk.trans hB) fun _ _ h => h⟩, hk.trans hB⟩
  have hf1 := rForm_c ss _ _ m.now.2.2.2.1
  have hf2 : ∀ W, IsProof All W (.agg #[.slice (some ⟨b2, off2, none⟩) ts.length c2]) ts → Calls Tryd.prog 43 #[.agg #[.slice (some ⟨b2, off2, none⟩) ts.length c2]] W fun e w' => e = .returned (.int .i64 (formM ts)) ∧ Keeps All W w' := fun W h => rForm_c ts _ W h
  rw [(formM_zero ss).2 hok1] at hf1
  rw [(formM_zero ts).2 hok2] at hf2
  have Hf2 := hid hf2
  have H1 := hid h1
  have H2 := hid h2
  have Hok1 := hid hok1
  have Hok2 := hid hok2
  have Hg1 := hid hg1
  clear hf2 h1 h2 hok1 hok2 hw1 hw2 hg1
  have hdk : decide (ss.length ≤ k) = false := by simp; omega
  have hdk2 : decide ((k : Int) < 0) = false := by simp
  refine (callsIn_wide (n := 5)).1 ?_
  refine callsIn_of_wp Tryd.func21 rfl trivial ?_ rfl
  simp only [Tryd.ntmps21, List.size_toArray, List.length_cons, List.length_nil, Nat.reduceAdd, Nat.reduceSub, Array.replicate_succ, Array.replicate_zero, List.push_toArray, List.append_toArray, List.nil_append, List.cons_append]
  gi_wp2
  refine ⟨trivial, ?_⟩
  refine (callsIn_wide.2 hf1).mono ?_
  clear hf1
  rintro e w1 ⟨rfl, hk1⟩
  replace m := m.on hk1
  clear hk1
  obtain ⟨p1, p2, p3, _⟩ := m.now
  obtain ⟨d2, _⟩ := p2.one
  have hf := Hf2.out _ m.now.2.2.2.2.1
  clear p1 p2 p3
  gi_wp2
  refine ⟨trivial, ?_⟩
  refine (callsIn_wide.2 hf).mono ?_
  clear hf d2
  rintro e w2 ⟨rfl, hk2⟩
  replace m := m.on hk2
  clear hk2 Hf2
  obtain ⟨p1, p2, p3, q1, q2, hk02⟩ := m.now
  obtain ⟨d1, _⟩ := p1.one
  obtain ⟨d2, _⟩ := p2.one
  have hl3 := p3.lt
  have hl4 : w.heap.size < w2.heap.size := by omega
  have hl5 : w.heap.size + 1 < w2.heap.size := by omega
  gi_wp2_with (gi_at_builtin; refine Hid.out ?_)
  refine hid ?_
  have hka : Keeps All w2 (w2.alloc (.cells #[] 45)) := (Keeps.refl _ _).alloc _
  refine append_steps _ rfl (.tmp 40) (.tmp 42) rfl (w.heap.size + 3) (.slice (some ⟨w2.heap.size, 0, none⟩) 0 0) rfl (owns_none_step _ _ (by omega)) ts b2 off2 c2 (fun q => q < w.heap.size) rfl hts1 (by omega)
    (H2.out.move (hk02.trans hka) fun q hq _ => ⟨trivial, hq⟩) (fun q hq => ⟨fun e => by have e2 : w2.heap.size = q := Option.some.inj e; omega, by simp; omega⟩) (by simp; omega) ?_
  intro g1' c1' w3 hol3 hk3 hg3
  have hk3' : Keeps All w2 w3 := hka.trans2 hk3 fun q hq _ e => by have e2 : w2.heap.size = q := Option.some.inj e; omega
  replace m := m.on hk3'
  have hsz3 := hk3'.size
  have hg3' : w2.heap.size ≤ g1' := by
    rcases hg3 with h | h
    · exact Nat.le_of_eq (Option.some.inj h).symm
    · rw [h]; simp
  have hg3l := (hol3.lt (k := g1') rfl).2
  have hka2 : Keeps All w3 (w3.alloc (.cells #[] 3)) := (Keeps.refl _ _).alloc _
  have hol4 : OwnIn (fun q => (q < w.heap.size ∨ w.heap.size + 3 ≤ q) ∧ q ≠ w3.heap.size) (w.heap.size + 3) (w3.alloc (.cells #[] 3)) (.slice (some ⟨g1', 0, none⟩) ts.length c1') ts :=
    (hol3.sub fun q hq h => (show (q < w.heap.size ∨ w.heap.size + 3 ≤ q) ∧ q ≠ w3.heap.size from ⟨Or.inl h, by omega⟩)).keep hka2 (fun _ _ => trivial) fun _ _ _ _ => trivial
  have hoa4 := owns_none_int w3 (w.heap.size + 3) (by omega)
  have m4 := m.on hka2
  have Hol4 := hid hol4
  have Hoa4 := hid hoa4
  have hs4 : w3.heap.size + 1 = (w3.alloc (.cells #[] 3)).heap.size := by simp
  have hsz4 : w.heap.size + 3 ≤ (w3.alloc (.cells #[] 3)).heap.size := by rw [← hs4]; omega
  clear hol3 hol4 hoa4 hka hka2 hk3 hk3' hg3 d1 d2 p1 p2 p3 q1 q2 hk02 m hs4
  simp only [Act.put, List.setIfInBounds_toArray, List.set_cons_succ, List.set_cons_zero]
  gi_wp2
  gi_loopw [10, 11, 12] (fun ov nv iv wr => ∃ (i go m co gn cn : Nat), i ≤ ss.length ∧ iv = .int .i64 i ∧ ov = .slice (some ⟨go, 0, none⟩) m co ∧ nv = .slice (some ⟨gn, 0, none⟩) i cn ∧ Hid (m = (glTo ss ts k i).1.length) ∧ Keeps All w wr ∧ w.heap.size + 3 ≤ wr.heap.size ∧
    IsRow wr w.heap.size 24 [.slice a ss.length c] ∧ IsRow wr (w.heap.size + 1) 24 [.slice (some ⟨b2, off2, none⟩) ts.length c2] ∧ IsRow wr (w.heap.size + 2) 24 [.slice none 0 0] ∧
    OwnIn (fun q => (q < w.heap.size ∨ w.heap.size + 3 ≤ q) ∧ q ≠ gn) (w.heap.size + 3) wr (.slice (some ⟨go, 0, none⟩) m co) (glTo ss ts k i).1 ∧
    wr.ownsRow (w.heap.size + 3) 3 1 (.slice (some ⟨gn, 0, none⟩) i cn) i (ints (glTo ss ts k i).2) ∧ go ≠ gn) (fun _ _ iv _ => ss.length - (intOf iv).toNat)
  case atStart =>
    obtain ⟨p1, p2, p3, _, _, hkk⟩ := m4.now
    exact ⟨0, g1', ts.length, c1', w3.heap.size, 0, Nat.zero_le _, rfl, rfl, rfl, rfl, hkk, hsz4, p1, p2, p3, Hol4.out, Hoa4.out, by omega⟩
  case round =>
    obtain ⟨i, go, m, co, gn, cn, hi, rfl, rfl, rfl, hm, hkw, hsz, hrp, hrq, hrr, hol, hoa, hne⟩ := hrel
    have hmst := hgst.out i hi
    obtain ⟨d1, _⟩ := hrp.one
    obtain ⟨d2, _⟩ := hrq.one
    have hgn := hoa.lt gn rfl
    have hgo := hol.lt (k := go) rfl
    have hml : m ≤ 2000 := by rw [hm.out]; have := hmst.llen; omega
    have hnl := hid hmst.len
    by_cases hlt : i < ss.length
    · by_cases hik : i = k
      · have hsucc : Hid (glTo ss ts k (i + 1) = ((glTo ss ts k i).1, (glTo ss ts k i).2 ++ [(ts.length : Int) - 1])) := by simp [Hid, glTo, hik]
        have hie : ((i : Int) == (k : Int)) = true := by simp [hik]
        have Hol := hid hol
        have Hoa := hid hoa
        clear hol hoa hik hmst
        gi_wp2_with (gi_at_builtin; refine Hid.out ?_)
        refine hid ?_
        have hka : Keeps All wr (wr.alloc (.cells #[.int .i64 ((ts.length : Int) - 1)] 3)) := (Keeps.refl _ _).alloc _
        refine append_intk _ rfl (.tmp 55) (.tmp 60) rfl (w.heap.size + 3) (.slice (some ⟨gn, 0, none⟩) i cn) (glTo ss ts k i).2 i hnl.out ((ts.length : Int) - 1) rfl (owns_keep Hoa.out hka fun _ _ => trivial) wr.heap.size rfl (IsRow.new _ _ _) (by omega) (by simp; omega) ?_
        intro gn' cn' w9 ho' hk9 hw9
        have Ho' := hid ho'
        have hgn2 : gn' = gn ∨ (wr.alloc (.cells #[.int .i64 ((ts.length : Int) - 1)] 3)).heap.size ≤ gn' := by
          rcases hw9 with h | h
          · exact Or.inl (Option.some.inj h)
          · exact Or.inr (Nat.le_of_eq h.symm)
        have hk9' : Keeps (fun q => q ≠ gn) (wr.alloc (.cells #[.int .i64 ((ts.length : Int) - 1)] 3)) w9 := hk9.sub fun q _ h e => h (Option.some.inj e).symm
        have Hol9 := hid ((Hol.out.keep hka (fun _ _ => trivial) fun _ _ _ _ => trivial).swap2 hk9' (fun e => hne (Option.some.inj e)) hgn2)
        have hsa := hka.size
        have hs9 := hk9'.size
        have hgo2 : go ≠ gn' := by
          rcases hgn2 with h | h
          · rw [h]; exact hne
          · omega
        clear ho' hw9
        simp only [Act.put, List.setIfInBounds_toArray, List.set_cons_succ, List.set_cons_zero]
        gi_wp2
        go_roundw
        case rel =>
          exact ⟨i + 1, go, m, co, gn', cn', by omega, by go_num, rfl, rfl, by rw [hsucc.out]; exact hm, (hkw.trans hka).upto hk9' fun q hq => by omega, by omega, (hrp.keep hka trivial).keep hk9' (by omega), (hrq.keep hka trivial).keep hk9' (by omega), (hrr.keep hka trivial).keep hk9' (by omega), by rw [hsucc.out]; exact Hol9.out, by rw [hsucc.out]; exact Ho'.out, hgo2⟩
        case measure => simp [intOf]; omega
      · obtain ⟨b, off, va, hab, e0, e1, hva⟩ := (H1.out.keep hkw fun _ _ h => h).at hlt
        subst hab
        have hsucc : Hid (glTo ss ts k (i + 1) = ((glTo ss ts k i).1 ++ [renumM (glTo ss ts k i).2 ss[i]], (glTo ss ts k i).2 ++ [((glTo ss ts k i).1.length : Int)])) := by simp only [Hid, glTo, if_neg hik, stpAt_lt hlt]
        have hie : ((i : Int) == (k : Int)) = false := by rw [beq_eq_false_iff_ne]; omega
        have hr40 := (Hok1.out.2.2 i hlt).1
        have hrange := hid ((Hok1.out.2.2 i hlt).2)
        have hat := hid hmst.at_
        have hllen := hid hmst.llen
        obtain ⟨outs, hou⟩ : ∃ outs, (glTo ss ts k i).1 = outs := ⟨_, rfl⟩
        obtain ⟨now, hno⟩ : ∃ now, (glTo ss ts k i).2 = now := ⟨_, rfl⟩
        rw [hou] at hm hol hat hllen hsucc
        rw [hno] at hoa hnl hat hsucc
        clear hou hno hmst hik
        generalize hxs : ss[i].args = xs at *
        generalize hlab : ss[i].label = lab at *
        obtain ⟨xa, xc, rfl⟩ := hva.form
        obtain ⟨wo, rfl⟩ : ∃ wo : World, wo = wr := ⟨_, rfl⟩
        obtain ⟨W1, hW1⟩ : ∃ W1, wo.alloc (.cells #[.string lab, .slice none 0 0] 45) = W1 := ⟨_, rfl⟩
        have hk1 : Keeps All wo W1 := by rw [← hW1]; exact (Keeps.refl _ _).alloc _
        have hs1 : W1.heap.size = wo.heap.size + 1 := by rw [← hW1]; simp
        have rb1 : IsRow W1 wo.heap.size 45 [.string lab, .slice none 0 0] := by rw [← hW1]; exact IsRow.new _ _ _
        have Hs1 := hid hs1
        have Hxs := hid hxs
        have Hlab := hid hlab
        have Hva := hid hva
        have Hol := hid hol
        have Hoa := hid hoa
        have HW1 := hid hW1
        clear hs1 hxs hlab hva hol hoa hW1
        gi_wp2
        rw [HW1.out]
        gi_loopw [14] (fun kv wr => ∃ (j : Nat) (a3 : Option Addr) (c3 : Nat), j ≤ xs.length ∧ kv = .int .i64 j ∧ Keeps (fun q => q ≠ wo.heap.size) W1 wr ∧ IsRow wr wo.heap.size 45 [.string lab, .slice a3 j c3] ∧ wr.ownsRow (wo.heap.size + 1) 3 1 (.slice a3 j c3) j (ints ((xs.take j).map (numAt now)))) (fun kv _ => xs.length - (intOf kv).toNat)
        case atStart => exact ⟨0, none, 0, Nat.zero_le _, rfl, Keeps.refl _ _, rb1, World.ownsRow_nil _ _ _ _⟩
        case round =>
          obtain ⟨j, a3, c3, hj, rfl, hkj, hrb, hown⟩ := hrel
          have hkwj : Keeps (fun q => q ≠ wo.heap.size) wo wr := (hk1.sub fun _ _ _ => trivial).trans hkj
          have hsj := hkj.size
          have g1 : wr.cell? ⟨b, off + i * 2 + 1, none⟩ = some (.slice xa xs.length xc) := hkwj.cell (p := ⟨b, off + i * 2 + 1, none⟩) (by have := cell_lt e1; show b ≠ _; exact Nat.ne_of_lt this) e1
          have g2 : wr.cell? ⟨w.heap.size, 0, none⟩ = some (.slice (some ⟨b, off, none⟩) ss.length c) := hkwj.cell (p := ⟨w.heap.size, 0, none⟩) (by show w.heap.size ≠ _; omega) d1
          by_cases hjl : j < xs.length
          · obtain ⟨bx2, ox2, rfl, d3⟩ := Hva.out.at hjl
            have d3' : wr.cell? ⟨bx2, ox2 + j, none⟩ = some (.int .i64 xs[j]) := hkwj.cell (p := ⟨bx2, ox2 + j, none⟩) (by have := cell_lt d3; show bx2 ≠ _; exact Nat.ne_of_lt this) d3
            have hr := hrange.out xs[j] (List.getElem_mem hjl)
            obtain ⟨y, hy⟩ : ∃ y : Nat, xs[j] = (y : Int) := ⟨xs[j].toNat, by omega⟩
            have hyi : y < i := by omega
            obtain ⟨d, hd1, hd2, _⟩ := hat.out y hyi
            have hnum : Hid ((xs.take (j + 1)).map (numAt now) = (xs.take j).map (numAt now) ++ [(d : Int)]) := by
              rw [Hid, List.take_succ_eq_append_getElem hjl, List.map_append, hy]
              simp [numAt, hd1]
            have hoa2 := owns_keep Hoa.out hkwj fun q e => by cases e; show gn ≠ _; omega
            have d4 : wr.cell? ⟨gn, y, none⟩ = some (.int .i64 (d : Int)) := by
              have hyl : y < now.length := by rw [hnl.out]; exact hyi
              rw [owns_int_at hoa2 hyl]
              rw [List.getElem?_eq_getElem hyl] at hd1
              rw [Option.some.inj hd1]
            have hd3 : d ≤ 2000 := by have := hllen.out; omega
            have hlk : Hid (((xs.take j).map (numAt now)).length = j) := by simp [Hid]; omega
            rw [hy] at d3'
            have hblt : b ≠ wo.heap.size := Nat.ne_of_lt (cell_lt e1)
            have hb2lt : bx2 ≠ wo.heap.size := Nat.ne_of_lt (cell_lt d3)
            have hbl := cell_lt e1
            have hb2l := cell_lt d3
            have Hown := hid hown
            clear hy hr hd1 hd2 hoa2 hown d3
            obtain ⟨asq, hasq⟩ : ∃ asq, (xs.take j).map (numAt now) = asq := ⟨_, rfl⟩
            rw [hasq] at Hown hnum hlk
            clear hasq
            have hlo : ∀ q, q < wo.heap.size + 1 → (Value.slice a3 j c3).ownBlock ≠ some q := fun q hq e => by have := (Hown.out.lt q e).1; omega
            have hB := hrb.lt
            gi_wp2
            refine wpIn_region_inv (GfA w.heap.size wo.heap.size i j y gn (.slice (some ⟨b, off, none⟩) ss.length c) (.slice (some ⟨gn, 0, none⟩) i cn) ⟨b, off + i * 2, none⟩ ⟨bx2, ox2 + j, none⟩ (.slice (some ⟨bx2, ox2, none⟩) xs.length xc) lab a3 c3 (d : Int) asq) mixed (by kernel_rfl) ?start ⟨?o0, ?o1, ?o2, ?o3, ?o4, ?o5, ?o6, ?o7, ?o8, ?o9, ?o10, ?o11, ?o12, ?o13, ?o14, ?o15, ?o16, ?o17, trivial⟩ ?fin
            case start =>
              refine ⟨0, 0, 0, by simp only [sIs_nil, sIs_cons, sI_false], (Keeps.refl _ _).drew, fun _ => (Keeps.refl _ _).drew, ?_, ?_, hrb, ?_, ?_, ?_⟩
              all_goals (intro h; cases h)
            case o0 =>
              rintro b' a' w8 hb hd ⟨tb, g3, c4, rfl, hk8, hea8, htm8, hout8, hbx8, h151, h1514, h1715⟩
              simp only [sIs_nil, sIs_cons, sI_lit, lset_zero, lset_succ]
              gi_wp2
              refine ⟨tb, g3, c4, by simp [sIs_nil, sIs_cons, sI_lit, lset_zero, lset_succ, mark], hk8, ?_, ?_, ?_, ?_, ?_, ?_, ?_⟩
              all_goals (simp only [mark, if_false, Nat.reduceEqDiff]; assumption)
            case o1 =>
              rintro b' a' w8 hb hd ⟨tb, g3, c4, rfl, hk8, hea8, htm8, hout8, hbx8, h151, h1514, h1715⟩
              simp [Region.binds] at hd
              have n15 : b' 15 = false := by
                cases h : b' 15 with
                | false => rfl
                | true => rw [h151 h] at hb; cases hb
              have n17 : b' 17 = false := by
                cases h : b' 17 with
                | false => rfl
                | true => rw [h1715 h] at n15; cases n15
              have hbx := hbx8
              rw [n17, cond_false] at hbx
              obtain ⟨f1, f2, _, _⟩ := hbx.two
              simp only [sIs_nil, sIs_cons, sI_lit, lset_zero, lset_succ, hd, cond_true]
              gi_wp2
              refine ⟨tb, g3, c4, by simp [sIs_nil, sIs_cons, sI_lit, lset_zero, lset_succ, mark, hd], hk8, ?_, ?_, ?_, ?_, fun _ => mark_self _ _, ?_, ?_⟩
              all_goals (simp only [mark, if_false, Nat.reduceEqDiff]; assumption)
            case o2 =>
              rintro b' a' w8 hb hd ⟨tb, g3, c4, rfl, hk8, hea8, htm8, hout8, hbx8, h151, h1514, h1715⟩
              simp only [sIs_nil, sIs_cons, sI_lit, lset_zero, lset_succ]
              gi_wp2
              refine ⟨tb, g3, c4, by simp [sIs_nil, sIs_cons, sI_lit, lset_zero, lset_succ, mark], hk8, ?_, ?_, ?_, ?_, ?_, ?_, ?_⟩
              all_goals (simp only [mark, if_false, Nat.reduceEqDiff]; assumption)
            case o3 =>
              rintro b' a' w8 hb hd ⟨tb, g3, c4, rfl, hk8, hea8, htm8, hout8, hbx8, h151, h1514, h1715⟩
              simp only [sIs_nil, sIs_cons, sI_lit, lset_zero, lset_succ]
              gi_wp2
              refine ⟨tb, g3, c4, by simp [sIs_nil, sIs_cons, sI_lit, lset_zero, lset_succ, mark], hk8, ?_, ?_, ?_, ?_, ?_, ?_, ?_⟩
              all_goals (simp only [mark, if_false, Nat.reduceEqDiff]; assumption)
            case o4 =>
              rintro b' a' w8 hb hd ⟨tb, g3, c4, rfl, hk8, hea8, htm8, hout8, hbx8, h151, h1514, h1715⟩
              simp [Region.binds] at hd
              have g0 : w8.cell? ⟨w.heap.size, 0, none⟩ = some (.slice (some ⟨b, off, none⟩) ss.length c) := hk8.cell (p := ⟨w.heap.size, 0, none⟩) ⟨hlo w.heap.size (by omega), by show w.heap.size ≠ _; omega⟩ g2
              simp only [sIs_nil, sIs_cons, sI_lit, lset_zero, lset_succ, hd, cond_true]
              gi_wp2
              refine ⟨tb, g3, c4, by simp [sIs_nil, sIs_cons, sI_lit, lset_zero, lset_succ, mark, hd], hk8, ?_, ?_, ?_, ?_, ?_, ?_, ?_⟩
              all_goals (simp only [mark, if_false, Nat.reduceEqDiff]; assumption)
            case o5 =>
              rintro b' a' w8 hb hd ⟨tb, g3, c4, rfl, hk8, hea8, htm8, hout8, hbx8, h151, h1514, h1715⟩
              simp only [sIs_nil, sIs_cons, sI_lit, lset_zero, lset_succ]
              gi_wp2
              refine ⟨tb, g3, c4, by simp [sIs_nil, sIs_cons, sI_lit, lset_zero, lset_succ, mark], hk8, ?_, ?_, ?_, ?_, ?_, ?_, ?_⟩
              all_goals (simp only [mark, if_false, Nat.reduceEqDiff]; assumption)
            case o6 =>
              rintro b' a' w8 hb hd ⟨tb, g3, c4, rfl, hk8, hea8, htm8, hout8, hbx8, h151, h1514, h1715⟩
              simp [Region.binds] at hd
              simp only [sIs_nil, sIs_cons, sI_lit, lset_zero, lset_succ, hd, cond_true]
              gi_wp2
              refine ⟨tb, g3, c4, by simp [sIs_nil, sIs_cons, sI_lit, lset_zero, lset_succ, mark, hd], hk8, ?_, ?_, ?_, ?_, ?_, ?_, ?_⟩
              all_goals (simp only [mark, if_false, Nat.reduceEqDiff]; assumption)
            case o7 =>
              rintro b' a' w8 hb hd ⟨tb, g3, c4, rfl, hk8, hea8, htm8, hout8, hbx8, h151, h1514, h1715⟩
              simp [Region.binds] at hd
              simp only [sIs_nil, sIs_cons, sI_lit, lset_zero, lset_succ, hd, cond_true]
              gi_wp2
              refine ⟨tb, g3, c4, by simp [sIs_nil, sIs_cons, sI_lit, lset_zero, lset_succ, mark, hd], hk8, ?_, ?_, ?_, ?_, ?_, ?_, ?_⟩
              all_goals (simp only [mark, if_false, Nat.reduceEqDiff]; assumption)
            case o8 =>
              rintro b' a' w8 hb hd ⟨tb, g3, c4, rfl, hk8, hea8, htm8, hout8, hbx8, h151, h1514, h1715⟩
              simp [Region.binds] at hd
              have g0 : w8.cell? ⟨b, off + i * 2 + 1, none⟩ = some (.slice (some ⟨bx2, ox2, none⟩) xs.length xc) := hk8.cell (p := ⟨b, off + i * 2 + 1, none⟩) ⟨hlo b (by omega), hblt⟩ g1
              simp only [sIs_nil, sIs_cons, sI_lit, lset_zero, lset_succ, hd, cond_true]
              gi_wp2
              refine ⟨tb, g3, c4, by simp [sIs_nil, sIs_cons, sI_lit, lset_zero, lset_succ, mark, hd], hk8, ?_, ?_, ?_, ?_, ?_, ?_, ?_⟩
              all_goals (simp only [mark, if_false, Nat.reduceEqDiff]; assumption)
            case o9 =>
              rintro b' a' w8 hb hd ⟨tb, g3, c4, rfl, hk8, hea8, htm8, hout8, hbx8, h151, h1514, h1715⟩
              simp only [sIs_nil, sIs_cons, sI_lit, lset_zero, lset_succ]
              gi_wp2
              refine ⟨tb, g3, c4, by simp [sIs_nil, sIs_cons, sI_lit, lset_zero, lset_succ, mark], hk8, ?_, ?_, ?_, ?_, ?_, ?_, ?_⟩
              all_goals (simp only [mark, if_false, Nat.reduceEqDiff]; assumption)
            case o10 =>
              rintro b' a' w8 hb hd ⟨tb, g3, c4, rfl, hk8, hea8, htm8, hout8, hbx8, h151, h1514, h1715⟩
              simp [Region.binds] at hd
              simp only [sIs_nil, sIs_cons, sI_lit, lset_zero, lset_succ, hd, cond_true]
              gi_wp2
              refine ⟨tb, g3, c4, by simp [sIs_nil, sIs_cons, sI_lit, lset_zero, lset_succ, mark, hd], hk8, ?_, ?_, ?_, ?_, ?_, ?_, ?_⟩
              all_goals (simp only [mark, if_false, Nat.reduceEqDiff]; assumption)
            case o11 =>
              rintro b' a' w8 hb hd ⟨tb, g3, c4, rfl, hk8, hea8, htm8, hout8, hbx8, h151, h1514, h1715⟩
              simp [Region.binds] at hd
              have g0 : w8.cell? ⟨bx2, ox2 + j, none⟩ = some (.int .i64 (y : Int)) := hk8.cell (p := ⟨bx2, ox2 + j, none⟩) ⟨hlo bx2 (by omega), hb2lt⟩ d3'
              simp only [sIs_nil, sIs_cons, sI_lit, lset_zero, lset_succ, hd, cond_true]
              gi_wp2
              refine ⟨tb, g3, c4, by simp [sIs_nil, sIs_cons, sI_lit, lset_zero, lset_succ, mark, hd], hk8, ?_, ?_, ?_, ?_, ?_, ?_, ?_⟩
              all_goals (simp only [mark, if_false, Nat.reduceEqDiff]; assumption)
            case o12 =>
              rintro b' a' w8 hb hd ⟨tb, g3, c4, rfl, hk8, hea8, htm8, hout8, hbx8, h151, h1514, h1715⟩
              simp [Region.binds] at hd
              simp only [sIs_nil, sIs_cons, sI_lit, lset_zero, lset_succ, hd, cond_true]
              gi_wp2
              refine ⟨tb, g3, c4, by simp [sIs_nil, sIs_cons, sI_lit, lset_zero, lset_succ, mark, hd], hk8, ?_, ?_, ?_, ?_, ?_, ?_, ?_⟩
              all_goals (simp only [mark, if_false, Nat.reduceEqDiff]; assumption)
            case o13 =>
              rintro b' a' w8 hb hd ⟨tb, g3, c4, rfl, hk8, hea8, htm8, hout8, hbx8, h151, h1514, h1715⟩
              simp [Region.binds] at hd
              have g0 : w8.cell? ⟨gn, y, none⟩ = some (.int .i64 (d : Int)) := hk8.cell (p := ⟨gn, y, none⟩) ⟨hlo gn (by omega), by show gn ≠ _; omega⟩ d4
              simp only [sIs_nil, sIs_cons, sI_lit, lset_zero, lset_succ, hd, cond_true]
              gi_wp2
              refine ⟨tb, g3, c4, by simp [sIs_nil, sIs_cons, sI_lit, lset_zero, lset_succ, mark, hd], hk8, ?_, ?_, ?_, ?_, ?_, ?_, ?_⟩
              all_goals (simp only [mark, if_false, Nat.reduceEqDiff]; assumption)
            case o14 =>
              rintro b' a' w8 hb hd ⟨tb, g3, c4, rfl, hk8, hea8, htm8, hout8, hbx8, h151, h1514, h1715⟩
              simp [Region.binds] at hd
              have n15 : b' 15 = false := by
                cases h : b' 15 with
                | false => rfl
                | true => rw [h1514 h] at hb; cases hb
              simp only [sIs_nil, sIs_cons, sI_lit, lset_zero, lset_succ, hd, cond_true]
              gi_wp2
              refine ⟨w8.heap.size, g3, c4, by simp [sIs_nil, sIs_cons, sI_lit, lset_zero, lset_succ, mark, hd, n15], hk8.alloc _, fun _ => (hea8 n15).alloc _, fun _ _ => IsRow.new _ _ _, ?_, ?_, ?_, fun _ => mark_self _ _, ?_⟩
              · simp [mark, n15]
              · simp only [mark, if_false, Nat.reduceEqDiff]; exact hbx8.alloc _
              · simp [mark, n15]
              · simp only [mark, if_false, Nat.reduceEqDiff]; assumption
            case o15 =>
              rintro b' a' w8 hb hd ⟨tb, g3, c4, rfl, hk8, hea8, htm8, hout8, hbx8, h151, h1514, h1715⟩
              have e14 : b' 14 = true := hd { on := 14, ground := Ground.data } (by simp) rfl
              have e1 : b' 1 = true := hd { on := 1, ground := Ground.data } (by simp) rfl
              simp [Region.binds] at hd
              have n17 : b' 17 = false := by
                cases h : b' 17 with
                | false => rfl
                | true => rw [h1715 h] at hb; cases hb
              have hka := hea8 hb
              have ht := htm8 e14 hb
              have ho8 := owns_keep Hown.out hka fun _ _ => trivial
              simp only [sIs_nil, sIs_cons, sI_lit, lset_zero, lset_succ, hd, cond_true]
              refine append_intk _ rfl (.tmp 81) (.tmp 94) rfl (wo.heap.size + 1) (.slice a3 j c3) asq j hlk.out (d : Int) rfl ho8 tb rfl ht (by omega) (by have := hka.size; have := Hs1.out; omega) ?_
              intro g2' c4' w9 ho' hk9 hw9
              refine ⟨tb, g2', c4', by simp [Act.put, sIs_nil, sIs_cons, sI_lit, lset_zero, lset_succ, mark, hd], hk8.trans (hk9.sub fun q _ h => h.1), ?_, ?_, fun _ => ho', ?_, fun _ => mark_mono _ e1, fun _ => mark_mono _ e14, ?_⟩
              · simp [mark]
              · simp [mark]
              · simp only [mark, if_false, Nat.reduceEqDiff, n17, cond_false] at hbx8 ⊢
                exact hbx8.keep hk9 (hlo _ (by omega))
              · simp [mark, n17]
            case o16 =>
              rintro b' a' w8 hb hd ⟨tb, g3, c4, rfl, hk8, hea8, htm8, hout8, hbx8, h151, h1514, h1715⟩
              simp only [sIs_nil, sIs_cons, sI_lit, lset_zero, lset_succ]
              gi_wp2
              refine ⟨tb, g3, c4, by simp [sIs_nil, sIs_cons, sI_lit, lset_zero, lset_succ, mark], hk8, ?_, ?_, ?_, ?_, ?_, ?_, ?_⟩
              all_goals (simp only [mark, if_false, Nat.reduceEqDiff]; assumption)
            case o17 =>
              rintro b' a' w8 hb hd ⟨tb, g3, c4, rfl, hk8, hea8, htm8, hout8, hbx8, h151, h1514, h1715⟩
              have e15 : b' 15 = true := hd { on := 15, ground := Ground.data } (by simp) rfl
              simp [Region.binds] at hd
              have hbx := hbx8
              rw [hb, cond_false] at hbx
              obtain ⟨f1, f2, f3, f4⟩ := hbx.two
              simp only [sIs_nil, sIs_cons, sI_lit, lset_zero, lset_succ, hd, cond_true]
              gi_wp2
              have hkB : ∀ S : Nat → Prop, (∀ q, S q → q ≠ wo.heap.size) → Keeps S w8 (w8.setCell ⟨wo.heap.size, 1, none⟩ (.slice (some ⟨g3, 0, none⟩) (j + 1) c4)) := fun S hS => (Keeps.refl S w8).setCell (p := ⟨wo.heap.size, 1, none⟩) (fun _ h => hS _ h rfl) _
              refine ⟨tb, g3, c4, by simp [sIs_nil, sIs_cons, sI_lit, lset_zero, lset_succ, mark, hd], hk8.trans (hkB _ fun q h => h.2), ?_, ?_, fun _ => owns_keep (hout8 e15) (hkB (fun q => q ≠ wo.heap.size) fun _ h => h) (fun q e => by have := ((hout8 e15).lt q e).1; omega), ?_, ?_, ?_, fun _ => mark_mono _ e15⟩
              · simp [mark, e15]
              · simp [mark, e15]
              · simp only [mark, if_true, cond_true]
                exact hbx.set 1 _
              · simp only [mark, if_false, Nat.reduceEqDiff]; assumption
              · simp only [mark, if_false, Nat.reduceEqDiff]; assumption
            case fin =>
              rintro b' a' w8 hb ⟨tb, g3, c4, rfl, hk8, -, -, hout8, hbx8, -, -, -⟩
              have e0 := hb 0 (by decide)
              have e1 := hb 1 (by decide)
              have e2 := hb 2 (by decide)
              have e3 := hb 3 (by decide)
              have e4 := hb 4 (by decide)
              have e5 := hb 5 (by decide)
              have e6 := hb 6 (by decide)
              have e7 := hb 7 (by decide)
              have e8 := hb 8 (by decide)
              have e9 := hb 9 (by decide)
              have e10 := hb 10 (by decide)
              have e11 := hb 11 (by decide)
              have e12 := hb 12 (by decide)
              have e13 := hb 13 (by decide)
              have e14 := hb 14 (by decide)
              have e15 := hb 15 (by decide)
              have e16 := hb 16 (by decide)
              have e17 := hb 17 (by decide)
              clear hb
              simp only [sIs_nil, sIs_cons, sI_lit, lset_zero, lset_succ, e0, e1, e2, e3, e4, e5, e6, e7, e8, e9, e10, e11, e12, e13, e14, e15, e16, cond_true]
              have hoa8 := hid (hout8 e15)
              rw [e17, cond_true] at hbx8
              clear hout8 e0 e1 e2 e3 e4 e5 e6 e7 e8 e9 e10 e11 e12 e13 e14 e15 e16 e17
              gi_wp2
              go_roundw
              case rel =>
                exact ⟨j + 1, some ⟨g3, 0, none⟩, c4, by omega, by go_num, hkj.trans2 hk8 (fun q hq h => ⟨hlo q (by have := Hs1.out; omega), h⟩), hbx8, by rw [hnum.out]; exact hoa8.out⟩
              case measure => simp [intOf]; omega
          · obtain rfl : j = xs.length := by omega
            obtain ⟨s', hs'⟩ : ∃ s', renumM now ss[i] = s' := ⟨_, rfl⟩
            have hsd : s' = ⟨lab, xs.map (numAt now)⟩ := by rw [← hs', renumM, Hlab.out, Hxs.out]
            rw [List.take_length] at hown
            have hab : ∀ x ∈ xs.map (numAt now), 0 ≤ x ∧ x ≤ 2000 := by
              intro x hx
              obtain ⟨z, hz, rfl⟩ := List.mem_map.1 hx
              have hzr := hrange.out z hz
              obtain ⟨n, hn1, hn2, _⟩ := hat.out z.toNat (by omega)
              have := hllen.out
              rw [numAt, List.getD_eq_getElem?_getD, hn1]
              simp; omega
            have hkA : Keeps All wo wr := hkwj.sub fun q hq _ => by omega
            have hint : IsInts (fun q => wo.heap.size + 1 ≤ q) wr (.slice a3 xs.length c3) (xs.map (numAt now)) := by
              have h := own_ints (xs := xs.map (numAt now)) (by rw [List.length_map]; exact hown) (by rw [List.length_map]; omega) (fun x hx => by have := hab x hx; omega) (fun q => wo.heap.size + 1 ≤ q) fun q e => (hown.lt q e).1
              exact h
            have hoar := owns_keep Hoa.out hkA fun _ _ => trivial
            have hkw2 := hkw.trans hkA
            have hrp2 := hrp.keep hkA trivial
            have hrq2 := hrq.keep hkA trivial
            have hrr2 := hrr.keep hkA trivial
            have hm1 : m = outs.length := hm.out
            have hsA := hkA.size
            rw [hs'] at hsucc
            have Hm1 := hid hm1
            have Hsd := hid hsd
            have Hoar := hid hoar
            obtain ⟨f1, f2, _, _⟩ := hrb.two
            clear hs' hsd hab hoar hm1 hown
            gi_wp2_with (gi_at_builtin; refine Hid.out ?_)
            refine hid ?_
            have hka : Keeps All wr (wr.alloc (.cells #[.string lab, .slice a3 xs.length c3] 45)) := (Keeps.refl _ _).alloc _
            have hkA2 := hkA.trans hka
            have hsa := hka.size
            obtain ⟨vs, hvl, hown3, hvi⟩ := Hol.out.keep hkA2 (fun _ _ => trivial) fun _ _ _ _ => trivial
            rw [← Hm1.out] at hown3
            have Hvi := hid hvi
            clear hvi
            refine append_step _ rfl (.tmp 97) (.tmp 99) rfl (w.heap.size + 3) (.slice (some ⟨go, 0, none⟩) m co) _ m lab a3 xs.length c3 rfl hown3 wr.heap.size rfl (IsRow.new _ _ _) (by omega) (by omega) ?_
            intro go' co' w9 ho' hk9 hw9
            have hol9 : OwnIn (fun q => (q < w.heap.size ∨ w.heap.size + 3 ≤ q) ∧ q ≠ gn) (w.heap.size + 3) w9 (.slice (some ⟨go', 0, none⟩) (m + 1) co') (outs ++ [s']) := by
              rw [Hsd.out]
              refine OwnIn.snoc (S := fun q => (q < w.heap.size ∨ w.heap.size + 3 ≤ q) ∧ q ≠ gn) (va := .slice a3 xs.length c3) hvl Hvi.out ?_ (by rw [← Hm1.out]; exact ho') hk9.toGrown ?_
              · refine (hint.sub fun q hq h => ?_).keep hka fun _ _ _ => trivial
                exact ⟨⟨Or.inr (by omega), by omega⟩, fun e => by have e2 : go = q := Option.some.inj e; omega⟩
              · rcases hw9 with h | h
                · exact Or.inl h
                · exact Or.inr fun q e => by have e2 : go' = q := Option.some.inj e; omega
            have hgo' : go' = go ∨ (wr.alloc (.cells #[.string lab, .slice a3 xs.length c3] 45)).heap.size ≤ go' := by
              rcases hw9 with h | h
              · exact Or.inl (Option.some.inj h)
              · exact Or.inr (Nat.le_of_eq h.symm)
            have hk9' : Keeps (fun q => q ≠ go) (wr.alloc (.cells #[.string lab, .slice a3 xs.length c3] 45)) w9 := hk9.sub fun q _ h e => h (Option.some.inj e).symm
            have hoa9 := owns_keep (owns_keep Hoar.out hka fun _ _ => trivial) hk9' fun q e => by have e2 : gn = q := Option.some.inj e; omega
            have hs9 := hk9'.size
            have hgon : go' ≠ gn := by
              rcases hgo' with h | h
              · rw [h]; exact hne
              · omega
            have hkw9 := (hkw2.trans hka).upto hk9' fun q hq => by omega
            have hrp9 := (hrp2.keep hka trivial).keep hk9' (by omega)
            have hrq9 := (hrq2.keep hka trivial).keep hk9' (by omega)
            have hrr9 := (hrr2.keep hka trivial).keep hk9' (by omega)
            have Hol9 := hid hol9
            have Hoa9 := hid hoa9
            clear ho' hol9 hoa9 hw9 hown3
            simp only [Act.put, List.setIfInBounds_toArray, List.set_cons_succ, List.set_cons_zero]
            gi_wp2_with (gi_at_builtin; refine Hid.out ?_)
            refine hid ?_
            have hkb : ∀ y : Value, Keeps All w9 (w9.alloc (.cells #[y] 3)) := fun y => (Keeps.refl _ _).alloc _
            refine append_intk _ rfl (.tmp 101) (.tmp 105) rfl (w.heap.size + 3) (.slice (some ⟨gn, 0, none⟩) i cn) now i hnl.out _ rfl (owns_keep Hoa9.out (hkb _) fun _ _ => trivial) w9.heap.size rfl (IsRow.new _ _ _) (by omega) (by simp; omega) ?_
            intro gn' cn' w10 ho2 hk10 hw10
            have Ho2 := hid ho2
            have hgn2 : gn' = gn ∨ w9.heap.size + 1 ≤ gn' := by
              rcases hw10 with h | h
              · exact Or.inl (Option.some.inj h)
              · exact Or.inr (by rw [h]; simp)
            have hk10' : Keeps (fun q => q ≠ gn) w9 w10 := ((hkb _).sub fun _ _ _ => trivial).trans (hk10.sub fun q _ h e => h (Option.some.inj e).symm)
            have Hol10 := hid (Hol9.out.swap2 (gn' := gn') hk10' (fun e => hgon (Option.some.inj e)) (by omega))
            have hlt10 := (Hol9.out.lt (k := go') rfl).2
            have hgo2 : go' ≠ gn' := by
              rcases hgn2 with h | h
              · rw [h]; exact hgon
              · omega
            have hs10 := hk10'.size
            clear ho2 hw10
            simp only [Act.put, List.setIfInBounds_toArray, List.set_cons_succ, List.set_cons_zero]
            gi_wp2
            go_roundw
            case rel =>
              exact ⟨i + 1, go', m + 1, co', gn', cn', by omega, by go_num, rfl, rfl, by rw [hsucc.out, Hid, List.length_append, ← Hm1.out]; rfl, hkw9.upto hk10' fun q hq => by omega, by omega, hrp9.keep hk10' (by omega), hrq9.keep hk10' (by omega), hrr9.keep hk10' (by omega), by rw [hsucc.out]; exact Hol10.out, by rw [hsucc.out, ← Hm1.out]; have h := Ho2.out; simpa using h, hgo2⟩
            case measure => simp [intOf]; omega
    · obtain rfl : i = ss.length := by omega
      have hpc : m ≤ co ∧ co ≤ maxLen := by
        obtain ⟨vs, hvl, h, _⟩ := hol
        rcases h.2 with ⟨h', _⟩ | ⟨g, cap, cur, h', _, _, h1, h2, _⟩
        · cases h'
        · cases h'
          rw [← hm.out] at h1
          exact ⟨h1, h2⟩
      obtain ⟨hpc1, hpc2⟩ := hpc
      unfold maxLen at hpc2
      obtain ⟨x, hx⟩ : ∃ x, glLast ss ts k = x := ⟨_, rfl⟩
      rw [hx, ← hm.out] at hg2
      have hst : IsSteps All wr (.slice (some ⟨go, 0, none⟩) m co) (glTo ss ts k ss.length).1 := hol.isSteps' (by rw [← hm.out]; omega) (fun _ _ => trivial) fun _ _ => trivial
      have hwst : IsSteps All wr (.slice (some ⟨go, 0, none⟩) (x + 1) co) (wholeM ss ts k) := by
        have h := hst.first (k := x + 1) (by rw [← hm.out]; omega)
        rw [hwl.out, hx]; exact h
      have d3 : wr.cell? ⟨gn, ss.length - 1, none⟩ = some (.int .i64 (x : Int)) := by
        have hl : ss.length - 1 < (glTo ss ts k ss.length).2.length := by rw [hnl.out]; omega
        rw [owns_int_at hoa hl]
        have h := Hg1.out
        rw [List.getElem?_eq_getElem hl, hx] at h
        rw [Option.some.inj h]
      have hwl2 : Hid ((wholeM ss ts k).length = x + 1) := by rw [Hid, hwlen.out, hx]
      have Hwst := hid hwst
      clear hol hoa hst hwst hmst hx
      have hka : Keeps All wr (wr.alloc (.cells #[.slice (some ⟨go, 0, none⟩) (x + 1) co] 24)) := (Keeps.refl _ _).alloc _
      have hmg := rmerged_c (wholeM ss ts k) (wholeM_spec Hok1.out Hok2.out k hlen).1 (.slice (some ⟨go, 0, none⟩) (x + 1) co) _ (Hwst.out.keep hka fun _ _ h => h)
      obtain ⟨qs, hqs⟩ : ∃ qs, mergedM (wholeM ss ts k) = qs := ⟨_, rfl⟩
      have hqo2 := hqo.out
      rw [hqs] at hmg hqo2
      have hqf : Hid (orderedM qs = shareM (graftM ss k ts)) := by rw [← hqs]; exact hfinal.out
      have Hok := hid hqo2
      have hlq : qs.length ≤ 2000 := hqo2.2.1
      have hlq1 : 1 ≤ qs.length := hqo2.1
      clear hqs hqo2
      gi_wp2
      refine ⟨trivial, ?_⟩
      refine (callsIn_wide.2 hmg).mono ?_
      clear hmg d3
      rintro e w5 ⟨a5, c5, rfl, hst5, hk5⟩
      have hka5 : Keeps All w5 (w5.alloc (.cells #[.slice a5 qs.length c5] 24)) := (Keeps.refl _ _).alloc _
      have hkw5 := ((hkw.trans hka).trans hk5).trans hka5
      have hrr5 := ((hrr.keep hka trivial).keep hk5 trivial).keep hka5 trivial
      have hbx : IsRow (w5.alloc (.cells #[.slice a5 qs.length c5] 24)) w5.heap.size 24 [.slice a5 qs.length c5] := IsRow.new _ _ _
      have hst6 := hst5.keep hka5 fun _ _ h => h
      have hs5 : w.heap.size + 3 ≤ w5.heap.size := by have := hk5.size; have := hka.size; omega
      have Hst6 := hid hst6
      clear hst5 hst6 hka5
      gi_wp2
      generalize w5.alloc (.cells #[.slice a5 qs.length c5] 24) = W0 at *
      refine wpIn_region_inv (GfV w5.heap.size qs.length (.slice a5 qs.length c5) (orderedM qs)) mixed (by kernel_rfl) ?start ⟨?o0, ?o1, ?o2, ?o3, ?o4, ?o5, ?o6, ?o7, ?o8, ?o9, ?o10, ?o11, ?o12, ?o13, ?o14, trivial⟩ ?fin
      case start =>
        refine ⟨0, none, 0, 0, by simp only [sIs_nil, sIs_cons, sI_false], (Keeps.refl _ _).drew, ?_, ?_, ?_, ?_, ?_, ?_, ?_, ?_, ?_⟩
        all_goals (intro h; cases h)
      case o0 =>
        rintro b' a' w' hb hd ⟨nb, a3, c3, nb2, rfl, hk, hn8, hres, hbx2, h98, h109, h1110, h1211, h1412, h1413⟩
        have g0 : w'.cell? ⟨w5.heap.size, 0, none⟩ = some (.slice a5 qs.length c5) := (hbx.keep hk trivial).cell 0
        simp only [sIs_nil, sIs_cons, sI_lit, lset_zero, lset_succ]
        gi_wp2
        refine ⟨nb, a3, c3, nb2, by simp [sIs_nil, sIs_cons, sI_lit, lset_zero, lset_succ, mark], hk, ?_, ?_, ?_, ?_, ?_, ?_, ?_, ?_, ?_⟩
        all_goals (simp only [mark, if_false, Nat.reduceEqDiff]; assumption)
      case o1 =>
        rintro b' a' w' hb hd ⟨nb, a3, c3, nb2, rfl, hk, hn8, hres, hbx2, h98, h109, h1110, h1211, h1412, h1413⟩
        simp only [sIs_nil, sIs_cons, sI_lit, lset_zero, lset_succ]
        gi_wp2
        refine ⟨nb, a3, c3, nb2, by simp [sIs_nil, sIs_cons, sI_lit, lset_zero, lset_succ, mark], hk, ?_, ?_, ?_, ?_, ?_, ?_, ?_, ?_, ?_⟩
        all_goals (simp only [mark, if_false, Nat.reduceEqDiff]; assumption)
      case o2 =>
        rintro b' a' w' hb hd ⟨nb, a3, c3, nb2, rfl, hk, hn8, hres, hbx2, h98, h109, h1110, h1211, h1412, h1413⟩
        simp [Region.binds] at hd
        have g0 : w'.cell? ⟨w5.heap.size, 0, none⟩ = some (.slice a5 qs.length c5) := (hbx.keep hk trivial).cell 0
        simp only [sIs_nil, sIs_cons, sI_lit, lset_zero, lset_succ, hd, cond_true]
        gi_wp2
        refine ⟨nb, a3, c3, nb2, by simp [sIs_nil, sIs_cons, sI_lit, lset_zero, lset_succ, mark, hd], hk, ?_, ?_, ?_, ?_, ?_, ?_, ?_, ?_, ?_⟩
        all_goals (simp only [mark, if_false, Nat.reduceEqDiff]; assumption)
      case o3 =>
        rintro b' a' w' hb hd ⟨nb, a3, c3, nb2, rfl, hk, hn8, hres, hbx2, h98, h109, h1110, h1211, h1412, h1413⟩
        simp [Region.binds] at hd
        simp only [sIs_nil, sIs_cons, sI_lit, lset_zero, lset_succ, hd, cond_true]
        gi_wp2
        refine ⟨nb, a3, c3, nb2, by simp [sIs_nil, sIs_cons, sI_lit, lset_zero, lset_succ, mark, hd], hk, ?_, ?_, ?_, ?_, ?_, ?_, ?_, ?_, ?_⟩
        all_goals (simp only [mark, if_false, Nat.reduceEqDiff]; assumption)
      case o4 =>
        rintro b' a' w' hb hd ⟨nb, a3, c3, nb2, rfl, hk, hn8, hres, hbx2, h98, h109, h1110, h1211, h1412, h1413⟩
        simp [Region.binds] at hd
        simp only [sIs_nil, sIs_cons, sI_lit, lset_zero, lset_succ, hd, cond_true]
        gi_wp2
        refine ⟨nb, a3, c3, nb2, by simp [sIs_nil, sIs_cons, sI_lit, lset_zero, lset_succ, mark, hd], hk, ?_, ?_, ?_, ?_, ?_, ?_, ?_, ?_, ?_⟩
        all_goals (simp only [mark, if_false, Nat.reduceEqDiff]; assumption)
      case o5 =>
        rintro b' a' w' hb hd ⟨nb, a3, c3, nb2, rfl, hk, hn8, hres, hbx2, h98, h109, h1110, h1211, h1412, h1413⟩
        simp only [sIs_nil, sIs_cons, sI_lit, lset_zero, lset_succ]
        gi_wp2
        refine ⟨nb, a3, c3, nb2, by simp [sIs_nil, sIs_cons, sI_lit, lset_zero, lset_succ, mark], hk, ?_, ?_, ?_, ?_, ?_, ?_, ?_, ?_, ?_⟩
        all_goals (simp only [mark, if_false, Nat.reduceEqDiff]; assumption)
      case o6 =>
        rintro b' a' w' hb hd ⟨nb, a3, c3, nb2, rfl, hk, hn8, hres, hbx2, h98, h109, h1110, h1211, h1412, h1413⟩
        simp [Region.binds] at hd
        have g0 : w'.cell? ⟨w5.heap.size, 0, none⟩ = some (.slice a5 qs.length c5) := (hbx.keep hk trivial).cell 0
        simp only [sIs_nil, sIs_cons, sI_lit, lset_zero, lset_succ, hd, cond_true]
        gi_wp2
        refine ⟨nb, a3, c3, nb2, by simp [sIs_nil, sIs_cons, sI_lit, lset_zero, lset_succ, mark, hd], hk, ?_, ?_, ?_, ?_, ?_, ?_, ?_, ?_, ?_⟩
        all_goals (simp only [mark, if_false, Nat.reduceEqDiff]; assumption)
      case o7 =>
        rintro b' a' w' hb hd ⟨nb, a3, c3, nb2, rfl, hk, hn8, hres, hbx2, h98, h109, h1110, h1211, h1412, h1413⟩
        simp [Region.binds] at hd
        simp only [sIs_nil, sIs_cons, sI_lit, lset_zero, lset_succ, hd, cond_true]
        gi_wp2
        refine ⟨nb, a3, c3, nb2, by simp [sIs_nil, sIs_cons, sI_lit, lset_zero, lset_succ, mark, hd], hk, ?_, ?_, ?_, ?_, ?_, ?_, ?_, ?_, ?_⟩
        all_goals (simp only [mark, if_false, Nat.reduceEqDiff]; assumption)
      case o8 =>
        rintro b' a' w' hb hd ⟨nb, a3, c3, nb2, rfl, hk, hn8, hres, hbx2, h98, h109, h1110, h1211, h1412, h1413⟩
        simp [Region.binds] at hd
        have n9 : b' 9 = false := by
          cases h : b' 9 with
          | false => rfl
          | true => rw [h98 h] at hb; cases hb
        have n10 : b' 10 = false := by
          cases h : b' 10 with
          | false => rfl
          | true => rw [h109 h] at n9; cases n9
        have hcall := rnone_c qs.length w' (by omega)
        simp only [sIs_nil, sIs_cons, sI_lit, lset_zero, lset_succ, hd, cond_true]
        gi_wp2
        refine ⟨trivial, ?_⟩
        refine (callsIn_wide.2 hcall).mono ?_
        clear hcall
        rintro e w3 ⟨nb', rfl, hnb, hrn, hk3⟩
        gi_wp2
        refine ⟨nb', a3, c3, nb2, by simp [sIs_nil, sIs_cons, sI_lit, lset_zero, lset_succ, mark, hd, n9, n10], hk.trans hk3, fun _ _ => ⟨Nat.le_trans hk.size hnb, hrn⟩, ?_, ?_, fun _ => mark_self _ _, ?_, ?_, ?_, ?_, ?_⟩
        · simp [mark, n10]
        · intro h; obtain ⟨u1, u2⟩ := hbx2 (by simpa [mark] using h); exact ⟨u1, by simp only [mark, if_false, Nat.reduceEqDiff]; exact u2.keep hk3 trivial⟩
        all_goals (simp only [mark, if_false, Nat.reduceEqDiff]; assumption)
      case o9 =>
        rintro b' a' w' hb hd ⟨nb, a3, c3, nb2, rfl, hk, hn8, hres, hbx2, h98, h109, h1110, h1211, h1412, h1413⟩
        simp [Region.binds] at hd
        simp only [sIs_nil, sIs_cons, sI_lit, lset_zero, lset_succ, hd, cond_true]
        gi_wp2
        refine ⟨nb, a3, c3, nb2, by simp [sIs_nil, sIs_cons, sI_lit, lset_zero, lset_succ, mark, hd], hk, ?_, ?_, ?_, fun _ => mark_mono _ hd, fun _ => mark_self _ _, ?_, ?_, ?_, ?_⟩
        all_goals (simp only [mark, if_false, Nat.reduceEqDiff]; assumption)
      case o10 =>
        rintro b' a' w' hb hd ⟨nb, a3, c3, nb2, rfl, hk, hn8, hres, hbx2, h98, h109, h1110, h1211, h1412, h1413⟩
        have e9 : b' 9 = true := hd { on := 9, ground := Ground.data } (by simp) rfl
        simp [Region.binds] at hd
        have n11 : b' 11 = false := by
          cases h : b' 11 with
          | false => rfl
          | true => rw [h1110 h] at hb; cases hb
        have n12 : b' 12 = false := by
          cases h : b' 12 with
          | false => rfl
          | true => rw [h1211 h] at n11; cases n11
        have n14 : b' 14 = false := by
          cases h : b' 14 with
          | false => rfl
          | true => rw [h1412 h] at n12; cases n12
        obtain ⟨hnb, hrn⟩ := hn8 (h98 e9) hb
        have hcall := visit_all qs Hok.out (.agg #[.slice a5 qs.length c5]) nb W0.heap.size w' ⟨_, rfl, Hst6.out.move hk fun q hq _ => ⟨trivial, by omega⟩⟩ hrn hnb
        simp only [sIs_nil, sIs_cons, sI_lit, lset_zero, lset_succ, hd, cond_true]
        gi_wp2
        refine ⟨trivial, ?_⟩
        refine (callsIn_wide.2 hcall).mono ?_
        clear hcall
        rintro e w3 ⟨a3', c3', rfl, hst, hk3⟩
        gi_wp2
        refine ⟨nb, a3', c3', nb2, by simp [sIs_nil, sIs_cons, sI_lit, lset_zero, lset_succ, mark, hd, n11, n12], hk.trans2 hk3 fun q hq _ => by omega, ?_, fun _ => hst.sub fun _ _ _ => trivial, ?_, ?_, fun _ => mark_mono _ e9, fun _ => mark_self _ _, ?_, ?_, ?_⟩
        · simp [mark]
        · intro h; obtain ⟨u1, u2⟩ := hbx2 (by simpa [mark] using h); simp only [n14, cond_false] at u2; exact ⟨u1, by simp only [mark, if_false, Nat.reduceEqDiff, n14, cond_false]; exact u2.keep hk3 (u2.ne hrn (by decide))⟩
        all_goals (simp only [mark, if_false, Nat.reduceEqDiff]; assumption)
      case o11 =>
        rintro b' a' w' hb hd ⟨nb, a3, c3, nb2, rfl, hk, hn8, hres, hbx2, h98, h109, h1110, h1211, h1412, h1413⟩
        have hfo := field_order
        simp [Region.binds] at hd
        simp only [sIs_nil, sIs_cons, sI_lit, lset_zero, lset_succ, hd, cond_true]
        gi_wp2
        refine ⟨nb, a3, c3, nb2, by simp [sIs_nil, sIs_cons, sI_lit, lset_zero, lset_succ, mark, hd], hk, ?_, ?_, ?_, ?_, ?_, fun _ => mark_mono _ hd, fun _ => mark_self _ _, ?_, ?_⟩
        all_goals (simp only [mark, if_false, Nat.reduceEqDiff]; assumption)
      case o12 =>
        rintro b' a' w' hb hd ⟨nb, a3, c3, nb2, rfl, hk, hn8, hres, hbx2, h98, h109, h1110, h1211, h1412, h1413⟩
        simp [Region.binds] at hd
        simp only [sIs_nil, sIs_cons, sI_lit, lset_zero, lset_succ, hd, cond_true]
        gi_wp2
        refine ⟨nb, a3, c3, nb2, by simp [sIs_nil, sIs_cons, sI_lit, lset_zero, lset_succ, mark, hd], hk, ?_, ?_, ?_, ?_, ?_, ?_, fun _ => mark_mono _ hd, fun _ => mark_self _ _, ?_⟩
        all_goals (simp only [mark, if_false, Nat.reduceEqDiff]; assumption)
      case o13 =>
        rintro b' a' w' hb hd ⟨nb, a3, c3, nb2, rfl, hk, hn8, hres, hbx2, h98, h109, h1110, h1211, h1412, h1413⟩
        have n14 : b' 14 = false := by
          cases h : b' 14 with
          | false => rfl
          | true => rw [h1413 h] at hb; cases hb
        simp only [sIs_nil, sIs_cons, sI_lit, lset_zero, lset_succ]
        gi_wp2
        refine ⟨nb, a3, c3, w'.heap.size, by simp [sIs_nil, sIs_cons, sI_lit, lset_zero, lset_succ, mark], hk.alloc _, fun h1 h2 => ?_, fun h => ?_, fun _ => ⟨hk.size, ?_⟩, ?_, ?_, ?_, ?_, ?_, fun _ => mark_self _ _⟩
        · obtain ⟨u1, u2⟩ := hn8 (by simpa [mark] using h1) (by simpa [mark] using h2); exact ⟨u1, u2.alloc _⟩
        · exact (hres (by simpa [mark] using h)).keep ((Keeps.refl _ _).alloc _) fun _ _ h => h
        · simp only [mark, if_false, Nat.reduceEqDiff, n14, cond_false]; exact IsRow.new _ _ _
        all_goals (simp only [mark, if_false, Nat.reduceEqDiff]; assumption)
      case o14 =>
        rintro b' a' w' hb hd ⟨nb, a3, c3, nb2, rfl, hk, hn8, hres, hbx2, h98, h109, h1110, h1211, h1412, h1413⟩
        have e12 : b' 12 = true := hd { on := 12, ground := Ground.data } (by simp) rfl
        have e13 : b' 13 = true := hd { on := 13, ground := Ground.data } (by simp) rfl
        simp [Region.binds] at hd
        obtain ⟨u1, u2⟩ := hbx2 e13
        rw [hb, cond_false] at u2
        obtain ⟨g1, g2⟩ := u2.one
        have hst := (hres (h1110 (h1211 e12))).off u2
        have e10 := h1110 (h1211 e12)
        simp only [sIs_nil, sIs_cons, sI_lit, lset_zero, lset_succ, hd, cond_true]
        gi_wp2
        refine ⟨nb, a3, c3, nb2, by simp [sIs_nil, sIs_cons, sI_lit, lset_zero, lset_succ, mark, hd], hk.setCell (fun h => absurd (show nb2 < W0.heap.size from h) (by omega)) _, fun _ h => ?_, fun _ => ?_, fun _ => ⟨u1, ?_⟩, ?_, ?_, ?_, ?_, fun _ => mark_mono _ e12, fun _ => mark_mono _ e13⟩
        · simp [mark, e10] at h
        · exact hst.move ((Keeps.refl (fun q => q ≠ nb2) _).setCell (fun _ h => h rfl) _) fun q _ h => ⟨h, trivial⟩
        · simp only [mark, if_true, cond_true]; exact u2.set 0 _
        all_goals (simp only [mark, if_false, Nat.reduceEqDiff]; assumption)
      case fin =>
        rintro b' a' w' hb ⟨nb, a3, c3, nb2, rfl, hk, -, hres, hbx2, -, -, -, -, -, -⟩
        have e0 := hb 0 (by decide)
        have e1 := hb 1 (by decide)
        have e2 := hb 2 (by decide)
        have e3 := hb 3 (by decide)
        have e4 := hb 4 (by decide)
        have e5 := hb 5 (by decide)
        have e6 := hb 6 (by decide)
        have e7 := hb 7 (by decide)
        have e8 := hb 8 (by decide)
        have e9 := hb 9 (by decide)
        have e10 := hb 10 (by decide)
        have e11 := hb 11 (by decide)
        have e12 := hb 12 (by decide)
        have e13 := hb 13 (by decide)
        have e14 := hb 14 (by decide)
        clear hb
        simp only [sIs_nil, sIs_cons, sI_lit, lset_zero, lset_succ, e0, e1, e2, e3, e4, e5, e6, e7, e8, e9, e10, e11, e12, e13, cond_true]
        obtain ⟨u1, u2⟩ := hbx2 e13
        rw [e14, cond_true] at u2
        have hst := hres e10
        clear hres hbx2 e0 e1 e2 e3 e4 e5 e6 e7 e8 e9 e10 e11 e12 e13 e14
        have hr6 := hrr5.keep hk trivial
        have hl6 := hr6.lt
        obtain ⟨c1, c2'⟩ := hr6.one
        obtain ⟨c3', _⟩ := u2.one
        have hol : (orderedM qs).length ≤ 2000 := by rw [orderedM_length]; have := post_length_le Hok.out; omega
        have hkw6 := hkw5.trans hk
        have Hst := hid (hst.off hr6)
        clear hst
        gi_wp2
        have k2 := (hr6.set 0 (.slice a3 (orderedM qs).length c3)).one
        refine bodyPost_ret (v := .tuple #[.agg #[.slice a3 (orderedM qs).length c3], .int .i64 0]) (by simp [results, Tryd.results21, go_sem, k2]) rfl ⟨a3, c3, by rw [← hqf.out], ?_, ?_⟩
        · rw [← hqf.out]
          exact Hst.out.move ((Keeps.refl (fun q => q ≠ w.heap.size + 2) _).setCell (fun _ h => h rfl) _) fun q _ h => ⟨h, trivial⟩
        · exact hkw6.setCell (fun (h : w.heap.size + 2 < _) => absurd h (by omega)) _

end Go.Proofs.YtcbmljfgmeeadaaDoor
