/-
  CONTRACT: sharer.add: the number of a step that may be there already.
-/
import Derived.Test.YtcbmljfgmeeadaaDoorG9
import Derived.Test.YtcbmljfgmeeadaaDoorKV
namespace Go.Proofs.YtcbmljfgmeeadaaDoor
open Go.RowKit Go.Shelf

/-- A step's key. -/
def keyOfStp (s : Stp) : ByteArray × ByteArray := (s.label, ⟨(keyStr s.args).toArray⟩)
/-- What add makes of the steps. -/
def addM (ss : List Stp) (s : Stp) : List Stp := match findK (keyOfStp s) (ss.map keyOfStp) 0 with | some _ => ss | none => ss ++ [s]
/-- What add returns. -/
def addAt (ss : List Stp) (s : Stp) : Nat := match findK (keyOfStp s) (ss.map keyOfStp) 0 with | some n => n | none => ss.length

/-- The sharer at block X with the map M holds the steps ss. -/
def Sharer (lo X M : Nat) (W : World) (v : Value) (ss : List Stp) : Prop := IsRow W X 75 [v, .map (some M)] ∧ MapIdx W M (ss.map keyOfStp) ∧ OwnSteps lo W v ss

/-- The append: what memory holds, by what has come up: the new element's place (6), append (7), the store (10). -/
structure AddInv (lo X M tb : Nat) (oldv newv va : Value) (olds : List Stp) (s : Stp) (W0 : World) (c : Nat → Bool) (w : World) : Prop where
  ord4 : c 7 = true → c 4 = true
  ord6 : c 7 = true → c 6 = true
  ord5 : c 6 = true → c 5 = true
  ord7 : c 10 = true → c 7 = true
  keep : Keeps (fun k => k ≠ X ∧ oldv.ownBlock ≠ some k) W0 w
  early : c 7 = false → Keeps All W0 w
  tmp : c 6 = true → c 7 = false → IsRow w tb 45 [.string s.label, va]
  box : c 10 = false → IsRow w X 75 [oldv, .map (some M)]
  out : c 7 = true → OwnSteps lo w newv (olds ++ [s])
  done : c 10 = true → IsRow w X 75 [newv, .map (some M)]

theorem AddInv.same {lo X M tb : Nat} {oldv newv va : Value} {olds : List Stp} {s : Stp} {W0 : World} {c c' : Nat → Bool} {w : World} (h : AddInv lo X M tb oldv newv va olds s W0 c w)
    (h4 : c 4 = true → c' 4 = true) (h5 : c 5 = true → c' 5 = true) (h6 : c' 6 = c 6) (h7 : c' 7 = c 7) (h10 : c' 10 = c 10) : AddInv lo X M tb oldv newv va olds s W0 c' w := by
  obtain ⟨a1, a2, a3, a4, a5, a6, a7, a8, a9, a10⟩ := h
  exact ⟨by rw [h7]; exact fun h => h4 (a1 h), by rw [h7, h6]; exact a2, by rw [h6]; exact fun h => h5 (a3 h), by rw [h10, h7]; exact a4, a5, by rw [h7]; exact a6, by rw [h6, h7]; exact a7, by rw [h10]; exact a8, by rw [h7]; exact a9, by rw [h10]; exact a10⟩

def AddReg (lo X M k : Nat) (va : Value) (a3 : Option Addr) (c3 : Nat) (olds : List Stp) (s : Stp) (T : Array Value) (W0 : World) (c : Nat → Bool) (a' : Act) (w' : World) : Prop :=
  ∃ (tb : Nat) (a4 : Option Addr) (c4 : Nat), a' = Act.mk (sIs T [(c 0, 32, .pointer (some ⟨X, 0, none⟩)), (c 1, 33, .pointer (some ⟨X, 0, none⟩)), (c 2, 34, .pointer (some ⟨X, 0, none⟩)), (c 3, 35, .pointer (some ⟨X, 0, none⟩)),
      (c 4, 36, .slice a3 k c3), (c 5, 37, .agg #[.string s.label, va]), (c 6, 38, .slice (some ⟨tb, 0, none⟩) 1 1), (c 7, 39, .slice a4 (k + 1) c4), (c 8, 40, .pointer (some ⟨X, 0, none⟩)), (c 9, 41, .pointer (some ⟨X, 0, none⟩))]) [] ∧
    AddInv lo X M tb (.slice a3 k c3) (.slice a4 (k + 1) c4) va olds s W0 c w'

set_option maxHeartbeats 1000000 in
theorem add_c (lo X M : Nat) (v : Value) (ss : List Stp) (s : Stp) (va : Value) (w : World) (h : Sharer lo X M w v ss) (hX : X < lo) (hM : M < lo) (hXM : X ≠ M) (hlo : lo ≤ w.heap.size) (hlen : ss.length ≤ 2000)
    (ha : IsInts (fun k => lo ≤ k ∧ v.ownBlock ≠ some k) w va s.args) (hargs : s.args.length ≤ 40) (htab : Tab w) :
    Calls Tryd.prog 57 #[.pointer (some ⟨X, 0, none⟩), .agg #[.string s.label, va]] w fun e w' => e = .returned (.int .i64 (addAt ss s)) ∧ ∃ v', Sharer lo X M w' v' (addM ss s) ∧ Keeps (fun k => k ≠ X ∧ k ≠ M ∧ v.ownBlock ≠ some k) w w' := by
  obtain ⟨hr, hm, ho⟩ := h
  have ha' := ha
  obtain ⟨a, cap, rfl, _, _, h⟩ := ha'
  clear h
  have hk := keyOf_c s (.agg #[.string s.label, .slice a s.args.length cap]) (w.alloc (.cells #[.string s.label, .slice a s.args.length cap] 45)) ⟨_, rfl, (ha.sub fun _ _ _ => trivial).keep ((Keeps.refl All w).alloc _) fun _ _ _ => trivial⟩ hargs (htab.keep ((Keeps.refl _ _).alloc _))
  refine (callsIn_wide (n := 5)).1 ?_
  refine callsIn_of_wp Tryd.func57 rfl trivial ?_ rfl
  simp only [Tryd.ntmps57, List.size_toArray, List.length_cons, List.length_nil, Nat.reduceAdd, Nat.reduceSub, Array.replicate_succ, Array.replicate_zero, List.push_toArray, List.append_toArray, List.nil_append, List.cons_append]
  gi_wp2
  refine ⟨trivial, ?_⟩
  refine (callsIn_wide.2 hk).mono ?_
  clear hk
  rintro e w1 ⟨rfl, hk1⟩
  have hk0 : Keeps All w w1 := ((Keeps.refl All w).alloc _).trans hk1
  have hs1 := hk1.size
  simp at hs1
  have rs1 : IsRow w1 w.heap.size 45 [.string s.label, .slice a s.args.length cap] := IsRow.keep (S := All) (IsRow.newAt rfl) hk1 trivial
  obtain ⟨W2, hW2⟩ : ∃ W2, w1.alloc (.cells #[.string s.label, .string ⟨(keyStr s.args).toArray⟩] 88) = W2 := ⟨_, rfl⟩
  have hk2 : Keeps All w W2 := by rw [← hW2]; exact hk0.alloc _
  have rk2 : IsRow W2 w1.heap.size 88 [.string s.label, .string ⟨(keyStr s.args).toArray⟩] := by rw [← hW2]; exact IsRow.newAt rfl
  have rs2 : IsRow W2 w.heap.size 45 [.string s.label, .slice a s.args.length cap] := by rw [← hW2]; exact rs1.alloc _
  have rx2 := hr.keep hk2 trivial
  have hm2 := hm.keep hk2 trivial
  have ho2 := ho.keep hk2 fun _ _ => trivial
  have ha2 := ha.keep hk2 fun _ _ _ => trivial
  have hlook := run_look (keyOfStp s) W2.drew M (ss.map keyOfStp) hm2
  unfold keyV keyOfStp at hlook
  obtain ⟨c0, c1, c2, c3⟩ := rx2.two
  obtain ⟨d0, d1, _, _⟩ := rk2.two
  obtain ⟨e0, e1, _, _⟩ := rs2.two
  have hsz2 := hk2.size
  have hkl : w1.heap.size < W2.heap.size := rk2.lt
  have hfind : ∀ q, findK (keyOfStp s) (ss.map keyOfStp) 0 = q → Hid (findK (keyOfStp s) (ss.map keyOfStp) 0 = q) := fun _ h => h
  cases hq : findK (s.label, (⟨(keyStr s.args).toArray⟩ : ByteArray)) (ss.map fun s => (s.label, (⟨(keyStr s.args).toArray⟩ : ByteArray))) 0 with
  | some n =>
    have Hq := hfind _ hq
    rw [hq] at hlook
    clear hq hfind
    gi_wp2
    gi_region
    gi_wp2
    go_ret
    have hadd : addM ss s = ss := by unfold addM; rw [Hq.out]
    refine ⟨ret_int (by unfold addAt; rw [Hq.out]), _, ⟨rx2.drew, ?_, ?_⟩, (hk2.sub fun _ _ _ => trivial).drew⟩
    · rw [hadd]; exact hm2.keep ((Keeps.refl All W2).drew) trivial
    · rw [hadd]; exact ho2.keep ((Keeps.refl All W2).drew) fun _ _ => trivial
  | none =>
    have Hq := hfind _ hq
    rw [hq] at hlook
    have hput := run_put (keyOfStp s) W2.drew.drew M (ss.map keyOfStp) hm2 Hq.out
    clear hq hfind
    rw [List.length_map] at hput
    obtain ⟨W5, hput, hm5, hk5⟩ := hput
    unfold keyV keyOfStp at hput
    have hv : ∃ a c, v = .slice a ss.length c := by
      obtain ⟨vs, _, h, _⟩ := ho
      rcases h.2 with ⟨rfl, h0⟩ | ⟨g, cap, cur, rfl, _⟩
      · rw [h0]; exact ⟨_, _, rfl⟩
      · exact ⟨_, _, rfl⟩
    obtain ⟨a3, c3', rfl⟩ := hv
    gi_wp2
    gi_region
    gi_wp2
    gi_region
    have hW5 : Keeps (· ≠ M) W2 W5 := ((Keeps.refl _ _).drew.drew).trans hk5
    have hown : ∀ k, k < lo → (Value.slice a3 ss.length c3').ownBlock ≠ some k := fun k hk e => by
      obtain ⟨_, _, h, _⟩ := ho
      have := (h.lt k e).1
      omega
    have rx5 := rx2.keep hW5 hXM
    have rs5 := rs2.keep hW5 (by omega)
    have ho5 := ho2.keep hW5 fun k hk => by omega
    have ha5 := ha2.keep hW5 fun k _ hk => by omega
    have hsz5 := hW5.size
    gi_wp2
    refine wpIn_region_inv (AddReg lo X M ss.length (.slice a s.args.length cap) a3 c3' ss s) mixed (by kernel_rfl) ?start ⟨?o0, ?o1, ?o2, ?o3, ?o4, ?o5, ?o6, ?o7, ?o8, ?o9, ?o10, trivial⟩ ?fin
    case start =>
      refine ⟨0, none, 0, by simp only [sIs_nil, sIs_cons, sI_false], ⟨?_, ?_, ?_, ?_, (Keeps.refl _ _).drew, fun _ => (Keeps.refl _ _).drew, ?_, fun _ => rx5, ?_, ?_⟩⟩
      all_goals (intro h; cases h)
    case o0 =>
      rintro b' a' w' hb hd ⟨tb, a4, c4, rfl, hR⟩
      have hR' := hR.same (c' := mark b' 0) (mark_mono _) (mark_mono _) (mark_other _ (by decide)) (mark_other _ (by decide)) (mark_other _ (by decide))
      simp only [sIs_nil, sIs_cons, sI_lit, lset_zero, lset_succ]
      gi_wp2
      refine ⟨tb, a4, c4, ?_, hR'⟩
      simp [sIs_nil, sIs_cons, sI_lit, lset_zero, lset_succ, mark]
    case o1 =>
      rintro b' a' w' hb hd ⟨tb, a4, c4, rfl, hR⟩
      have hR' := hR.same (c' := mark b' 1) (mark_mono _) (mark_mono _) (mark_other _ (by decide)) (mark_other _ (by decide)) (mark_other _ (by decide))
      simp only [sIs_nil, sIs_cons, sI_lit, lset_zero, lset_succ]
      gi_wp2
      refine ⟨tb, a4, c4, ?_, hR'⟩
      simp [sIs_nil, sIs_cons, sI_lit, lset_zero, lset_succ, mark]
    case o2 =>
      rintro b' a' w' hb hd ⟨tb, a4, c4, rfl, hR⟩
      have hR' := hR.same (c' := mark b' 2) (mark_mono _) (mark_mono _) (mark_other _ (by decide)) (mark_other _ (by decide)) (mark_other _ (by decide))
      simp [Region.binds] at hd
      simp only [sIs_nil, sIs_cons, sI_lit, lset_zero, lset_succ]
      gi_wp2
      refine ⟨tb, a4, c4, ?_, hR'⟩
      simp [sIs_nil, sIs_cons, sI_lit, lset_zero, lset_succ, mark, hd]
    case o3 =>
      rintro b' a' w' hb hd ⟨tb, a4, c4, rfl, hR⟩
      have hR' := hR.same (c' := mark b' 3) (mark_mono _) (mark_mono _) (mark_other _ (by decide)) (mark_other _ (by decide)) (mark_other _ (by decide))
      simp [Region.binds] at hd
      simp only [sIs_nil, sIs_cons, sI_lit, lset_zero, lset_succ]
      gi_wp2
      refine ⟨tb, a4, c4, ?_, hR'⟩
      simp [sIs_nil, sIs_cons, sI_lit, lset_zero, lset_succ, mark, hd]
    case o4 =>
      rintro b' a' w' hb hd ⟨tb, a4, c4, rfl, hR⟩
      have hR' := hR.same (c' := mark b' 4) (mark_mono _) (mark_mono _) (mark_other _ (by decide)) (mark_other _ (by decide)) (mark_other _ (by decide))
      simp [Region.binds] at hd
      have h10 : b' 10 = false := by
        cases h : b' 10 with
        | false => rfl
        | true => rw [hR.ord4 (hR.ord7 h)] at hb; cases hb
      obtain ⟨f1, _⟩ := (hR.box h10).two
      simp only [sIs_nil, sIs_cons, sI_lit, lset_zero, lset_succ]
      gi_wp2
      refine ⟨tb, a4, c4, ?_, hR'⟩
      simp [sIs_nil, sIs_cons, sI_lit, lset_zero, lset_succ, mark, hd]
    case o5 =>
      rintro b' a' w' hb hd ⟨tb, a4, c4, rfl, hR⟩
      have hR' := hR.same (c' := mark b' 5) (mark_mono _) (mark_mono _) (mark_other _ (by decide)) (mark_other _ (by decide)) (mark_other _ (by decide))
      have h7 : b' 7 = false := by
        cases h : b' 7 with
        | false => rfl
        | true => rw [hR.ord5 (hR.ord6 h)] at hb; cases hb
      obtain ⟨f1, f2, _⟩ := (rs5.keep (hR.early h7) trivial).two
      simp only [sIs_nil, sIs_cons, sI_lit, lset_zero, lset_succ]
      gi_wp2
      refine ⟨tb, a4, c4, ?_, hR'⟩
      simp [sIs_nil, sIs_cons, sI_lit, lset_zero, lset_succ, mark, h7]
    case o8 =>
      rintro b' a' w' hb hd ⟨tb, a4, c4, rfl, hR⟩
      have hR' := hR.same (c' := mark b' 8) (mark_mono _) (mark_mono _) (mark_other _ (by decide)) (mark_other _ (by decide)) (mark_other _ (by decide))
      simp [Region.binds] at hd
      simp only [sIs_nil, sIs_cons, sI_lit, lset_zero, lset_succ]
      gi_wp2
      refine ⟨tb, a4, c4, ?_, hR'⟩
      simp [sIs_nil, sIs_cons, sI_lit, lset_zero, lset_succ, mark, hd]
    case o9 =>
      rintro b' a' w' hb hd ⟨tb, a4, c4, rfl, hR⟩
      have hR' := hR.same (c' := mark b' 9) (mark_mono _) (mark_mono _) (mark_other _ (by decide)) (mark_other _ (by decide)) (mark_other _ (by decide))
      simp [Region.binds] at hd
      simp only [sIs_nil, sIs_cons, sI_lit, lset_zero, lset_succ]
      gi_wp2
      refine ⟨tb, a4, c4, ?_, hR'⟩
      simp [sIs_nil, sIs_cons, sI_lit, lset_zero, lset_succ, mark, hd]
    case o6 =>
      rintro b' a' w' hb hd ⟨tb, a4, c4, rfl, hR⟩
      simp [Region.binds] at hd
      have h7 : b' 7 = false := by
        cases h : b' 7 with
        | false => rfl
        | true => rw [hR.ord6 h] at hb; cases hb
      have h10 : b' 10 = false := by
        cases h : b' 10 with
        | false => rfl
        | true => rw [hR.ord7 h] at h7; cases h7
      have HR := hid hR
      clear hR
      simp only [sIs_nil, sIs_cons, sI_lit, lset_zero, lset_succ]
      gi_wp2
      refine ⟨w'.heap.size, a4, c4, by simp [sIs_nil, sIs_cons, sI_lit, lset_zero, lset_succ, mark, hd, h7], ?_⟩
      have hR := HR.out
      refine ⟨?_, ?_, ?_, ?_, hR.keep.alloc _, fun _ => (hR.early h7).alloc _, fun _ _ => IsRow.new _ _ _, fun _ => (hR.box h10).alloc _, ?_, ?_⟩
      · simp [mark, h7]
      · simp [mark]
      · simp [mark, hd]
      · simp [mark, h10]
      · simp [mark, h7]
      · simp [mark, h10]
    case o7 =>
      rintro b' a' w' hb hd ⟨tb, a4, c4, rfl, hR⟩
      have hd4 : b' 4 = true := hd { on := 4, ground := Ground.data } (by simp) rfl
      have hd6 : b' 6 = true := hd { on := 6, ground := Ground.data } (by simp) rfl
      have h10 : b' 10 = false := by
        cases h : b' 10 with
        | false => rfl
        | true => rw [hR.ord7 h] at hb; cases hb
      have hk := hR.early hb
      obtain ⟨t0, t1, _, _⟩ := (hR.tmp hd6 hb).two
      obtain ⟨vs, hvl, hown', hvi⟩ := ho5.keep hk fun _ _ => trivial
      obtain ⟨i0, hi, hz0, hz1, hz2⟩ := info_parts info_step
      have HR := hid hR
      have Hvi := hid hvi
      clear hR hvi hd
      simp only [sIs_nil, sIs_cons, sI_lit, lset_zero, lset_succ, hd4, hd6, cond_true]
      refine wpListIn_append_where _ rfl (.tmp 36) (.tmp 38) 22 rfl lo 45 i0 _ 2 40 Tryd.underlying22 hi hz0 hz1 hz2 rfl (by decide) _ _ _ rfl hown' ⟨tb, 0, none⟩ 1 1 [.string s.label, .slice a s.args.length cap] rfl rfl ?c1 ?c2 ?c3 ?c4 ?c5 ?_
      case c1 =>
        intro j u hu
        have hadd : (⟨tb, 0, none⟩ : Addr).add j = ⟨tb, j, none⟩ := by unfold Addr.add; split <;> simp_all
        rw [hadd]
        rcases j with _ | _ | j
        · simp at hu; subst hu; exact t0
        · simp at hu; subst hu; exact t1
        · simp at hu
      case c2 => intro u hu; simp at hu; rcases hu with rfl | rfl <;> rfl
      case c3 => unfold maxLen; omega
      case c4 => omega
      case c5 => have := hk.size; omega
      intro v' w3 hown3 hg3 hw3
      obtain ⟨g', cap', rfl⟩ := ownsRow_succ hown3
      refine ⟨tb, some ⟨g', 0, none⟩, cap', ?_, ?_⟩
      · simp [Act.put, sIs_nil, sIs_cons, sI_lit, lset_zero, lset_succ, mark, hd4, hd6]
      have hR := HR.out
      have hsz' := hk.size
      have hkw : Keeps (fun k => (Value.slice a3 ss.length c3').ownBlock ≠ some k) w' w3 := ⟨hg3.os, hg3.tape, hg3.output, hg3.size, fun k hlt hs => hg3.block k hlt (fun e => hs e.symm)⟩
      have hX' : (Value.slice a3 ss.length c3').ownBlock ≠ some X := hown _ hX
      refine ⟨?_, ?_, ?_, ?_, hR.keep.trans (hkw.sub fun k _ h => h.2), ?_, ?_, fun _ => (hR.box h10).keep hkw hX', fun _ => ?_, ?_⟩
      · simp [mark, hd4]
      · simp [mark, hd6]
      · simp [mark]; exact hR.ord5
      · simp [mark]
      · simp [mark]
      · simp [mark]
      · refine OwnSteps.snoc (va := .slice a s.args.length cap) hvl Hvi.out (ha5.keep hk fun _ _ _ => trivial) hown3 hg3 ?_
        rcases hw3 with h | h
        · exact Or.inl h
        · exact Or.inr fun k hk2 => by rw [h] at hk2; cases hk2; exact Nat.le_refl _
      · simp [mark, h10]
    case o10 =>
      rintro b' a' w' hb hd ⟨tb, a4, c4, rfl, hR⟩
      have hd9 : b' 9 = true := hd { on := 9, ground := Ground.data } (by simp) rfl
      have hd7 : b' 7 = true := hd { on := 7, ground := Ground.data } (by simp) rfl
      obtain ⟨f1, _, f2, _⟩ := (hR.box hb).two
      have HR := hid hR
      clear hR hd
      simp only [sIs_nil, sIs_cons, sI_lit, lset_zero, lset_succ]
      gi_wp2
      refine ⟨tb, a4, c4, ?_, ?_⟩
      · simp [sIs_nil, sIs_cons, sI_lit, lset_zero, lset_succ, mark, hd9, hd7]
      have hR := HR.out
      have hkw : Keeps (fun k => k ≠ X) w' (w'.setCell ⟨X, 0, none⟩ (.slice a4 (ss.length + 1) c4)) := (Keeps.refl _ _).setCell (fun _ hn => hn rfl) _
      refine ⟨fun _ => mark_mono _ (hR.ord4 hd7), fun _ => mark_mono _ (hR.ord6 hd7), fun h => mark_mono _ (hR.ord5 (mark_of (by decide) h)), fun _ => mark_mono _ hd7, hR.keep.trans (hkw.sub fun k _ h => h.1), ?_, ?_, ?_, fun _ => (hR.out hd7).keep hkw (fun k hk => by omega), fun _ => ?_⟩
      · simp [mark, hd7]
      · simp [mark, hd7]
      · simp [mark]
      · exact (hR.box hb).set 0 _
    case fin =>
      rintro b' a' w' hb ⟨tb, a4, c4, rfl, hR⟩
      have e0 := hb 0 (by decide)
      have e1 := hb 1 (by decide)
      have e2 := hb 2 (by decide)
      have e3 := hb 3 (by decide)
      have e4 := hb 4 (by decide)
      have e5 := hb 5 (by decide)
      have e6 := hb 6 (by decide)
      have e7 := hb 7 (by decide)
      have e8 := hb 8 (by decide)
      have e9 := hb 9 (by decide)
      have hadd : addM ss s = ss ++ [s] := by unfold addM; rw [Hq.out]
      have hdone := hR.done (hb 10 (by decide))
      have hout := hR.out e7
      have hkeep := hR.keep
      clear hb hR
      simp only [sIs_nil, sIs_cons, sI_lit, lset_zero, lset_succ, e0, e1, e2, e3, e4, e5, e6, e7, e8, e9, cond_true]
      gi_wp2
      go_ret
      refine ⟨ret_int (by unfold addAt; rw [Hq.out]), _, ⟨hdone, ?_, ?_⟩, ((hk2.sub fun _ _ _ => trivial).trans (hW5.sub fun k _ h => h.2.1)).trans (hkeep.sub fun k _ h => ⟨h.1, h.2.2⟩)⟩
      · rw [hadd, List.map_append]
        exact hm5.keep hkeep ⟨fun e => hXM e.symm, hown _ hM⟩
      · rw [hadd]; exact hout

end Go.Proofs.YtcbmljfgmeeadaaDoor
