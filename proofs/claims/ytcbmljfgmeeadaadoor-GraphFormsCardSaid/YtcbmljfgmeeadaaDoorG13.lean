/-
  CONTRACT: expand's writer: it appends the steps of a tree to what there is.
-/
import Derived.Test.YtcbmljfgmeeadaaDoorOwnIn
import Derived.Test.YtcbmljfgmeeadaaDoorJP
import Derived.Test.YtcbmljfgmeeadaaDoorSeq
import Derived.Test.YtcbmljfgmeeadaaDoorJB
import Derived.Test.YtcbmljfgmeeadaaDoorReg
namespace Go.Proofs.YtcbmljfgmeeadaaDoor
open Go.RowKit

attribute [local go_sem] Oper.semAt_some

/-- What the writer finds: the boxes of the proof, of itself, of what comes out. -/
structure EState (S : Nat → Prop) (ss : List Stp) (lo pb wb ob : Nat) (ps : Value) (Prot : Nat → Prop) (W : World) (v : Value) (outs : List Stp) : Prop where
  size : lo ≤ W.heap.size
  pbox : IsRow W pb 24 [ps]
  psteps : IsSteps Prot W ps ss
  wbox : IsRow W wb 78 [.func (.func 58) #[] #[.pointer (some ⟨pb, 0, none⟩), .pointer (some ⟨wb, 0, none⟩), .pointer (some ⟨ob, 0, none⟩)]]
  obox : IsRow W ob 24 [v]
  out : OwnIn S lo W v outs

theorem EState.keep {S : Nat → Prop} {ss : List Stp} {lo pb wb ob : Nat} {ps : Value} {Prot : Nat → Prop} {A B : World} {v : Value} {outs : List Stp} (h : EState S ss lo pb wb ob ps Prot A v outs) {T : Nat → Prop} (hk : Keeps T A B)
    (hp : T pb) (hw : T wb) (ho : T ob) (hP : ∀ k, Prot k → T k) (hv : ∀ k, v.ownBlock = some k → T k) (hs : ∀ k, k < A.heap.size → S k → v.ownBlock ≠ some k → T k) : EState S ss lo pb wb ob ps Prot B v outs :=
  ⟨Nat.le_trans h.size hk.size, h.pbox.keep hk hp, h.psteps.keep hk fun k _ h => hP k h, h.wbox.keep hk hw, h.obox.keep hk ho, h.out.keep hk hv hs⟩

theorem EState.sub {S S' : Nat → Prop} {ss : List Stp} {lo pb wb ob : Nat} {ps : Value} {Prot : Nat → Prop} {A : World} {v : Value} {outs : List Stp} (h : EState S ss lo pb wb ob ps Prot A v outs) (hs : ∀ k, k < A.heap.size → S k → S' k) : EState S' ss lo pb wb ob ps Prot A v outs :=
  ⟨h.size, h.pbox, h.psteps, h.wbox, h.obox, h.out.sub hs⟩

/-- All blocks of S but the round's own two. -/
def SX (S : Nat → Prop) (sb : Nat) (sv : Value) (q : Nat) : Prop := S q ∧ q ≠ sb ∧ sv.ownBlock ≠ some q

/-- What the writer leaves. -/
def EPost (S : Nat → Prop) (ss : List Stp) (lo pb wb ob : Nat) (ps : Value) (Prot : Nat → Prop) (W : World) (v : Value) (outs : List Stp) (w' : World) : Prop :=
  ∃ v', EState S ss lo pb wb ob ps Prot w' v' outs ∧ Keeps (fun k => k ≠ ob ∧ v.ownBlock ≠ some k) W w' ∧ (v'.ownBlock = v.ownBlock ∨ ∀ k, v'.ownBlock = some k → W.heap.size ≤ k)

/-- The append of a round. -/
structure WrInv (S : Nat → Prop) (ss : List Stp) (lo pb wb ob sb tb : Nat) (ps : Value) (Prot : Nat → Prop) (v1 v2 sv sv' : Value) (outs outs2 : List Stp) (nums : List Int) (r : Int) (lab : ByteArray) (W0 : World) (c : Nat → Bool) (w : World) : Prop where
  ord1 : c 6 = true → c 1 = true
  ord5 : c 5 = true → c 4 = true
  ord6 : c 6 = true → c 5 = true
  ord8 : c 8 = true → c 6 = true
  keep : Keeps (fun k => k ≠ ob ∧ v1.ownBlock ≠ some k ∧ k ≠ sb ∧ sv.ownBlock ≠ some k) W0 w
  st0 : c 4 = false → EState S ss lo pb wb ob ps Prot w v1 outs
  st1 : c 4 = true → EState S ss lo pb wb ob ps Prot w v2 outs2
  wh : c 4 = true → v2.ownBlock = v1.ownBlock ∨ ∀ k, v2.ownBlock = some k → W0.heap.size ≤ k
  tmp : c 5 = true → c 6 = false → IsRow w tb 3 [.int .i64 r]
  row0 : c 6 = false → w.ownsRow (sb + 1) 3 1 sv nums.length (ints nums)
  row1 : c 6 = true → w.ownsRow (sb + 1) 3 1 sv' (nums.length + 1) (ints (nums ++ [r]))
  dis1 : c 6 = true → (∀ k, sv'.ownBlock = some k → v2.ownBlock ≠ some k) ∧ (sv'.ownBlock = sv.ownBlock ∨ ∀ k, k < W0.heap.size → sv'.ownBlock ≠ some k) ∧ OwnIn (fun k => S k ∧ sv'.ownBlock ≠ some k) lo w v2 outs2
  box0 : c 8 = false → IsRow w sb 45 [.string lab, sv]
  box1 : c 8 = true → IsRow w sb 45 [.string lab, sv']

theorem WrInv.same {S : Nat → Prop} {ss : List Stp} {lo pb wb ob sb tb : Nat} {ps : Value} {Prot : Nat → Prop} {v1 v2 sv sv' : Value} {outs outs2 : List Stp} {nums : List Int} {r : Int} {lab : ByteArray} {W0 : World} {c c' : Nat → Bool} {w : World}
    (h : WrInv S ss lo pb wb ob sb tb ps Prot v1 v2 sv sv' outs outs2 nums r lab W0 c w) (h1 : c 1 = true → c' 1 = true) (h4 : c' 4 = c 4) (h5 : c' 5 = c 5) (h6 : c' 6 = c 6) (h8 : c' 8 = c 8) :
    WrInv S ss lo pb wb ob sb tb ps Prot v1 v2 sv sv' outs outs2 nums r lab W0 c' w := by
  obtain ⟨a0, a1, a2, a3, a4, a5, a6, a7, a8, a9, a10, a11, a12, a13⟩ := h
  exact ⟨by rw [h6]; exact fun h => h1 (a0 h), by rw [h5, h4]; exact a1, by rw [h6, h5]; exact a2, by rw [h8, h6]; exact a3, a4, by rw [h4]; exact a5, by rw [h4]; exact a6, by rw [h4]; exact a7, by rw [h5, h6]; exact a8, by rw [h6]; exact a9, by rw [h6]; exact a10, by rw [h6]; exact a11, by rw [h8]; exact a12, by rw [h8]; exact a13⟩

def WrReg (S : Nat → Prop) (ss : List Stp) (lo pb wb ob sb : Nat) (ps : Value) (Prot : Nat → Prop) (v1 : Value) (a3 : Option Addr) (k c3 : Nat) (outs outs2 : List Stp) (nums : List Int) (r : Int) (z : Int) (lab : ByteArray) (T : Array Value) (W0 : World) (c : Nat → Bool) (a' : Act) (w' : World) : Prop :=
  ∃ (tb : Nat) (v2 : Value) (a4 : Option Addr) (c4 : Nat), a' = Act.mk (sIs T [(c 0, 27, .pointer (some ⟨sb, 1, none⟩)), (c 1, 28, .slice a3 k c3),
      (c 2, 29, .func (.func 58) #[] #[.pointer (some ⟨pb, 0, none⟩), .pointer (some ⟨wb, 0, none⟩), .pointer (some ⟨ob, 0, none⟩)]), (c 3, 30, .int .i64 z), (c 4, 31, .int .i64 r), (c 5, 32, .slice (some ⟨tb, 0, none⟩) 1 1),
      (c 6, 33, .slice a4 (k + 1) c4), (c 7, 34, .pointer (some ⟨sb, 1, none⟩))]) [] ∧
    WrInv S ss lo pb wb ob sb tb ps Prot v1 v2 (.slice a3 k c3) (.slice a4 (k + 1) c4) outs outs2 nums r lab W0 c w'

set_option maxHeartbeats 2000000 in
theorem expand1_c (ss : List Stp) (hok : Okay ss) (lo pb wb ob : Nat) (ps : Value) (Prot : Nat → Prop) (hP : ∀ k, Prot k → k < lo ∧ k ≠ ob) (hpl : pb < lo ∧ pb ≠ ob) (hwl : wb < lo ∧ wb ≠ ob) (hol : ob < lo) :
    ∀ (f i : Nat) (S : Nat → Prop) (v : Value) (outs : List Stp) (W : World), i < f → i < ss.length → EState S ss lo pb wb ob ps Prot W v outs → (∀ k, W.heap.size ≤ k → S k) → (∀ k, S k → lo ≤ k) → outs.length + tsize (treeAt ss i) ≤ 2000 →
      Calls Tryd.prog 58 #[.int .i64 (i : Int), .pointer (some ⟨pb, 0, none⟩), .pointer (some ⟨wb, 0, none⟩), .pointer (some ⟨ob, 0, none⟩)] W fun e w' =>
        e = .returned (.int .i64 (((outs.length + tsize (treeAt ss i) : Nat) : Int) - 1)) ∧ EPost S ss lo pb wb ob ps Prot W v (outs ++ flat (treeAt ss i) outs.length) w' := by
  intro f
  induction f with
  | zero => intro i S v outs W hi; omega
  | succ f ih =>
    intro i S v outs W hi hil hE hS hSlo hlen
    have hE' := hE
    have hc := hE.psteps
    obtain ⟨a, cap, hps, _, hc⟩ := hc
    subst hps
    rcases hc with ⟨hu, _⟩ | ⟨b, off, rfl, hB, hPb, hc⟩
    · rw [hu] at hil; simp at hil
    obtain ⟨d0, va, d1, hva⟩ := hc i hil
    clear hc
    have hva' := hva
    obtain ⟨a2, cap2, rfl, hl2, hx2, h2⟩ := hva'
    clear h2 hx2
    obtain ⟨p0, _⟩ := hE.pbox.one
    have hpb1 : pb < W.heap.size := by have := hE.size; omega
    have hB1 : b < W.heap.size := hB
    obtain ⟨trees, htr⟩ : ∃ trees, trees = ss[i].args.map (fun a => treeAt ss a.toNat) := ⟨_, rfl⟩
    have hT : treeAt ss i = .node ss[i].label trees := by rw [hok.treeAt hil, htr]
    rw [hT] at hlen
    simp only [hT, tsize, flat] at hlen ⊢
    have htl : trees.length = ss[i].args.length := by rw [htr, List.length_map]
    have Htr := hid htr
    have Htl := hid htl
    have HS := hid hS
    have HSlo := hid hSlo
    have HP := hid hP
    have HI := hid ih
    have hvlt := hid (fun k (h : v.ownBlock = some k) => hE.out.lt h)
    have hsize := hE.size
    clear hS hSlo hP ih hT htr htl
    refine (callsIn_wide (n := 5)).1 ?_
    refine callsIn_of_wp Tryd.func58 rfl trivial ?_ rfl
    simp only [Tryd.ntmps58, List.size_toArray, List.length_cons, List.length_nil, Nat.reduceAdd, Nat.reduceSub, Array.replicate_succ, Array.replicate_zero, List.push_toArray, List.append_toArray, List.nil_append, List.cons_append]
    gi_wp2
    gi_loopw [8, 23] (fun i8 iv wr => ∃ (k : Nat) (v1 : Value) (a3 : Option Addr) (c3 : Nat), k ≤ ss[i].args.length ∧ iv = .int .i64 k ∧
      EState (SX S W.heap.size (.slice a3 k c3)) ss lo pb wb ob (.slice (some ⟨b, off, none⟩) ss.length cap) Prot wr v1 (outs ++ (flats (trees.take k) outs.length).1) ∧
      wr.ownsRow (W.heap.size + 1) 3 1 (.slice a3 k c3) k (ints (flats (trees.take k) outs.length).2) ∧ IsRow wr W.heap.size 45 [.string ss[i].label, .slice a3 k c3] ∧
      Keeps (fun q => q ≠ ob ∧ v.ownBlock ≠ some q) W wr ∧ Hid (v1.ownBlock = v.ownBlock ∨ ∀ q, v1.ownBlock = some q → W.heap.size + 1 ≤ q) ∧ Hid (∀ q, (Value.slice a3 k c3).ownBlock = some q → v1.ownBlock ≠ some q)) (fun _ iv _ => ss[i].args.length - (intOf iv).toNat)
    case atStart =>
      have hk0 : Keeps All W (W.alloc (.cells #[.string ss[i].label, .slice none 0 0] 45)) := (Keeps.refl _ _).alloc _
      refine ⟨0, v, none, 0, Nat.zero_le _, rfl, ?_, ?_, IsRow.newAt rfl, hk0.sub fun _ _ _ => trivial, Or.inl rfl, fun q h => by cases h⟩
      · have h1 := (hE'.sub (S' := SX S W.heap.size (.slice none 0 0)) fun q hq h => ⟨h, by omega, fun e => by cases e⟩).keep hk0 trivial trivial trivial (fun _ _ => trivial) (fun _ _ => trivial) (fun _ _ _ _ => trivial)
        simpa [flats] using h1
      · exact World.ownsRow_nil _ _ _ _
    case round =>
      obtain ⟨k, v1, a3, c3, hk, rfl, hE1, hrow, hsb, hkp, hwh, hdis⟩ := hrel
      by_cases hlt : k < ss[i].args.length
      · have hcell : ∃ b off, a2 = some ⟨b, off, none⟩ ∧ wr.cell? ⟨b, off + k, none⟩ = some (.int .i64 ss[i].args[k]) := by
          have hva2 := hva.keep hkp fun q _ hq => ⟨(HP.out q hq).2, fun e => by have := hvlt.out q e; have := HP.out q hq; omega⟩
          obtain ⟨_, _, he, _, _, h⟩ := hva2
          cases he
          rcases h with ⟨h, _⟩ | ⟨b, off, rfl, _, _, hcc⟩
          · rw [h] at hlt; simp at hlt
          · exact ⟨b, off, rfl, hcc k hlt⟩
        obtain ⟨b2, off2, rfl, c7⟩ := hcell
        obtain ⟨z, hz, hzc⟩ : ∃ z : Nat, ss[i].args[k] = (z : Int) ∧ z < i := by
          have h1 := (hok.2.2 i hil).2 _ (List.getElem_mem hlt)
          exact ⟨ss[i].args[k].toNat, by omega, by omega⟩
        rw [hz] at c7
        have hkt : k < trees.length := by rw [Htl.out]; exact hlt
        have htk : trees[k] = treeAt ss z := by simp only [Htr.out, List.getElem_map, hz, Int.toNat_natCast]
        have hsnoc := flats_snoc (treeAt ss z) (trees.take k) outs.length
        rw [← htk, ← List.take_succ_eq_append_getElem hkt, htk] at hsnoc
        have hsum : (flats (trees.take k) outs.length).1.length + tsize (treeAt ss z) ≤ tsizes trees := by
          have h1 : trees = trees.take (k + 1) ++ trees.drop (k + 1) := (List.take_append_drop _ _).symm
          have h2 := congrArg tsizes h1
          rw [tsizes_append, List.take_succ_eq_append_getElem hkt, htk, tsizes_append, tsizes, tsizes] at h2
          rw [flats_length]; omega
        have hcount : (flats (trees.take k) outs.length).2.length = k := by rw [flats_count, List.length_take]; omega
        obtain ⟨outs1, ho1⟩ : ∃ o, o = outs ++ (flats (trees.take k) outs.length).1 := ⟨_, rfl⟩
        obtain ⟨nums, hnm⟩ : ∃ o, o = (flats (trees.take k) outs.length).2 := ⟨_, rfl⟩
        have hol1 : outs1.length = outs.length + (flats (trees.take k) outs.length).1.length := by rw [ho1, List.length_append]
        have hn1 : outs ++ (flats (trees.take (k + 1)) outs.length).1 = outs1 ++ flat (treeAt ss z) outs1.length := by rw [hsnoc, ← List.append_assoc, ← ho1, hol1]
        obtain ⟨r, hr⟩ : ∃ r : Int, r = ((outs1.length + tsize (treeAt ss z) : Nat) : Int) - 1 := ⟨_, rfl⟩
        have hn2 : (flats (trees.take (k + 1)) outs.length).2 = nums ++ [r] := by rw [hsnoc, ← hnm, hr, hol1]
        rw [← ho1] at hE1
        rw [← hnm] at hrow
        rw [← hnm] at hcount
        have hlen1 : outs1.length + tsize (treeAt ss z) ≤ 2000 := by omega
        have hrlen : nums.length ≤ 2000 := by have := (hok.2.2 i hil).1; omega
        have Hn1 := hid hn1
        have Hn2 := hid hn2
        have Hr := hid hr
        have Hc := hid hcount
        clear hn1 hn2 hr hcount ho1 hnm hsnoc htk hsum hol1
        have hkz := hkp.size
        have hsvl : Hid (∀ q, (Value.slice a3 k c3).ownBlock = some q → W.heap.size + 1 ≤ q ∧ q < wr.heap.size) := fun q e => hrow.lt q e
        have hv1l : Hid (∀ q, v1.ownBlock = some q → lo ≤ q ∧ q < wr.heap.size ∧ q ≠ W.heap.size) := fun q e => by
          have h1 := hE1.out.lt e
          rcases hwh.out with h | h
          · rw [h] at e; have := hvlt.out q e; omega
          · have := h q e; omega
        have hszr : W.heap.size < wr.heap.size := hsb.lt
        gi_wp2
        refine wpIn_region_inv (WrReg (SX S W.heap.size (.slice a3 k c3)) ss lo pb wb ob W.heap.size (.slice (some ⟨b, off, none⟩) ss.length cap) Prot v1 a3 k c3 outs1 (outs1 ++ flat (treeAt ss z) outs1.length) nums r z ss[i].label) mixed (by kernel_rfl) ?start
          ⟨?o0, ?o1, ?o2, ?o3, ?o4, ?o5, ?o6, ?o7, ?o8, trivial⟩ ?fin
        case start =>
          refine ⟨0, .bool false, none, 0, by simp only [sIs_nil, sIs_cons, sI_false], ?_⟩
          have hk0 : Keeps All wr wr.drew := (Keeps.refl _ _).drew
          refine ⟨?_, ?_, ?_, ?_, (Keeps.refl _ _).drew, fun _ => hE1.keep hk0 trivial trivial trivial (fun _ _ => trivial) (fun _ _ => trivial) (fun _ _ _ _ => trivial), ?_, ?_, ?_, fun _ => by rw [Hc.out]; exact hrow, ?_, ?_, fun _ => hsb, ?_⟩
          all_goals (intro h; cases h)
        case o0 =>
          rintro b' a' w' hb hd ⟨tb, v2, a4, c4, rfl, hR⟩
          have hR' := hR.same (c' := mark b' 0) (mark_mono _) (mark_other _ (by decide)) (mark_other _ (by decide)) (mark_other _ (by decide)) (mark_other _ (by decide))
          simp only [sIs_nil, sIs_cons, sI_lit, lset_zero, lset_succ]
          gi_wp2
          refine ⟨tb, v2, a4, c4, ?_, hR'⟩
          simp [sIs_nil, sIs_cons, sI_lit, lset_zero, lset_succ, mark]
        case o1 =>
          rintro b' a' w' hb hd ⟨tb, v2, a4, c4, rfl, hR⟩
          have hR' := hR.same (c' := mark b' 1) (mark_mono _) (mark_other _ (by decide)) (mark_other _ (by decide)) (mark_other _ (by decide)) (mark_other _ (by decide))
          simp [Region.binds] at hd
          have h8 : b' 8 = false := by
            cases h : b' 8 with
            | false => rfl
            | true => rw [hR.ord1 (hR.ord8 h)] at hb; cases hb
          obtain ⟨_, _, f1, _⟩ := (hR.box0 h8).two
          simp only [sIs_nil, sIs_cons, sI_lit, lset_zero, lset_succ]
          gi_wp2
          refine ⟨tb, v2, a4, c4, ?_, hR'⟩
          simp [sIs_nil, sIs_cons, sI_lit, lset_zero, lset_succ, mark, hd]
        case o2 =>
          rintro b' a' w' hb hd ⟨tb, v2, a4, c4, rfl, hR⟩
          have hR' := hR.same (c' := mark b' 2) (mark_mono _) (mark_other _ (by decide)) (mark_other _ (by decide)) (mark_other _ (by decide)) (mark_other _ (by decide))
          obtain ⟨f1, _⟩ : w'.cell? ⟨wb, 0, none⟩ = some (.func (.func 58) #[] #[.pointer (some ⟨pb, 0, none⟩), .pointer (some ⟨wb, 0, none⟩), .pointer (some ⟨ob, 0, none⟩)]) ∧ True := by
            refine ⟨?_, trivial⟩
            cases h : b' 4 with
            | false => exact (hR.st0 h).wbox.cell 0
            | true => exact (hR.st1 h).wbox.cell 0
          simp only [sIs_nil, sIs_cons, sI_lit, lset_zero, lset_succ]
          gi_wp2
          refine ⟨tb, v2, a4, c4, ?_, hR'⟩
          simp [sIs_nil, sIs_cons, sI_lit, lset_zero, lset_succ, mark]
        case o3 =>
          rintro b' a' w' hb hd ⟨tb, v2, a4, c4, rfl, hR⟩
          have hR' := hR.same (c' := mark b' 3) (mark_mono _) (mark_other _ (by decide)) (mark_other _ (by decide)) (mark_other _ (by decide)) (mark_other _ (by decide))
          simp only [sIs_nil, sIs_cons, sI_lit, lset_zero, lset_succ]
          gi_wp2
          refine ⟨tb, v2, a4, c4, ?_, hR'⟩
          simp [sIs_nil, sIs_cons, sI_lit, lset_zero, lset_succ, mark]
        case o7 =>
          rintro b' a' w' hb hd ⟨tb, v2, a4, c4, rfl, hR⟩
          have hR' := hR.same (c' := mark b' 7) (mark_mono _) (mark_other _ (by decide)) (mark_other _ (by decide)) (mark_other _ (by decide)) (mark_other _ (by decide))
          simp only [sIs_nil, sIs_cons, sI_lit, lset_zero, lset_succ]
          gi_wp2
          refine ⟨tb, v2, a4, c4, ?_, hR'⟩
          simp [sIs_nil, sIs_cons, sI_lit, lset_zero, lset_succ, mark]
        case o4 =>
          rintro b' a' w' hb hd ⟨tb, v2, a4, c4, rfl, hR⟩
          have hd2 : b' 2 = true := hd { on := 2, ground := Ground.data } (by simp) rfl
          have hd3 : b' 3 = true := hd { on := 3, ground := Ground.data } (by simp) rfl
          have h5 : b' 5 = false := by
            cases h : b' 5 with
            | false => rfl
            | true => rw [hR.ord5 h] at hb; cases hb
          have h6 : b' 6 = false := by
            cases h : b' 6 with
            | false => rfl
            | true => rw [hR.ord6 h] at h5; cases h5
          have h8 : b' 8 = false := by
            cases h : b' 8 with
            | false => rfl
            | true => rw [hR.ord8 h] at h6; cases h6
          have hks := hR.keep.size
          have hcall := HI.out z (SX S W.heap.size (.slice a3 k c3)) v1 outs1 w' (by omega) (by omega) (hR.st0 hb) (fun q hq => ⟨HS.out q (by omega), by omega, fun e => by have := hsvl.out q e; omega⟩) (fun q hq => HSlo.out q hq.1) hlen1
          rw [← Hr.out] at hcall
          have HR := hid hR
          clear hR
          simp only [sIs_nil, sIs_cons, sI_lit, lset_zero, lset_succ, hd2, hd3, cond_true]
          gi_wp2
          refine ⟨trivial, ?_⟩
          refine (callsIn_wide.2 hcall).mono ?_
          clear hcall
          rintro e w3 ⟨rfl, v2', hE3, hk3, hw3⟩
          gi_wp2
          have hR := HR.out
          refine ⟨tb, v2', a4, c4, by simp [sIs_nil, sIs_cons, sI_lit, lset_zero, lset_succ, mark, hd2, hd3, h5, h6], ?_⟩
          refine ⟨?_, fun _ => mark_self _ _, ?_, ?_, hR.keep.trans (hk3.sub fun _ _ h => ⟨h.1, h.2.1⟩), ?_, fun _ => hE3, fun _ => ?_, ?_, fun _ => ?_, ?_, ?_, fun _ => ?_, ?_⟩
          · simp [mark, h6]
          · simp [mark, h6]
          · simp [mark, h8]
          · simp [mark]
          · rcases hw3 with h | h
            · exact Or.inl h
            · exact Or.inr fun q e => by have := h q e; omega
          · simp [mark, h5]
          · exact owns_keep (hR.row0 h6) hk3 fun q e => ⟨by have := hsvl.out q e; omega, fun e1 => hdis.out q e e1⟩
          · simp [mark, h6]
          · simp [mark, h6]
          · exact (hR.box0 h8).keep hk3 ⟨by omega, fun e => (hv1l.out _ e).2.2 rfl⟩
          · simp [mark, h8]
        case o5 =>
          rintro b' a' w' hb hd ⟨tb, v2, a4, c4, rfl, hR⟩
          have hd4 : b' 4 = true := hd { on := 4, ground := Ground.data } (by simp) rfl
          have h6 : b' 6 = false := by
            cases h : b' 6 with
            | false => rfl
            | true => rw [hR.ord6 h] at hb; cases hb
          have h8 : b' 8 = false := by
            cases h : b' 8 with
            | false => rfl
            | true => rw [hR.ord8 h] at h6; cases h6
          have HR := hid hR
          clear hR
          simp only [sIs_nil, sIs_cons, sI_lit, lset_zero, lset_succ, hd4, cond_true]
          gi_wp2
          have hR := HR.out
          have hk0 : Keeps All w' (w'.alloc (.cells #[.int .i64 r] 3)) := (Keeps.refl _ _).alloc _
          refine ⟨w'.heap.size, v2, a4, c4, by simp [sIs_nil, sIs_cons, sI_lit, lset_zero, lset_succ, mark, hd4, h6], ?_⟩
          refine ⟨?_, fun _ => mark_mono _ hd4, ?_, ?_, hR.keep.alloc _, ?_, fun _ => (hR.st1 hd4).keep hk0 trivial trivial trivial (fun _ _ => trivial) (fun _ _ => trivial) (fun _ _ _ _ => trivial), fun _ => hR.wh hd4, fun _ _ => IsRow.new _ _ _, fun _ => owns_keep (hR.row0 h6) hk0 fun _ _ => trivial, ?_, ?_, fun _ => (hR.box0 h8).alloc _, ?_⟩
          · simp [mark, h6]
          · simp [mark]
          · simp [mark, h8]
          · simp [mark, hd4]
          · simp [mark, h6]
          · simp [mark, h6]
          · simp [mark, h8]
        case o6 =>
          rintro b' a' w' hb hd ⟨tb, v2, a4, c4, rfl, hR⟩
          have hd1 : b' 1 = true := hd { on := 1, ground := Ground.data } (by simp) rfl
          have hd5 : b' 5 = true := hd { on := 5, ground := Ground.data } (by simp) rfl
          have hd4 := hR.ord5 hd5
          have h8 : b' 8 = false := by
            cases h : b' 8 with
            | false => rfl
            | true => rw [hR.ord8 h] at hb; cases hb
          obtain ⟨t0, _⟩ := (hR.tmp hd5 hb).one
          have hrow1 := hR.row0 hb
          obtain ⟨i0, hi0, hz0, hz1, hz2⟩ := info_parts info_int
          have hks := hR.keep.size
          have HR := hid hR
          clear hR hd
          simp only [sIs_nil, sIs_cons, sI_lit, lset_zero, lset_succ, hd1, hd5, cond_true]
          rw [Hc.out] at hrow1
          refine wpListIn_append_where _ rfl (.tmp 28) (.tmp 32) 43 rfl (W.heap.size + 1) 3 i0 _ 1 8 Tryd.underlying43 hi0 hz0 hz1 hz2 rfl (by decide) _ _ _ rfl hrow1 ⟨tb, 0, none⟩ 1 1 [.int .i64 r] rfl rfl ?c1 ?c2 ?c3 ?c4 ?c5 ?_
          case c1 =>
            intro j u hu
            have hadd : (⟨tb, 0, none⟩ : Addr).add j = ⟨tb, j, none⟩ := by unfold Addr.add; split <;> simp_all
            rw [hadd]
            rcases j with _ | j
            · simp at hu; subst hu; exact t0
            · simp at hu
          case c2 => intro u hu; simp at hu; subst hu; rfl
          case c3 => have := Hc.out; unfold maxLen; omega
          case c4 => have := Hc.out; omega
          case c5 => omega
          intro v' w3 hown3 hg3 hw3
          obtain ⟨g', cap', rfl⟩ := ownsRow_succ hown3
          refine ⟨tb, v2, some ⟨g', 0, none⟩, cap', ?_, ?_⟩
          · simp [Act.put, sIs_nil, sIs_cons, sI_lit, lset_zero, lset_succ, mark, hd1, hd5]
          have hR := HR.out
          have hkw : Keeps (fun q => (Value.slice a3 k c3).ownBlock ≠ some q) w' w3 := ⟨hg3.os, hg3.tape, hg3.output, hg3.size, fun q hlt hs => hg3.block q hlt (fun e => hs e.symm)⟩
          have hE2 := hR.st1 hd4
          have hv2 : ∀ q, v2.ownBlock = some q → (Value.slice a3 k c3).ownBlock ≠ some q := fun q e e1 => by
            rcases hR.wh hd4 with h | h
            · rw [h] at e; exact hdis.out q e1 e
            · have := h q e; have := hsvl.out q e1; omega
          have hlow : ∀ q, q < lo → (Value.slice a3 k c3).ownBlock ≠ some q := fun q hq e => by have := hsvl.out q e; omega
          have hsb' : (Value.slice a3 k c3).ownBlock ≠ some W.heap.size := fun e => by have := hsvl.out _ e; omega
          have hnew : ∀ q, q < w'.heap.size → (Value.slice a3 k c3).ownBlock ≠ some q → (Value.slice (some ⟨g', 0, none⟩) (k + 1) cap').ownBlock ≠ some q := fun q hq hne e => by
            rcases hw3 with h | h
            · rw [h] at e; exact hne e
            · rw [h] at e; cases e; omega
          refine ⟨fun _ => mark_mono _ hd1, ?_, fun _ => mark_mono _ hd5, ?_, hR.keep.trans (hkw.sub fun _ _ h => h.2.2.2), ?_, fun _ => hE2.keep hkw (hlow _ (by omega)) (hlow _ (by omega)) (hlow _ (by omega)) (fun q hq => hlow q (HP.out q hq).1) hv2 (fun q _ hq _ => hq.2.2), fun _ => hR.wh hd4, ?_, ?_, fun _ => ?_, fun _ => ⟨?_, ?_, ?_⟩, fun _ => (hR.box0 h8).keep hkw hsb', ?_⟩
          · simp [mark, hd4]
          · simp [mark]
          · simp [mark, hd4]
          · simp [mark]
          · simp [mark]
          · rw [Hc.out]; simpa [ints] using hown3
          · intro q e e2
            exact hnew q (hE2.out.lt e2).2 (hv2 q e2) e
          · rcases hw3 with h | h
            · exact Or.inl h
            · exact Or.inr fun q hq e => by rw [h] at e; cases e; omega
          · have h1 := hE2.out.sub (S' := fun q => SX S W.heap.size (.slice a3 k c3) q ∧ (Value.slice (some ⟨g', 0, none⟩) (k + 1) cap').ownBlock ≠ some q) fun q hq h => ⟨h, hnew q hq h.2.2⟩
            exact h1.keep hkw hv2 fun q _ hq _ => hq.1.2.2
          · simp [mark, h8]
        case o8 =>
          rintro b' a' w' hb hd ⟨tb, v2, a4, c4, rfl, hR⟩
          have hd6 : b' 6 = true := hd { on := 6, ground := Ground.data } (by simp) rfl
          have hd7 : b' 7 = true := hd { on := 7, ground := Ground.data } (by simp) rfl
          have hd5 := hR.ord6 hd6
          have hd4 := hR.ord5 hd5
          have hd1 := hR.ord1 hd6
          obtain ⟨_, _, f1, f2⟩ := (hR.box0 hb).two
          have HR := hid hR
          clear hR hd
          simp only [sIs_nil, sIs_cons, sI_lit, lset_zero, lset_succ, hd6, hd7, cond_true]
          gi_wp2
          have hR := HR.out
          have hkw : Keeps (fun q => q ≠ W.heap.size) w' (w'.setCell ⟨W.heap.size, 1, none⟩ (.slice a4 (k + 1) c4)) := (Keeps.refl _ _).setCell (fun _ hn => hn rfl) _
          have hE2 := hR.st1 hd4
          have hv2 : ∀ q, v2.ownBlock = some q → q ≠ W.heap.size := fun q e => by
            rcases hR.wh hd4 with h | h
            · rw [h] at e; exact (hv1l.out q e).2.2
            · have := h q e; omega
          have hrow2 := hR.row1 hd6
          obtain ⟨q1, q2, q3⟩ := hR.dis1 hd6
          refine ⟨tb, v2, a4, c4, ?_, ?_⟩
          · simp [sIs_nil, sIs_cons, sI_lit, lset_zero, lset_succ, mark, hd6, hd7]
          refine ⟨fun _ => mark_mono _ hd1, fun _ => mark_mono _ hd4, fun _ => mark_mono _ hd5, fun _ => mark_mono _ hd6, hR.keep.trans (hkw.sub fun _ _ h => h.2.2.1), ?_, fun _ => hE2.keep hkw (by omega) (by omega) (by omega) (fun q hq => by have := (HP.out q hq).1; omega) hv2 (fun q _ hq _ => hq.2.1), fun _ => hR.wh hd4, ?_, ?_, fun _ => owns_keep hrow2 hkw (fun q e => by have := (hrow2.lt q e).1; omega), fun _ => ⟨q1, q2, q3.keep hkw hv2 fun q _ hq _ => hq.1.2.1⟩, ?_, fun _ => (hR.box0 hb).set 1 _⟩
          · simp [mark, hd4]
          · simp [mark, hd6]
          · simp [mark, hd6]
          · simp [mark]
        case fin =>
          rintro b' a' w' hb ⟨tb, v2, a4, c4, rfl, hR⟩
          have e0 := hb 0 (by decide)
          have e1 := hb 1 (by decide)
          have e2 := hb 2 (by decide)
          have e3 := hb 3 (by decide)
          have e4 := hb 4 (by decide)
          have e5 := hb 5 (by decide)
          have e6 := hb 6 (by decide)
          have e7 := hb 7 (by decide)
          have hE2 := hR.st1 e4
          have hrow2 := hR.row1 e6
          obtain ⟨q1, q2, q3⟩ := hR.dis1 e6
          have hbox := hR.box1 (hb 8 (by decide))
          have hw2 := hid (hR.wh e4)
          have hkeep := hR.keep
          clear hb hR
          simp only [sIs_nil, sIs_cons, sI_lit, lset_zero, lset_succ, e0, e1, e2, e3, e4, e5, e6, e7, cond_true]
          gi_wp2
          go_roundw
          case rel =>
            refine ⟨k + 1, v2, a4, c4, by omega, by go_num, ?_, ?_, hbox, ?_, ?_, q1⟩
            · rw [Hn1.out]
              exact ⟨hE2.size, hE2.pbox, hE2.psteps, hE2.wbox, hE2.obox, q3.sub fun q _ h => ⟨h.1.1, h.1.2.1, h.2⟩⟩
            · rw [Hn2.out]; rw [Hc.out] at hrow2; exact hrow2
            · refine ⟨hkeep.os.trans hkp.os, hkeep.tape.trans hkp.tape, hkeep.output.trans hkp.output, Nat.le_trans hkp.size hkeep.size, fun q hq h => (hkeep.block q (by omega) ⟨h.1, fun e => ?_, by omega, fun e => ?_⟩).trans (hkp.block q hq h)⟩
              · rcases hwh.out with h2 | h2
                · rw [h2] at e; exact h.2 e
                · have := h2 q e; omega
              · have := hsvl.out q e; omega
            · rcases hw2.out with h | h
              · rcases hwh.out with h2 | h2
                · exact Or.inl (h.trans h2)
                · exact Or.inr fun q e => h2 q (by rw [← h]; exact e)
              · exact Or.inr fun q e => by have := h q e; omega
          case measure => simp [intOf]; omega
      · obtain rfl : k = ss[i].args.length := by omega
        have hall : trees.take ss[i].args.length = trees := List.take_of_length_le (by rw [Htl.out]; exact Nat.le_refl _)
        rw [hall] at hE1 hrow
        have hfl := flats_length trees outs.length
        have hcount : (flats trees outs.length).2.length = ss[i].args.length := by rw [flats_count, Htl.out]
        have hargl := (hok.2.2 i hil).1
        have hints := own_ints (v := .slice a3 ss[i].args.length c3) (xs := (flats trees outs.length).2) (by rw [hcount]; exact hrow) (by rw [hcount]; omega) (fun x hx => by have := flats_bound trees outs.length x hx; omega)
          (fun q => S q ∧ v1.ownBlock ≠ some q) fun q e => ⟨HS.out q (by have := (hrow.lt q e).1; omega), hdis.out q e⟩
        have hol1 : (outs ++ (flats trees outs.length).1).length = outs.length + tsizes trees := by rw [List.length_append, hfl]
        obtain ⟨nums, hnm⟩ : ∃ o, o = (flats trees outs.length).2 := ⟨_, rfl⟩
        rw [← hnm] at hints hcount
        obtain ⟨outs1, ho1⟩ : ∃ o, o = outs ++ (flats trees outs.length).1 := ⟨_, rfl⟩
        rw [← ho1] at hE1 hol1
        obtain ⟨a1, c1, rfl⟩ := hE1.out.form
        obtain ⟨f1, f1'⟩ := hE1.obox.one
        obtain ⟨f2, _, f3, _⟩ := hsb.two
        have hol1' : Hid (outs1.length = outs.length + tsizes trees) := hol1
        have hlow1 : Hid (∀ q, (Value.slice a1 outs1.length c1).ownBlock = some q → lo ≤ q ∧ q < wr.heap.size) := fun q e => hE1.out.lt e
        obtain ⟨i0, hi0, hz0, hz1, hz2⟩ := info_parts info_step
        have hsblt := hsb.lt
        have Ho1 := hid ho1
        have Hnm := hid hnm
        clear hall hfl hnm ho1 hol1 hrow
        gi_wp2_with (gi_at_builtin; refine Hid.out ?_)
        refine hid ?_
        have hk0 : Keeps All wr (wr.alloc (.cells #[.string ss[i].label, .slice a3 ss[i].args.length c3] 45)) := (Keeps.refl _ _).alloc _
        obtain ⟨vs, hvl, hown', hvi⟩ := hE1.out.keep hk0 (fun _ _ => trivial) (fun _ _ _ _ => trivial)
        have rt : IsRow (wr.alloc (.cells #[.string ss[i].label, .slice a3 ss[i].args.length c3] 45)) wr.heap.size 45 [.string ss[i].label, .slice a3 ss[i].args.length c3] := IsRow.new _ _ _
        obtain ⟨t0, t1, _, _⟩ := rt.two
        have hE2 := hE1.keep hk0 trivial trivial trivial (fun _ _ => trivial) (fun _ _ => trivial) (fun _ _ _ _ => trivial)
        have hints2 := hints.keep hk0 fun _ _ _ => trivial
        obtain ⟨W1, hW1⟩ : ∃ W1, wr.alloc (.cells #[.string ss[i].label, .slice a3 ss[i].args.length c3] 45) = W1 := ⟨_, rfl⟩
        have hW1s : W1.heap.size = wr.heap.size + 1 := by rw [← hW1]; simp
        rw [hW1] at hown' hvi t0 t1 hE2 hk0 hints2 ⊢
        have Hvi := hid hvi
        clear hvi
        refine wpListIn_append_where _ rfl (.tmp 37) (.tmp 39) 22 rfl lo 45 i0 _ 2 40 Tryd.underlying22 hi0 hz0 hz1 hz2 rfl (by decide) _ _ _ rfl hown' ⟨wr.heap.size, 0, none⟩ 1 1 [.string ss[i].label, .slice a3 ss[i].args.length c3] rfl rfl ?c1 ?c2 ?c3 ?c4 ?c5 ?_
        case c1 =>
          intro j u hu
          have hadd : (⟨wr.heap.size, 0, none⟩ : Addr).add j = ⟨wr.heap.size, j, none⟩ := by unfold Addr.add; split <;> simp_all
          rw [hadd]
          rcases j with _ | _ | j
          · simp at hu; subst hu; exact t0
          · simp at hu; subst hu; exact t1
          · simp at hu
        case c2 => intro u hu; simp at hu; rcases hu with rfl | rfl <;> rfl
        case c3 => have := hol1'.out; unfold maxLen; omega
        case c4 => have := hol1'.out; omega
        case c5 => have := hE2.size; omega
        intro v' w3 hown3 hg3 hw3
        obtain ⟨g', cap', rfl⟩ := ownsRow_succ hown3
        have hkw : Keeps (fun q => (Value.slice a1 outs1.length c1).ownBlock ≠ some q) W1 w3 := ⟨hg3.os, hg3.tape, hg3.output, hg3.size, fun q hlt hs => hg3.block q hlt (fun e => hs e.symm)⟩
        have hlow : ∀ q, q < lo → (Value.slice a1 outs1.length c1).ownBlock ≠ some q := fun q hq e => by have := hlow1.out q e; omega
        have hout3 : OwnIn S lo w3 (.slice (some ⟨g', 0, none⟩) (outs1.length + 1) cap') (outs1 ++ [⟨ss[i].label, nums⟩]) :=
          OwnIn.snoc (va := .slice a3 ss[i].args.length c3) (vs := vs) hvl (fun q h => (Hvi.out q h).sub fun _ _ h => ⟨h.1.1, h.2⟩) hints2 hown3 hg3 (by
            rcases hw3 with h | h
            · exact Or.inl h
            · exact Or.inr fun q hq => by rw [h] at hq; cases hq; omega)
        have rb3 := hE2.obox.keep hkw (hlow _ hol)
        obtain ⟨g1, g2⟩ := rb3.one
        obtain ⟨g3, _⟩ := (rb3.set 0 (.slice (some ⟨g', 0, none⟩) (outs1.length + 1) cap')).one
        simp only [Act.put, List.setIfInBounds_toArray, List.set_cons_succ, List.set_cons_zero]
        have hol2 : outs1.length ≤ 2000 := by have := hol1'.out; omega
        gi_wp2
        go_ret
        have hkb : Keeps (fun q => q ≠ ob) w3 (w3.setCell ⟨ob, 0, none⟩ (.slice (some ⟨g', 0, none⟩) (outs1.length + 1) cap')) := (Keeps.refl _ _).setCell (fun _ hn => hn rfl) _
        have hfin : outs ++ ((flats trees outs.length).1 ++ [⟨ss[i].label, (flats trees outs.length).2⟩]) = outs1 ++ [⟨ss[i].label, nums⟩] := by rw [Ho1.out, Hnm.out, List.append_assoc]
        rw [hfin]
        have hge : ∀ q, lo ≤ q → q ≠ ob := fun q h => by omega
        refine ⟨ret_int (by have := hol1'.out; omega), _, ⟨?_, ?_, ?_, ?_, rb3.set 0 _, hout3.keep hkb (fun q e => hge q (hout3.lt e).1) fun q _ h _ => hge q (HSlo.out q h)⟩, ?_, ?_⟩
        · have := hkw.size; have := hkb.size; have := hE2.size; omega
        · exact (hE2.pbox.keep hkw (hlow _ hpl.1)).keep hkb hpl.2
        · exact (hE2.psteps.keep hkw fun q _ h => hlow q (HP.out q h).1).keep hkb fun q _ h => (HP.out q h).2
        · exact (hE2.wbox.keep hkw (hlow _ hwl.1)).keep hkb hwl.2
        · have hk1 : Keeps (fun q => q ≠ ob ∧ v.ownBlock ≠ some q) W W1 := hkp.trans (hk0.sub fun _ _ _ => trivial)
          refine ⟨(hkb.os.trans hkw.os).trans hk1.os, (hkb.tape.trans hkw.tape).trans hk1.tape, (hkb.output.trans hkw.output).trans hk1.output, Nat.le_trans hk1.size (Nat.le_trans hkw.size hkb.size), fun q hq h => ?_⟩
          have hs1 := hk1.size
          have hs2 := hkw.size
          refine ((hkb.block q (by omega) h.1).trans (hkw.block q (by omega) fun e => ?_)).trans (hk1.block q hq h)
          rcases hwh.out with h2 | h2
          · rw [h2] at e; exact h.2 e
          · have := h2 q e; omega
        · rcases hw3 with h | h
          · rcases hwh.out with h2 | h2
            · exact Or.inl (h.trans h2)
            · exact Or.inr fun q e => by rw [h] at e; have := h2 q e; omega
          · exact Or.inr fun q e => by rw [h] at e; cases e; have := hkp.size; omega

end Go.Proofs.YtcbmljfgmeeadaaDoor
