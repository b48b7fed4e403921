/-
  CONTRACT: the reference's grown.
-/
import Derived.Test.YtcbmljfgmeeadaaDoorApp
import Derived.Test.YtcbmljfgmeeadaaDoorG15
import Derived.Test.YtcbmljfgmeeadaaDoorJB
import Derived.Test.YtcbmljfgmeeadaaDoorReg
import Derived.Test.YtcbmljfgmeeadaaDoorSeq
namespace Go.Proofs.YtcbmljfgmeeadaaDoor
open Go.RowKit

attribute [local go_sem] Oper.semAt_some

theorem IsSteps.blk {S : Nat → Prop} {w : World} {b off n c : Nat} {ss : List Stp} (h : IsSteps S w (.slice (some ⟨b, off, none⟩) n c) ss) {i : Nat} (hi : i < ss.length) : b < w.heap.size ∧ S b := by
  obtain ⟨_, _, he, _, h⟩ := h
  cases he
  rcases h with ⟨h, _⟩ | ⟨b', off', h, hb, hS, _⟩
  · rw [h] at hi; simp at hi
  · cases h; exact ⟨hb, hS⟩
theorem IsInts.blk {S : Nat → Prop} {w : World} {b off n c : Nat} {xs : List Int} (h : IsInts S w (.slice (some ⟨b, off, none⟩) n c) xs) {i : Nat} (hi : i < xs.length) : b < w.heap.size ∧ S b := by
  obtain ⟨_, _, he, _, _, h⟩ := h
  cases he
  rcases h with ⟨h, _⟩ | ⟨b', off', h, hb, hS, _⟩
  · rw [h] at hi; simp at hi
  · cases h; exact ⟨hb, hS⟩

/-- What may be said of the row that comes back: it is the old one, or a new one. -/
def Fresh (old new : Value) (lo : Nat) : Prop := new.ownBlock = old.ownBlock ∨ ∀ q, new.ownBlock = some q → lo ≤ q

theorem Keeps.toGrown {v : Value} {A B : World} (h : Keeps (fun q => v.ownBlock ≠ some q) A B) : A.grownBy B v.ownBlock := ⟨h.os, h.tape, h.output, h.size, fun q hq hne => h.block q hq fun e => hne e.symm⟩
theorem Keeps.trans2 {S T : Nat → Prop} {A B C : World} (h : Keeps S A B) (k : Keeps T B C) (hs : ∀ q, q < A.heap.size → S q → T q) : Keeps S A C :=
  ⟨k.os.trans h.os, k.tape.trans h.tape, k.output.trans h.output, Nat.le_trans h.size k.size, fun i hi hS => (k.block i (Nat.lt_of_lt_of_le hi h.size) (hs i hi hS)).trans (h.block i hi hS)⟩

/-- The frame of the region that calls grown for an Arg. -/
def GwReg (n0 i k x : Nat) (ua : Value) (sa aa : Addr) (xv : Value) (lv : Value) (S1 : Nat → Prop) (lo m' : Nat) (ls : List Stp) (T : Array Value) (W0 : World) (b : Nat → Bool) (a' : Act) (w' : World) : Prop :=
  ∃ (a3 : Option Addr) (c3 : Nat), a' = Act.mk (sIs T [(b 0, 21, .agg #[ua]), (b 1, 22, .pointer (some ⟨n0, 0, none⟩)), (b 2, 23, ua), (b 3, 24, .int .i64 (i : Int)), (b 4, 25, .pointer (some sa)), (b 5, 26, .pointer (some ⟨sa.block, sa.off + 1, none⟩)), (b 6, 27, xv), (b 7, 28, .int .i64 (k : Int)),
      (b 8, 29, .pointer (some aa)), (b 9, 30, .int .i64 (x : Int)), (b 10, 31, lv), (b 11, 32, .slice a3 m' c3), (b 12, 2, .slice a3 m' c3)]) [] ∧ Keeps (fun q => lv.ownBlock ≠ some q) W0 w' ∧
    (b 11 = false → Keeps All W0 w') ∧ (b 11 = true → OwnIn (fun q => S1 q ∨ W0.heap.size ≤ q) lo w' (.slice a3 m' c3) ls ∧ Fresh lv (.slice a3 m' c3) W0.heap.size) ∧ (b 12 = true → b 11 = true) ∧ (b 11 = true → b 10 = true)

set_option maxHeartbeats 4000000 in
theorem rgrown_c (ss : List Stp) (hok : Okay ss) : ∀ (f i : Nat), i < f → i < ss.length → ∀ (lv v : Value) (pre : List Stp) (S : Nat → Prop) (lo : Nat) (w : World), IsProof (fun q => lv.ownBlock ≠ some q) w v ss → OwnIn S lo w lv pre → lo ≤ w.heap.size →
    pre.length + tsize (treeAt ss i) ≤ 2000 →
    Calls Tryd.prog 49 #[v, .int .i64 (i : Int), lv] w fun e w' => ∃ v', e = .returned v' ∧ OwnIn (fun q => S q ∨ w.heap.size ≤ q) lo w' v' (pre ++ flat (treeAt ss i) pre.length) ∧ Keeps (fun q => lv.ownBlock ≠ some q) w w' ∧ Fresh lv v' w.heap.size := by
  intro f
  induction f with
  | zero => intro i h; omega
  | succ f ih =>
    intro i hif hi lv v pre S lo w hv hown hlo hsz
    obtain ⟨ua, rfl, hs⟩ := hv
    obtain ⟨al, cl, rfl⟩ := hown.form
    obtain ⟨a, cap, rfl⟩ := hs.form
    obtain ⟨b, off, hab, c1, va, c2, hva⟩ : ∃ b off, a = some ⟨b, off, none⟩ ∧ w.cell? ⟨b, off + i * 2, none⟩ = some (.string ss[i].label) ∧ ∃ va, w.cell? ⟨b, off + i * 2 + 1, none⟩ = some va ∧ IsInts (fun q => (Value.slice al pre.length cl).ownBlock ≠ some q) w va ss[i].args := by
      obtain ⟨_, _, he, _, h⟩ := hs
      cases he
      rcases h with ⟨h, _⟩ | ⟨b, off, h, _, hS, hc⟩
      · rw [h] at hi; simp at hi
      · obtain ⟨c1, va, c2, c3⟩ := hc i hi
        exact ⟨b, off, h, c1, va, c2, c3⟩
    have hSb : (Value.slice al pre.length cl).ownBlock ≠ some b := by
      obtain ⟨_, _, he, _, h⟩ := hs
      cases he
      subst hab
      rcases h with ⟨h, _⟩ | ⟨b', off', h, _, hS, _⟩
      · rw [h] at hi; simp at hi
      · cases h; exact hS
    subst hab
    have hlt0 := hid (fun q (e : (Value.slice al pre.length cl).ownBlock = some q) => hown.lt e)
    have hnode := hid (hok.treeAt hi)
    have hrange := hid ((hok.2.2 i hi).2)
    have hlab : Hid (ss[i].label = ss[i].label) := rfl
    obtain ⟨kids, hkids⟩ : ∃ kids, (ss[i].args.map fun a => treeAt ss a.toNat) = kids := ⟨_, rfl⟩
    rw [hkids] at hnode
    have hkl : kids.length = ss[i].args.length := by rw [← hkids]; simp
    have hkg : Hid (∀ k (h : k < ss[i].args.length), kids[k]? = some (treeAt ss ss[i].args[k].toNat)) := by
      intro k h
      rw [← hkids]; simp [h]
    have hts : Hid (pre.length + tsizes kids + 1 ≤ 2000) := by
      have h := hsz
      rw [hnode.out] at h
      simpa [Hid, tsize, Nat.add_assoc] using h
    have hal : ss[i].args.length ≤ 40 := (hok.2.2 i hi).1
    have hilt : ss.length ≤ 2000 := hok.2.1
    generalize hxs : ss[i].args = xs at *
    generalize ss[i].label = lab at *
    obtain ⟨xa, xc, rfl⟩ := hva.form
    obtain ⟨w0, hw0⟩ : ∃ w0, (w.alloc (.cells #[.slice (some ⟨b, off, none⟩) ss.length cap] 24)).alloc (.cells #[] 3) = w0 := ⟨_, rfl⟩
    have hk0 : Keeps All w w0 := by rw [← hw0]; exact ((Keeps.refl _ _).alloc _).alloc _
    have hs0 : w0.heap.size = w.heap.size + 2 := by rw [← hw0]; simp
    have rp0 : IsRow w0 w.heap.size 24 [.slice (some ⟨b, off, none⟩) ss.length cap] := by rw [← hw0]; exact (IsRow.new _ _ _).alloc _
    have ra0 : w0.ownsRow (w.heap.size + 1) 3 1 (.slice (some ⟨w.heap.size + 1, 0, none⟩) 0 0) 0 (ints []) := by
      have h := owns_none_int (w.alloc (.cells #[.slice (some ⟨b, off, none⟩) ss.length cap] 24)) (w.heap.size + 1) (by simp)
      rw [World.size_alloc] at h
      rw [← hw0]; exact h
    have ho0 : OwnIn (fun q => (S q ∨ w.heap.size ≤ q) ∧ q ≠ w.heap.size + 1) lo w0 (.slice al pre.length cl) pre := (hown.sub fun q hq hS => (show (S q ∨ w.heap.size ≤ q) ∧ q ≠ w.heap.size + 1 from ⟨Or.inl hS, by omega⟩)).keep hk0 (fun _ _ => trivial) fun _ _ _ _ => trivial
    have Hs := hid hs
    have Hva := hid hva
    have Ho0 := hid ho0
    have Ra0 := hid ra0
    have Hs0 := hid hs0
    have Hxs := hid hxs
    have Hkids := hid hkids
    have Hkl := hid hkl
    have Hc1 := hid c1
    have Hc2 := hid c2
    have hfl : (Value.slice al pre.length cl).ownBlock ≠ some w.heap.size ∧ (Value.slice al pre.length cl).ownBlock ≠ some (w.heap.size + 1) := ⟨fun e => by have := hlt0.out _ e; omega, fun e => by have := hlt0.out _ e; omega⟩
    have Hfl := hid hfl
    clear hs hva hown ho0 ra0 hs0 hxs hkids hkl c1 c2 hfl hsz
    refine (callsIn_wide (n := 5)).1 ?_
    refine callsIn_of_wp Tryd.func49 rfl trivial ?_ rfl
    simp only [Tryd.ntmps49, List.size_toArray, List.length_cons, List.length_nil, Nat.reduceAdd, Nat.reduceSub, Array.replicate_succ, Array.replicate_zero, List.push_toArray, List.append_toArray, List.nil_append, List.cons_append]
    gi_wp2
    gi_loopw [2, 7, 8] (fun lv av kv wr => ∃ (k : Nat) (a2 : Option Addr) (m c2 g c : Nat), k ≤ xs.length ∧ kv = .int .i64 k ∧ lv = .slice a2 m c2 ∧ av = .slice (some ⟨g, 0, none⟩) k c ∧ Hid (m = pre.length + (flats (kids.take k) pre.length).1.length) ∧
      Keeps (fun q => (Value.slice al pre.length cl).ownBlock ≠ some q) w wr ∧ w.heap.size + 2 ≤ wr.heap.size ∧ IsRow wr w.heap.size 24 [.slice (some ⟨b, off, none⟩) ss.length cap] ∧
      OwnIn (fun q => (S q ∨ w.heap.size ≤ q) ∧ q ≠ g) lo wr (.slice a2 m c2) (pre ++ (flats (kids.take k) pre.length).1) ∧ wr.ownsRow (w.heap.size + 1) 3 1 (.slice (some ⟨g, 0, none⟩) k c) k (ints (flats (kids.take k) pre.length).2) ∧
      Hid ((Value.slice a2 m c2).ownBlock ≠ some g) ∧ Hid (Fresh (.slice al pre.length cl) (.slice a2 m c2) (w.heap.size + 2))) (fun _ _ kv _ => xs.length - (intOf kv).toNat)
    case atStart =>
      exact ⟨0, al, pre.length, cl, w.heap.size + 1, 0, Nat.zero_le _, rfl, rfl, rfl, by simp [Hid, flats], hk0.sub fun _ _ _ => trivial, Nat.le_of_eq Hs0.out.symm, rp0, by simpa [flats] using Ho0.out, by simpa [flats] using Ra0.out, Hfl.out.2, Or.inl rfl⟩
    case round =>
      obtain ⟨k, a2, m, c2, g, c, hk, rfl, rfl, rfl, hm, hkw, hsz, hrp, hol, hoa, hne, hfr⟩ := hrel
      obtain ⟨d1, _⟩ := hrp.one
      have d2 : wr.cell? ⟨b, off + i * 2 + 1, none⟩ = some (.slice xa xs.length xc) := hkw.cell (p := ⟨b, off + i * 2 + 1, none⟩) hSb Hc2.out
      by_cases hlt : k < xs.length
      · have hva2 : IsInts All wr (.slice xa xs.length xc) xs := Hva.out.move hkw fun q _ h => ⟨h, trivial⟩
        obtain ⟨b2, off2, rfl, d3⟩ := hva2.at hlt
        have hr := hrange.out xs[k] (List.getElem_mem hlt)
        obtain ⟨y, hy⟩ : ∃ y : Nat, xs[k] = (y : Int) := ⟨xs[k].toNat, by omega⟩
        have hyi : y < i := by omega
        have hkid : Hid (kids[k]? = some (treeAt ss y)) := by
          have h := hkg.out k hlt
          rw [hy] at h
          exact h
        rw [hy] at d3
        have hkk : k < kids.length := by rw [Hkl.out]; exact hlt
        have hsnoc : Hid (flats (kids.take (k + 1)) pre.length = ((flats (kids.take k) pre.length).1 ++ flat (treeAt ss y) m, (flats (kids.take k) pre.length).2 ++ [((m + tsize (treeAt ss y) : Nat) : Int) - 1])) := by
          have h := hkid.out
          rw [List.getElem?_eq_getElem hkk] at h
          rw [Hid, List.take_succ_eq_append_getElem hkk, Option.some.inj h, flats_snoc, hm.out]
        have htsk : Hid (m + tsize (treeAt ss y) ≤ 2000) := by
          have h1 := hts.out
          have h2 : tsizes kids = tsizes (kids.take (k + 1)) + tsizes (kids.drop (k + 1)) := by rw [← tsizes_append, List.take_append_drop]
          have h3 : tsizes (kids.take (k + 1)) = tsizes (kids.take k) + tsize (treeAt ss y) := by
            have h := hkid.out
            rw [List.getElem?_eq_getElem hkk] at h
            rw [List.take_succ_eq_append_getElem hkk, Option.some.inj h, tsizes_append]; simp [tsizes]
          have h4 := hm.out
          rw [flats_length] at h4
          show _ ≤ _
          omega
        have hlen1 : (pre ++ (flats (kids.take k) pre.length).1).length = m := by rw [List.length_append, hm.out]
        have Hlen1 := hid hlen1
        have hpp : ∀ W, Keeps (fun q => (Value.slice a2 m c2).ownBlock ≠ some q) wr W → IsProof (fun q => (Value.slice a2 m c2).ownBlock ≠ some q) W (.agg #[.slice (some ⟨b, off, none⟩) ss.length cap]) ss := fun W hW => by
          have hsub : ∀ q, q < w.heap.size → (Value.slice al pre.length cl).ownBlock ≠ some q → (Value.slice a2 m c2).ownBlock ≠ some q := fun q hq h e => by
            rcases hfr.out with h' | h'
            · rw [h'] at e; exact h e
            · have := h' q e; omega
          refine ⟨_, rfl, (Hs.out.move hkw fun q hq h => ⟨h, hsub q hq h⟩).move hW fun q _ h => ⟨h, h⟩⟩
        have Hpp := hid hpp
        obtain ⟨m', hm'⟩ : ∃ m', m + tsize (treeAt ss y) = m' := ⟨_, rfl⟩
        have Hm' := hid hm'
        have hnb : ∀ q, q ≤ w.heap.size → (Value.slice al pre.length cl).ownBlock ≠ some q → (Value.slice a2 m c2).ownBlock ≠ some q := fun q hq h e => by
          rcases hfr.out with h' | h'
          · rw [h'] at e; exact h e
          · have := h' q e; omega
        have hnbp := hnb w.heap.size (Nat.le_refl _) Hfl.out.1
        have hnbb := hnb b (Nat.le_of_lt (Hs.out.blk hi).1) hSb
        have hnbx := hnb b2 (Nat.le_of_lt (Hva.out.blk hlt).1) (Hva.out.blk hlt).2
        clear hy hlen1 hpp hm' hr hkk hnb
        obtain ⟨S1, hS1⟩ : ∃ S1 : Nat → Prop, (fun q => (S q ∨ w.heap.size ≤ q) ∧ q ≠ g) = S1 := ⟨_, rfl⟩
        obtain ⟨ls, hls⟩ : ∃ ls, (pre ++ (flats (kids.take k) pre.length).1) ++ flat (treeAt ss y) m = ls := ⟨_, rfl⟩
        have HS1 := hid hS1
        have Hls := hid hls
        have hol1 : OwnIn S1 lo wr (.slice a2 m c2) (pre ++ (flats (kids.take k) pre.length).1) := by rw [← hS1]; exact hol
        clear hS1 hls
        gi_wp2
        refine wpIn_region_inv (GwReg w.heap.size i k y (.slice (some ⟨b, off, none⟩) ss.length cap) ⟨b, off + i * 2, none⟩ ⟨b2, off2 + k, none⟩ (.slice (some ⟨b2, off2, none⟩) xs.length xc) (.slice a2 m c2) S1 lo m' ls) mixed (by kernel_rfl) ?start ⟨?o0, ?o1, ?o2, ?o3, ?o4, ?o5, ?o6, ?o7, ?o8, ?o9, ?o10, ?o11, ?o12, trivial⟩ ?fin
        case start =>
          refine ⟨none, 0, by simp only [sIs_nil, sIs_cons, sI_false], (Keeps.refl _ _).drew, fun _ => (Keeps.refl _ _).drew, ?_, ?_, ?_⟩
          all_goals (intro h; cases h)
        case o0 =>
          rintro b' a' w' hb hd ⟨a3, c3, rfl, hk, hea, hres, h1211, h1110⟩
          have g0 : w'.cell? ⟨w.heap.size, 0, none⟩ = some (.slice (some ⟨b, off, none⟩) ss.length cap) := hk.cell (p := ⟨w.heap.size, 0, none⟩) hnbp d1
          simp only [sIs_nil, sIs_cons, sI_lit, lset_zero, lset_succ]
          gi_wp2
          refine ⟨a3, c3, by simp [sIs_nil, sIs_cons, sI_lit, lset_zero, lset_succ, mark], hk, ?_, ?_, ?_, ?_⟩
          all_goals (simp only [mark, if_false, Nat.reduceEqDiff]; assumption)
        case o1 =>
          rintro b' a' w' hb hd ⟨a3, c3, rfl, hk, hea, hres, h1211, h1110⟩
          simp only [sIs_nil, sIs_cons, sI_lit, lset_zero, lset_succ]
          gi_wp2
          refine ⟨a3, c3, by simp [sIs_nil, sIs_cons, sI_lit, lset_zero, lset_succ, mark], hk, ?_, ?_, ?_, ?_⟩
          all_goals (simp only [mark, if_false, Nat.reduceEqDiff]; assumption)
        case o2 =>
          rintro b' a' w' hb hd ⟨a3, c3, rfl, hk, hea, hres, h1211, h1110⟩
          simp [Region.binds] at hd
          have g0 : w'.cell? ⟨w.heap.size, 0, none⟩ = some (.slice (some ⟨b, off, none⟩) ss.length cap) := hk.cell (p := ⟨w.heap.size, 0, none⟩) hnbp d1
          simp only [sIs_nil, sIs_cons, sI_lit, lset_zero, lset_succ, hd, cond_true]
          gi_wp2
          refine ⟨a3, c3, by simp [sIs_nil, sIs_cons, sI_lit, lset_zero, lset_succ, mark, hd], hk, ?_, ?_, ?_, ?_⟩
          all_goals (simp only [mark, if_false, Nat.reduceEqDiff]; assumption)
        case o3 =>
          rintro b' a' w' hb hd ⟨a3, c3, rfl, hk, hea, hres, h1211, h1110⟩
          simp only [sIs_nil, sIs_cons, sI_lit, lset_zero, lset_succ]
          gi_wp2
          refine ⟨a3, c3, by simp [sIs_nil, sIs_cons, sI_lit, lset_zero, lset_succ, mark], hk, ?_, ?_, ?_, ?_⟩
          all_goals (simp only [mark, if_false, Nat.reduceEqDiff]; assumption)
        case o4 =>
          rintro b' a' w' hb hd ⟨a3, c3, rfl, hk, hea, hres, h1211, h1110⟩
          simp [Region.binds] at hd
          simp only [sIs_nil, sIs_cons, sI_lit, lset_zero, lset_succ, hd, cond_true]
          gi_wp2
          refine ⟨a3, c3, by simp [sIs_nil, sIs_cons, sI_lit, lset_zero, lset_succ, mark, hd], hk, ?_, ?_, ?_, ?_⟩
          all_goals (simp only [mark, if_false, Nat.reduceEqDiff]; assumption)
        case o5 =>
          rintro b' a' w' hb hd ⟨a3, c3, rfl, hk, hea, hres, h1211, h1110⟩
          simp [Region.binds] at hd
          simp only [sIs_nil, sIs_cons, sI_lit, lset_zero, lset_succ, hd, cond_true]
          gi_wp2
          refine ⟨a3, c3, by simp [sIs_nil, sIs_cons, sI_lit, lset_zero, lset_succ, mark, hd], hk, ?_, ?_, ?_, ?_⟩
          all_goals (simp only [mark, if_false, Nat.reduceEqDiff]; assumption)
        case o6 =>
          rintro b' a' w' hb hd ⟨a3, c3, rfl, hk, hea, hres, h1211, h1110⟩
          simp [Region.binds] at hd
          have g0 : w'.cell? ⟨b, off + i * 2 + 1, none⟩ = some (.slice (some ⟨b2, off2, none⟩) xs.length xc) := hk.cell (p := ⟨b, off + i * 2 + 1, none⟩) hnbb d2
          simp only [sIs_nil, sIs_cons, sI_lit, lset_zero, lset_succ, hd, cond_true]
          gi_wp2
          refine ⟨a3, c3, by simp [sIs_nil, sIs_cons, sI_lit, lset_zero, lset_succ, mark, hd], hk, ?_, ?_, ?_, ?_⟩
          all_goals (simp only [mark, if_false, Nat.reduceEqDiff]; assumption)
        case o7 =>
          rintro b' a' w' hb hd ⟨a3, c3, rfl, hk, hea, hres, h1211, h1110⟩
          simp only [sIs_nil, sIs_cons, sI_lit, lset_zero, lset_succ]
          gi_wp2
          refine ⟨a3, c3, by simp [sIs_nil, sIs_cons, sI_lit, lset_zero, lset_succ, mark], hk, ?_, ?_, ?_, ?_⟩
          all_goals (simp only [mark, if_false, Nat.reduceEqDiff]; assumption)
        case o8 =>
          rintro b' a' w' hb hd ⟨a3, c3, rfl, hk, hea, hres, h1211, h1110⟩
          simp [Region.binds] at hd
          simp only [sIs_nil, sIs_cons, sI_lit, lset_zero, lset_succ, hd, cond_true]
          gi_wp2
          refine ⟨a3, c3, by simp [sIs_nil, sIs_cons, sI_lit, lset_zero, lset_succ, mark, hd], hk, ?_, ?_, ?_, ?_⟩
          all_goals (simp only [mark, if_false, Nat.reduceEqDiff]; assumption)
        case o9 =>
          rintro b' a' w' hb hd ⟨a3, c3, rfl, hk, hea, hres, h1211, h1110⟩
          simp [Region.binds] at hd
          have g0 : w'.cell? ⟨b2, off2 + k, none⟩ = some (.int .i64 (y : Int)) := hk.cell (p := ⟨b2, off2 + k, none⟩) hnbx d3
          simp only [sIs_nil, sIs_cons, sI_lit, lset_zero, lset_succ, hd, cond_true]
          gi_wp2
          refine ⟨a3, c3, by simp [sIs_nil, sIs_cons, sI_lit, lset_zero, lset_succ, mark, hd], hk, ?_, ?_, ?_, ?_⟩
          all_goals (simp only [mark, if_false, Nat.reduceEqDiff]; assumption)
        case o10 =>
          rintro b' a' w' hb hd ⟨a3, c3, rfl, hk, hea, hres, h1211, h1110⟩
          have n11 : b' 11 = false := by
            cases h : b' 11 with
            | false => rfl
            | true => rw [h1110 h] at hb; cases hb
          have n12 : b' 12 = false := by
            cases h : b' 12 with
            | false => rfl
            | true => rw [h1211 h] at n11; cases n11
          simp only [sIs_nil, sIs_cons, sI_lit, lset_zero, lset_succ, n12, n11, cond_false]
          gi_wp2
          refine ⟨a3, c3, by simp [sIs_nil, sIs_cons, sI_lit, lset_zero, lset_succ, mark, n12, n11], hk, ?_, ?_, ?_, fun _ => mark_self _ _⟩
          all_goals (simp only [mark, if_false, Nat.reduceEqDiff]; assumption)
        case o11 =>
          rintro b' a' w' hb hd ⟨a3, c3, rfl, hk, hea, hres, h1211, h1110⟩
          have e10 : b' 10 = true := hd { on := 10, ground := Ground.data } (by simp) rfl
          simp [Region.binds] at hd
          have n12 : b' 12 = false := by
            cases h : b' 12 with
            | false => rfl
            | true => rw [h1211 h] at hb; cases hb
          have hka := hea hb
          have hcall := ih y (by omega) (by omega) (.slice a2 m c2) (.agg #[.slice (some ⟨b, off, none⟩) ss.length cap]) (pre ++ (flats (kids.take k) pre.length).1) S1 lo w' (Hpp.out w' hk) (hol1.keep hka (fun _ _ => trivial) fun _ _ _ _ => trivial) (by have := hka.size; omega) (by rw [Hlen1.out]; exact htsk.out)
          rw [Hlen1.out, Hls.out] at hcall
          simp only [sIs_nil, sIs_cons, sI_lit, lset_zero, lset_succ, hd, cond_true]
          gi_wp2
          refine ⟨trivial, ?_⟩
          refine (callsIn_wide.2 hcall).mono ?_
          clear hcall
          rintro e w3 ⟨v', rfl, hov, hk3, hfr3⟩
          obtain ⟨a3', c3', rfl⟩ := hov.form
          have hlm : ls.length = m' := by rw [← Hls.out, List.length_append, Hlen1.out, flat_length, Hm'.out]
          rw [hlm] at hov hfr3 ⊢
          have Hov := hid hov
          clear hlm hov
          gi_wp2
          refine ⟨a3', c3', by simp [sIs_nil, sIs_cons, sI_lit, lset_zero, lset_succ, mark, hd, n12], hk.trans hk3, ?_, fun _ => ⟨?_, ?_⟩, ?_, fun _ => mark_mono _ e10⟩
          · simp [mark]
          · exact Hov.out.sub fun q _ h => h.imp id fun h => Nat.le_trans hka.size h
          · exact hfr3.imp id fun h q e => Nat.le_trans hka.size (h q e)
          · simp [mark, n12]
        case o12 =>
          rintro b' a' w' hb hd ⟨a3, c3, rfl, hk, hea, hres, h1211, h1110⟩
          simp [Region.binds] at hd
          simp only [sIs_nil, sIs_cons, sI_lit, lset_zero, lset_succ, hd, cond_true]
          gi_wp2
          refine ⟨a3, c3, by simp [sIs_nil, sIs_cons, sI_lit, lset_zero, lset_succ, mark, hd], hk, ?_, ?_, fun _ => mark_mono _ hd.1, ?_⟩
          all_goals (simp only [mark, if_false, Nat.reduceEqDiff]; assumption)
        case fin =>
          rintro b' a' w' hb ⟨a3, c3, rfl, hk, -, hres, -, -⟩
          have e0 := hb 0 (by decide)
          have e1 := hb 1 (by decide)
          have e2 := hb 2 (by decide)
          have e3 := hb 3 (by decide)
          have e4 := hb 4 (by decide)
          have e5 := hb 5 (by decide)
          have e6 := hb 6 (by decide)
          have e7 := hb 7 (by decide)
          have e8 := hb 8 (by decide)
          have e9 := hb 9 (by decide)
          have e10 := hb 10 (by decide)
          have e11 := hb 11 (by decide)
          have e12 := hb 12 (by decide)
          clear hb
          simp only [sIs_nil, sIs_cons, sI_lit, lset_zero, lset_succ, e0, e1, e2, e3, e4, e5, e6, e7, e8, e9, e10, e11, e12, cond_true]
          obtain ⟨hov, hfr3⟩ := hres e11
          clear hres e0 e1 e2 e3 e4 e5 e6 e7 e8 e9 e10 e11 e12
          have hszw : wr.heap.size ≤ w'.heap.size := hk.size
          have hoa2 : w'.ownsRow (w.heap.size + 1) 3 1 (.slice (some ⟨g, 0, none⟩) k c) k (ints (flats (kids.take k) pre.length).2) := owns_keep hoa hk fun q e => by cases e; exact hne.out
          have hga := hoa.lt g rfl
          have hg0 : ∀ q, q ≤ w.heap.size → (Value.slice (some ⟨g, 0, none⟩) k c).ownBlock ≠ some q := fun q hq e => by have h := hoa.lt q e; omega
          rw [← HS1.out, ← Hls.out] at hov
          have hov2 := hov.sub (S' := fun q => (S q ∨ w.heap.size ≤ q) ∧ q ≠ g) fun q _ h => by
            rcases h with h | h
            · exact h
            · exact ⟨Or.inr (by omega), by omega⟩
          have hrp2 := hrp.keep hk hnbp
          have hne2 : (Value.slice a3 m' c3).ownBlock ≠ some g := fun e => by
            rcases hfr3 with h | h
            · rw [h] at e; exact hne.out e
            · have := h g e; omega
          have hfr2 : Fresh (.slice al pre.length cl) (.slice a3 m' c3) (w.heap.size + 2) := by
            rcases hfr3 with h | h
            · rcases hfr.out with h' | h'
              · exact Or.inl (h.trans h')
              · exact Or.inr fun q e => h' q (h ▸ e)
            · exact Or.inr fun q e => by have := h q e; omega
          have hkw2 : Keeps (fun q => (Value.slice al pre.length cl).ownBlock ≠ some q) w w' := hkw.trans2 hk fun q hq h e => by
            rcases hfr.out with h' | h'
            · rw [h'] at e; exact h e
            · have := h' q e; omega
          have Hov := hid hov2
          have Hoa := hid hoa2
          have Hne := hid hne2
          have Hfr := hid hfr2
          have hfc : Hid ((flats (kids.take k) pre.length).2.length = k) := by rw [Hid, flats_count, List.length_take]; have := Hkl.out; omega
          have h1m : 1 ≤ m' := by have := Hm'.out; have := tsize_pos (treeAt ss y); omega
          have h2m : m' ≤ 2000 := by have := Hm'.out; have := htsk.out; omega
          clear hov hoa2 hov2 hne2 hfr2 hfr3 hol hoa hk hkw hrp d1 d2 d3
          gi_wp2_with (gi_at_builtin; refine Hid.out ?_)
          refine hid ?_
          have hka : Keeps All w' (w'.alloc (.cells #[.int .i64 ((m' : Int) - 1)] 3)) := (Keeps.refl _ _).alloc _
          have ho3 : (w'.alloc (.cells #[.int .i64 ((m' : Int) - 1)] 3)).ownsRow (w.heap.size + 1) 3 1 (.slice (some ⟨g, 0, none⟩) k c) (flats (kids.take k) pre.length).2.length (ints (flats (kids.take k) pre.length).2) := by rw [hfc.out]; exact owns_keep Hoa.out hka fun _ _ => trivial
          refine append_int _ rfl (.tmp 33) (.tmp 37) rfl (w.heap.size + 1) _ (flats (kids.take k) pre.length).2 ((m' : Int) - 1) rfl ho3 w'.heap.size rfl (IsRow.new _ _ _) (by rw [hfc.out]; omega) (by simp; omega) ?_
          intro g' c' w4 ho' hk4 hw4
          have Ho' := hid ho'
          have hgw : g' = g ∨ g' = w'.heap.size + 1 := by
            rcases hw4 with h | h
            · exact Or.inl (Option.some.inj h)
            · exact Or.inr (by simpa using h)
          rw [hfc.out]
          clear ho' ho3 hw4
          simp only [Act.put, List.setIfInBounds_toArray, List.set_cons_succ, List.set_cons_zero]
          gi_wp2
          have hs4 := hk4.size
          simp at hs4
          have hov4 : OwnIn (fun q => (S q ∨ w.heap.size ≤ q) ∧ q ≠ g') lo w4 (.slice a3 m' c3) (pre ++ (flats (kids.take k) pre.length).1 ++ flat (treeAt ss y) m) := by
            have h1 := (Hov.out.keep hka (fun _ _ => trivial) fun _ _ _ _ => trivial).sub (S' := fun q => ((S q ∨ w.heap.size ≤ q) ∧ q ≠ g) ∧ q ≠ g') fun q hq h => ⟨h, by
              rcases hgw with e | e
              · rw [e]; exact h.2
              · simp at hq; omega⟩
            have h2 := h1.keep hk4 (fun q e => fun e2 => by cases e2; exact Hne.out e) (fun q _ h _ => fun e2 => by cases e2; exact h.1.2 rfl)
            exact h2.sub fun q _ h => ⟨h.1.1, h.2⟩
          go_roundw
          case rel =>
            refine ⟨k + 1, a3, m', c3, g', c', by omega, by go_num, rfl, rfl, ?_, ?_, by omega, (hrp2.keep hka trivial).keep hk4 (hg0 _ (Nat.le_refl _)), ?_, ?_, ?_, ?_⟩
            · rw [hsnoc.out, Hid, List.length_append, flat_length, ← Hm'.out, hm.out]; omega
            · exact (hkw2.trans2 hka fun _ _ _ => trivial).trans2 hk4 fun q hq _ => hg0 q (by omega)
            · have h := hov4
              rw [List.append_assoc] at h
              rw [hsnoc.out]; exact h
            · rw [hsnoc.out, Hm'.out]
              have h := Ho'.out
              rw [List.length_append, hfc.out] at h
              exact h
            · intro e
              rcases hgw with e2 | e2
              · rw [e2] at e; exact Hne.out e
              · have := Hov.out.lt e; omega
            · exact Hfr.out
          case measure => simp [intOf]; omega
      · obtain rfl : k = xs.length := by omega
        have htk : Hid (kids.take xs.length = kids) := List.take_of_length_le (by have := Hkl.out; omega)
        rw [htk.out] at hol hoa hm
        have d4 : wr.cell? ⟨b, off + i * 2, none⟩ = some (.string lab) := hkw.cell (p := ⟨b, off + i * 2, none⟩) hSb Hc1.out
        have hfc : Hid ((flats kids pre.length).2.length = xs.length) := by rw [Hid, flats_count]; exact Hkl.out
        have hmb : m ≤ 2000 := by
          have h1 := hts.out
          have h4 := hm.out
          rw [flats_length] at h4
          omega
        have hlen1 : Hid ((pre ++ (flats kids pre.length).1).length = m) := by rw [Hid, List.length_append, hm.out]
        have Hol := hid hol
        have Hoa := hid hoa
        have hne' := hne
        clear hol hoa
        gi_wp2_with (gi_at_builtin; refine Hid.out ?_)
        refine hid ?_
        have hka : Keeps All wr (wr.alloc (.cells #[.string lab, .slice (some ⟨g, 0, none⟩) xs.length c] 45)) := (Keeps.refl _ _).alloc _
        obtain ⟨vs, hvl, hown2, hvi⟩ := (Hol.out.sub (S' := fun q => S q ∨ w.heap.size ≤ q) fun q _ h => h.1).keep hka (fun _ _ => trivial) fun _ _ _ _ => trivial
        have hoa2 := owns_keep Hoa.out hka fun _ _ => trivial
        rw [hlen1.out] at hown2
        have Hvi := hid hvi
        have Hoa2 := hid hoa2
        clear hvi hoa2
        refine append_step _ rfl (.tmp 39) (.tmp 48) rfl lo (.slice a2 m c2) _ m lab (some ⟨g, 0, none⟩) xs.length c rfl hown2 wr.heap.size rfl (IsRow.new _ _ _) (by omega) (by simp; omega) ?_
        intro g' c' w4 ho' hk4 hw4
        have Ho' := hid ho'
        have Hw4 := hid hw4
        clear ho' hown2 hw4
        simp only [Act.put, List.setIfInBounds_toArray, List.set_cons_succ, List.set_cons_zero]
        gi_wp2
        go_ret
        refine ⟨_, rfl, ?_, ?_, ?_⟩
        · have hsn := OwnIn.snoc (S := fun q => S q ∨ w.heap.size ≤ q) (s := ⟨lab, (flats kids pre.length).2⟩) (va := .slice (some ⟨g, 0, none⟩) xs.length c) hvl Hvi.out ?_ (by rw [hlen1.out]; exact Ho'.out) hk4.toGrown ?_
          · rw [hnode.out, flat, ← List.append_assoc]
            exact hsn
          · rw [← hfc.out]
            refine own_ints (by rw [hfc.out]; exact Hoa2.out) (by rw [hfc.out]; omega) ?_ _ ?_
            · intro x hx
              have := flats_bound kids pre.length x hx
              have := hts.out
              omega
            · intro q e
              have h := Hoa2.out.lt q e
              cases e
              exact ⟨Or.inr (by omega), hne'.out⟩
          · rcases Hw4.out with h | h
            · exact Or.inl h
            · exact Or.inr fun q e => by cases e; rw [h]; exact Nat.le_refl _
        · refine (hkw.trans2 hka fun _ _ _ => trivial).trans2 hk4 fun q hq h e => ?_
          rcases hfr.out with h' | h'
          · rw [h'] at e; exact h e
          · have := h' q e; omega
        · rcases Hw4.out with h | h
          · rcases hfr.out with h' | h'
            · exact Or.inl (h.trans h')
            · exact Or.inr fun q e => by have := h' q (h ▸ e); omega
          · exact Or.inr fun q e => by have e2 : g' = q := Option.some.inj e; simp at h; omega

end Go.Proofs.YtcbmljfgmeeadaaDoor
