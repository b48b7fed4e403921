/-
  CONTRACT: the reference's visit.
-/
import Derived.Test.YtcbmljfgmeeadaaDoorR4
import Derived.Test.YtcbmljfgmeeadaaDoorJC
namespace Go.Proofs.YtcbmljfgmeeadaaDoor
open Go.RowKit

attribute [local go_sem] Oper.semAt_some

/-- What a visit leaves. -/
def VOut (ss : List Stp) (S : Nat → Prop) (lo B nb : Nat) (sv : Value) (pre : List Nat) (sv' : Value) (w' : World) : Prop :=
  ∃ L, NowOk ss pre L ∧ IsRow w' nb 3 (ints L) ∧ OwnIn (fun q => S q ∨ B ≤ q) lo w' sv' (stepsOf ss pre) ∧ Fresh sv sv' B

theorem VOut.keep {ss : List Stp} {S T : Nat → Prop} {lo B nb : Nat} {sv sv' : Value} {pre : List Nat} {w w' : World} (h : VOut ss S lo B nb sv pre sv' w) (hk : Keeps T w w') (h1 : T nb) (h2 : ∀ q, sv.ownBlock = some q → T q) (h3 : ∀ q, S q → T q) (h4 : ∀ q, B ≤ q → T q) : VOut ss S lo B nb sv pre sv' w' := by
  obtain ⟨L, a, b, c, d⟩ := h
  refine ⟨L, a, b.keep hk h1, c.keep hk (fun q e => ?_) fun q _ h _ => h.elim (h3 q) (h4 q), d⟩
  rcases d with d | d
  · exact h2 q (d ▸ e)
  · exact h4 q (d q e)

/-- The region that visits an Arg. -/
def VsReg (n0 i k y : Nat) (ua nowv : Value) (sa aa : Addr) (xv : Value) (a2 : Option Addr) (m c2 nb : Nat) (ss : List Stp) (S1 : Nat → Prop) (lo m' : Nat) (pre' : List Nat) (T : Array Value) (W0 : World) (b : Nat → Bool) (a' : Act) (w' : World) : Prop :=
  ∃ (a3 : Option Addr) (c3 : Nat), a' = Act.mk (sIs T [(b 0, 28, .agg #[ua]), (b 1, 29, .pointer (some ⟨n0, 0, none⟩)), (b 2, 30, ua), (b 3, 31, .int .i64 (i : Int)), (b 4, 32, .pointer (some sa)), (b 5, 33, .pointer (some ⟨sa.block, sa.off + 1, none⟩)), (b 6, 34, xv), (b 7, 35, .int .i64 (k : Int)),
      (b 8, 36, .pointer (some aa)), (b 9, 37, .int .i64 (y : Int)), (b 10, 38, .agg #[.slice a2 m c2, nowv]), (b 11, 39, .agg #[.slice a3 m' c3, nowv])]) [] ∧ Keeps (fun q => (Value.slice a2 m c2).ownBlock ≠ some q ∧ q ≠ nb ∧ q ≠ n0 + 1) W0 w' ∧
    (b 11 = false → b 12 = false → Keeps All W0 w') ∧ (b 11 = true → VOut ss S1 lo W0.heap.size nb (.slice a2 m c2) pre' (.slice a3 m' c3) w') ∧
    IsRow w' (n0 + 1) 63 [bif b 12 then .slice a3 m' c3 else .slice a2 m c2, nowv] ∧ (b 12 = true → b 11 = true) ∧ (b 11 = true → b 10 = true)

/-- The region that appends an Arg's new number. -/
def VaReg (n0 i k y nb : Nat) (ua nowv : Value) (sa aa : Addr) (xv : Value) (g c : Nat) (d : Int) (xs : List Int) (T : Array Value) (W0 : World) (b : Nat → Bool) (a' : Act) (w' : World) : Prop :=
  ∃ (tb g' c' : Nat), a' = Act.mk (sIs T [(b 0, 40, .slice (some ⟨g, 0, none⟩) k c), (b 1, 41, .pointer (some ⟨n0 + 1, 1, none⟩)), (b 2, 42, nowv), (b 3, 43, .pointer (some ⟨n0, 0, none⟩)), (b 4, 44, ua), (b 5, 45, .int .i64 (i : Int)), (b 6, 46, .pointer (some sa)), (b 7, 47, .pointer (some ⟨sa.block, sa.off + 1, none⟩)),
      (b 8, 48, xv), (b 9, 49, .int .i64 (k : Int)), (b 10, 50, .pointer (some aa)), (b 11, 51, .int .i64 (y : Int)), (b 12, 52, .pointer (some ⟨nb, y, none⟩)), (b 13, 53, .int .i64 d), (b 14, 54, .slice (some ⟨tb, 0, none⟩) 1 1), (b 15, 55, .slice (some ⟨g', 0, none⟩) (k + 1) c'),
      (b 16, 7, .slice (some ⟨g', 0, none⟩) (k + 1) c')]) [] ∧ Keeps (fun q => q ≠ g) W0 w' ∧ (b 15 = false → Keeps All W0 w') ∧ (b 14 = true → b 15 = false → IsRow w' tb 3 [.int .i64 d]) ∧
    (b 15 = true → w'.ownsRow (n0 + 3) 3 1 (.slice (some ⟨g', 0, none⟩) (k + 1) c') (k + 1) (ints (xs ++ [d])) ∧ (g' = g ∨ W0.heap.size ≤ g')) ∧ (b 15 = true → b 0 = true) ∧ (b 15 = true → b 14 = true) ∧ (b 16 = true → b 15 = true)

/-- The region that appends the step itself. -/
def VtReg (n0 i : Nat) (ua nowv : Value) (sa : Addr) (lab : ByteArray) (av : Value) (a2 : Option Addr) (m c2 : Nat) (S1 : Nat → Prop) (lo : Nat) (ls : List Stp) (T : Array Value) (W0 : World) (b : Nat → Bool) (a' : Act) (w' : World) : Prop :=
  ∃ (tb g' c' : Nat), a' = Act.mk (sIs T [(b 0, 63, .pointer (some ⟨n0 + 1, 0, none⟩)), (b 1, 64, .slice a2 m c2), (b 2, 65, .pointer (some ⟨n0, 0, none⟩)), (b 3, 66, ua), (b 4, 67, .int .i64 (i : Int)), (b 5, 68, .pointer (some sa)), (b 6, 69, .pointer (some sa)), (b 7, 70, .string lab),
      (b 8, 71, av), (b 9, 72, .agg #[.string lab, av]), (b 10, 73, .slice (some ⟨tb, 0, none⟩) 1 1), (b 11, 74, .slice (some ⟨g', 0, none⟩) (m + 1) c'), (b 12, 75, .pointer (some ⟨n0 + 1, 0, none⟩))]) [] ∧ Keeps (fun q => (Value.slice a2 m c2).ownBlock ≠ some q ∧ q ≠ n0 + 1) W0 w' ∧
    (b 11 = false → Keeps All W0 w') ∧ (b 10 = true → b 11 = false → IsRow w' tb 45 [.string lab, av]) ∧
    (b 11 = true → OwnIn S1 lo w' (.slice (some ⟨g', 0, none⟩) (m + 1) c') ls ∧ Fresh (.slice a2 m c2) (.slice (some ⟨g', 0, none⟩) (m + 1) c') W0.heap.size) ∧
    IsRow w' (n0 + 1) 63 [bif b 13 then .slice (some ⟨g', 0, none⟩) (m + 1) c' else .slice a2 m c2, nowv] ∧ (b 11 = true → b 1 = true) ∧ (b 11 = true → b 10 = true) ∧ (b 13 = true → b 11 = true)

set_option maxHeartbeats 8000000 in
theorem rvisit_c (ss : List Stp) (hok : Okay ss) : ∀ (f i : Nat), i < f → i < ss.length → ∀ (sv v : Value) (pre : List Nat) (L : List Int) (nb : Nat) (S : Nat → Prop) (lo : Nat) (w : World), Vis ss pre → NowOk ss pre L →
    IsProof (fun q => sv.ownBlock ≠ some q ∧ q ≠ nb) w v ss → IsRow w nb 3 (ints L) → OwnIn S lo w sv (stepsOf ss pre) → sv.ownBlock ≠ some nb → (∀ q, S q → q ≠ nb) → lo ≤ w.heap.size →
    Calls Tryd.prog 44 #[v, .int .i64 (i : Int), .agg #[sv, .slice (some ⟨nb, 0, none⟩) ss.length ss.length]] w fun e w' => ∃ sv', e = .returned (.agg #[sv', .slice (some ⟨nb, 0, none⟩) ss.length ss.length]) ∧
      VOut ss S lo w.heap.size nb sv (trav (kidsOf ss) f i pre) sv' w' ∧ Keeps (fun q => sv.ownBlock ≠ some q ∧ q ≠ nb) w w' := by
  intro f
  induction f with
  | zero => intro i h; omega
  | succ f ih =>
    intro i hif hi sv v pre L nb S lo w hvis hnow hv hnr hown hsn hSn hlo
    obtain ⟨ua, rfl, hs⟩ := hv
    obtain ⟨al, cl, rfl⟩ := hown.form
    rw [stepsOf_length] at *
    obtain ⟨a, cap, rfl⟩ := hs.form
    obtain ⟨b, off, hab, c1, va, c2, hva⟩ : ∃ b off, a = some ⟨b, off, none⟩ ∧ w.cell? ⟨b, off + i * 2, none⟩ = some (.string ss[i].label) ∧ ∃ va, w.cell? ⟨b, off + i * 2 + 1, none⟩ = some va ∧ IsInts (fun q => (Value.slice al pre.length cl).ownBlock ≠ some q ∧ q ≠ nb) w va ss[i].args := by
      obtain ⟨_, _, he, _, h⟩ := hs
      cases he
      rcases h with ⟨h, _⟩ | ⟨b, off, h, _, hS, hc⟩
      · rw [h] at hi; simp at hi
      · obtain ⟨c1, va, c2, c3⟩ := hc i hi
        exact ⟨b, off, h, c1, va, c2, c3⟩
    subst hab
    have hSb := hs.blk hi
    have hnlt := hnr.lt
    have hlt0 := hid (fun q (e : (Value.slice al pre.length cl).ownBlock = some q) => hown.lt e)
    have hfl : ∀ j, w.heap.size ≤ j → (Value.slice al pre.length cl).ownBlock ≠ some j := fun j hj e => by have := hlt0.out _ e; omega
    have hilt : ss.length ≤ 2000 := hok.2.1
    have hpl := hvis.length
    obtain ⟨w0, hw0⟩ : ∃ w0, ((w.alloc (.cells #[.slice (some ⟨b, off, none⟩) ss.length cap] 24)).alloc (.cells #[.slice al pre.length cl, .slice (some ⟨nb, 0, none⟩) ss.length ss.length] 63)).alloc (.cells #[.slice none 0 0, .slice none 0 0] 63) = w0 := ⟨_, rfl⟩
    have hk0 : Keeps All w w0 := by rw [← hw0]; exact (((Keeps.refl _ _).alloc _).alloc _).alloc _
    have hs0 : w0.heap.size = w.heap.size + 3 := by rw [← hw0]; simp
    have rp0 : IsRow w0 w.heap.size 24 [.slice (some ⟨b, off, none⟩) ss.length cap] := by rw [← hw0]; exact ((IsRow.new _ _ _).alloc _).alloc _
    have ro0 : IsRow w0 (w.heap.size + 1) 63 [.slice al pre.length cl, .slice (some ⟨nb, 0, none⟩) ss.length ss.length] := by rw [← hw0]; exact (IsRow.newAt (by simp)).alloc _
    have rr0 : IsRow w0 (w.heap.size + 2) 63 [.slice none 0 0, .slice none 0 0] := by rw [← hw0]; exact IsRow.newAt (by simp)
    have hnr0 := hnr.keep hk0 trivial
    obtain ⟨o1, o1', o2, o2'⟩ := ro0.two
    obtain ⟨r1, r1', r2, r2'⟩ := rr0.two
    have hl0 : w.heap.size + 1 + 1 < w0.heap.size := by omega
    by_cases hmem : i ∈ pre
    · have htr : Hid (trav (kidsOf ss) (f + 1) i pre = pre) := by simp [Hid, trav, hmem]
      have d0 : w0.cell? ⟨nb, i, none⟩ = some (.int .i64 ((pre.idxOf i : Nat) : Int)) := by rw [hnr0.cell, ints_get, hnow.yes i hmem]; rfl
      have Hs0 := hid hs0
      have Hnow := hid hnow
      have Hown := hid hown
      have hidx : pre.idxOf i ≤ pre.length := List.idxOf_le_length
      clear hs0 hnow hown c1 c2 hva
      generalize pre.idxOf i = x0 at d0 hidx
      refine (callsIn_wide (n := 5)).1 ?_
      refine callsIn_of_wp Tryd.func44 rfl trivial ?_ rfl
      simp only [Tryd.ntmps44, List.size_toArray, List.length_cons, List.length_nil, Nat.reduceAdd, Nat.reduceSub, Array.replicate_succ, Array.replicate_zero, List.push_toArray, List.append_toArray, List.nil_append, List.cons_append]
      gi_wp2
      have hl1 := ro0.lt
      have rr1 : IsRow ((w0.setCell ⟨w.heap.size + 1 + 1, 0, none⟩ (.slice al pre.length cl)).setCell ⟨w.heap.size + 1 + 1, 1, none⟩ (.slice (some ⟨nb, 0, none⟩) ss.length ss.length)) (w.heap.size + 1 + 1) 63 [.slice al pre.length cl, .slice (some ⟨nb, 0, none⟩) ss.length ss.length] :=
        (rr0.set 0 (.slice al pre.length cl)).set 1 (.slice (some ⟨nb, 0, none⟩) ss.length ss.length)
      obtain ⟨q1, q3, q2, q4⟩ := rr1.two
      have hkw : ∀ S : Nat → Prop, (∀ q, S q → q ≠ w.heap.size + 2) → Keeps S w0 ((w0.setCell ⟨w.heap.size + 2, 0, none⟩ (.slice al pre.length cl)).setCell ⟨w.heap.size + 2, 1, none⟩ (.slice (some ⟨nb, 0, none⟩) ss.length ss.length)) := fun S hS =>
        ((Keeps.refl S w0).setCell (p := ⟨w.heap.size + 2, 0, none⟩) (fun _ h => hS _ h rfl) _).setCell (p := ⟨w.heap.size + 2, 1, none⟩) (fun _ h => hS _ h rfl) _
      refine bodyPost_ret (v := .agg #[.slice al pre.length cl, .slice (some ⟨nb, 0, none⟩) ss.length ss.length]) (by simp [results, Tryd.results44, go_sem, q1, q3]) rfl ⟨_, rfl, ?_, ?_⟩
      · rw [htr.out]
        refine ⟨L, Hnow.out, hnr0.keep (hkw (fun q => q ≠ w.heap.size + 2) fun _ h => h) (by omega), ?_, Or.inl rfl⟩
        refine ((Hown.out.sub fun q hq h => (show (S q ∨ w.heap.size ≤ q) ∧ q < w.heap.size from ⟨Or.inl h, hq⟩)).keep hk0 (fun _ _ => trivial) fun _ _ _ _ => trivial).keep (hkw (fun q => q ≠ w.heap.size + 2) fun _ h => h) (fun q e => ?_) (fun q _ h _ => by omega) |>.sub fun q _ h => h.1
        have := hlt0.out q e
        omega
      · exact (hk0.upto (hkw (fun q => q ≠ w.heap.size + 2) fun _ h => h) fun q hq => by omega).sub fun _ _ _ => trivial
    · have hend := hid (visit_end (f := f) (pre := pre) hi hmem)
      have hkl := kidsOf_lt hi
      have hkn : Hid ((kidsOf ss i).length = ss[i].args.length) := by rw [Hid, hkl]; simp
      have d0 : w0.cell? ⟨nb, i, none⟩ = some (.int .i64 (-1)) := by rw [hnr0.cell, ints_get, hnow.no i hi hmem]; rfl
      have hrange := hid ((hok.2.2 i hi).2)
      have hal : ss[i].args.length ≤ 40 := (hok.2.2 i hi).1
      have hkg : Hid (∀ k (h : k < ss[i].args.length), (kidsOf ss i)[k]? = some ss[i].args[k].toNat) := by
        intro k h
        rw [hkl]; simp [h]
      generalize hxs : ss[i].args = xs at *
      generalize hlab : ss[i].label = lab at *
      obtain ⟨xa, xc, rfl⟩ := hva.form
      obtain ⟨w1, hw1⟩ : ∃ w1, w0.alloc (.cells #[] 3) = w1 := ⟨_, rfl⟩
      have hk1 : Keeps All w0 w1 := by rw [← hw1]; exact (Keeps.refl _ _).alloc _
      have hs1 : w1.heap.size = w.heap.size + 4 := by rw [← hw1]; simp [hs0]
      have ra1 : w1.ownsRow (w.heap.size + 3) 3 1 (.slice (some ⟨w.heap.size + 3, 0, none⟩) 0 0) 0 (ints []) := by
        have h := owns_none_int w0 (w.heap.size + 3) (by omega)
        rw [hs0] at h
        rw [← hw1]; exact h
      have hop1 : OwnIn (fun q => (S q ∨ w.heap.size ≤ q) ∧ q ≠ w.heap.size + 3 ∧ (q < w.heap.size ∨ w.heap.size + 3 ≤ q)) lo w1 (.slice al pre.length cl) (stepsOf ss pre) :=
        (hown.sub fun q hq hS => (show (S q ∨ w.heap.size ≤ q) ∧ q ≠ w.heap.size + 3 ∧ (q < w.heap.size ∨ w.heap.size + 3 ≤ q) from ⟨Or.inl hS, by omega, by omega⟩)).keep (hk0.trans hk1) (fun _ _ => trivial) fun _ _ _ _ => trivial
      have Hs := hid hs
      have Hva := hid hva
      have Hop := hid hop1
      have Hra := hid ra1
      have Hs0 := hid hs0
      have Hs1 := hid hs1
      have Hc1 := hid c1
      have Hc2 := hid c2
      have Hnow := hid hnow
      have Hxs := hid hxs
      have Hlab := hid hlab
      have Hkl := hid hkl
      have HSn := hid hSn
      have rp1 := rp0.keep hk1 trivial
      have ro1 := ro0.keep hk1 trivial
      have rr1 := rr0.keep hk1 trivial
      have rn1 := hnr0.keep hk1 trivial
      have hk01 := hk0.trans hk1
      clear hs hva hop1 ra1 hs0 hs1 c1 c2 hnow hown hxs hlab hkl hSn r1 r1' r2 r2'
      refine (callsIn_wide (n := 5)).1 ?_
      refine callsIn_of_wp Tryd.func44 rfl trivial ?_ rfl
      simp only [Tryd.ntmps44, List.size_toArray, List.length_cons, List.length_nil, Nat.reduceAdd, Nat.reduceSub, Array.replicate_succ, Array.replicate_zero, List.push_toArray, List.append_toArray, List.nil_append, List.cons_append]
      gi_wp2
      gi_loopw [7, 8] (fun av kv wr => ∃ (k : Nat) (a2 : Option Addr) (m c2 g c : Nat) (L : List Int), k ≤ xs.length ∧ kv = .int .i64 k ∧ av = .slice (some ⟨g, 0, none⟩) k c ∧ Hid (m = (preAt ss f i k pre).length) ∧
        Keeps (fun q => (Value.slice al pre.length cl).ownBlock ≠ some q ∧ q ≠ nb) w wr ∧ w.heap.size + 4 ≤ wr.heap.size ∧ IsRow wr w.heap.size 24 [.slice (some ⟨b, off, none⟩) ss.length cap] ∧ IsRow wr (w.heap.size + 1) 63 [.slice a2 m c2, .slice (some ⟨nb, 0, none⟩) ss.length ss.length] ∧
        IsRow wr (w.heap.size + 2) 63 [.slice none 0 0, .slice none 0 0] ∧ IsRow wr nb 3 (ints L) ∧ Hid (NowOk ss (preAt ss f i k pre) L) ∧
        OwnIn (fun q => (S q ∨ w.heap.size ≤ q) ∧ q ≠ g ∧ (q < w.heap.size ∨ w.heap.size + 3 ≤ q)) lo wr (.slice a2 m c2) (stepsOf ss (preAt ss f i k pre)) ∧ wr.ownsRow (w.heap.size + 3) 3 1 (.slice (some ⟨g, 0, none⟩) k c) k (ints (argsAt ss f i k pre)) ∧
        Hid ((Value.slice a2 m c2).ownBlock ≠ some g) ∧ Hid (Fresh (.slice al pre.length cl) (.slice a2 m c2) (w.heap.size + 4))) (fun _ kv _ => xs.length - (intOf kv).toNat)
      case atStart =>
        exact ⟨0, al, pre.length, cl, w.heap.size + 3, 0, L, Nat.zero_le _, rfl, by rw [Hs0.out], by simp [Hid, preAt_zero], hk01.sub fun _ _ _ => trivial, Nat.le_of_eq Hs1.out.symm, rp1, ro1, rr1, rn1, by rw [preAt_zero]; exact Hnow, by rw [preAt_zero]; exact Hop.out, by rw [argsAt_zero]; exact Hra.out, hfl _ (by omega), Or.inl rfl⟩
      case round =>
        obtain ⟨k, a2, m, c2, g, c, L2, hk, rfl, rfl, hm, hkw, hsz, hrp, hro, hrr, hrn, hnk, hol, hoa, hne, hfr⟩ := hrel
        clear rp1 ro1 rr1 rn1 o1 o1' o2 o2' d0
        obtain ⟨d1, _⟩ := hrp.one
        have d2 : wr.cell? ⟨b, off + i * 2 + 1, none⟩ = some (.slice xa xs.length xc) := hkw.cell (p := ⟨b, off + i * 2 + 1, none⟩) hSb.2 Hc2.out
        by_cases hlt : k < xs.length
        · have hva2 : IsInts All wr (.slice xa xs.length xc) xs := Hva.out.move hkw fun q _ h => ⟨h, trivial⟩
          obtain ⟨b2, off2, rfl, d3⟩ := hva2.at hlt
          have hSx := (Hva.out.blk hlt)
          have hr := hrange.out xs[k] (List.getElem_mem hlt)
          obtain ⟨y, hy⟩ : ∃ y : Nat, xs[k] = (y : Int) := ⟨xs[k].toNat, by omega⟩
          have hyi : y < i := by omega
          have hkk : k < (kidsOf ss i).length := by rw [hkn.out]; exact hlt
          have hky : Hid ((kidsOf ss i)[k] = y) := by
            have h := hkg.out k hlt
            rw [hy, List.getElem?_eq_getElem hkk] at h
            exact (Option.some.inj h).trans (Int.toNat_natCast y)
          have hps : Hid (preAt ss f i (k + 1) pre = trav (kidsOf ss) f y (preAt ss f i k pre)) := by rw [Hid, preAt_succ hkk, hky.out]
          have has : Hid (argsAt ss f i (k + 1) pre = argsAt ss f i k pre ++ [(((preAt ss f i (k + 1) pre).idxOf y : Nat) : Int)]) := by rw [Hid, argsAt_succ hok (by omega) hkk, hky.out]
          have hvk := preAt_vis hok hvis (show i ≤ f by omega) hi k
          have hvk1 := preAt_vis hok hvis (show i ≤ f by omega) hi (k + 1)
          have hym : y ∈ preAt ss f i (k + 1) pre := preAt_mem hok (by omega) (by rw [List.take_succ_eq_append_getElem hkk, hky.out]; simp)
          have hm2 : m ≤ 2000 := by rw [hm.out]; have := hvk.length; omega
          have hasl := hid (argsAt_length (ss := ss) (f := f) (i := i) (k := k) (pre := pre) (by omega))
          rw [hy] at d3
          clear hy hr hky hkk hva2
          generalize hpk : preAt ss f i k pre = pk at *
          generalize hpk1 : preAt ss f i (k + 1) pre = pk1 at *
          generalize has0 : argsAt ss f i k pre = asq at *
          have Hpk := hid hpk
          have Hpk1 := hid hpk1
          have Has0 := hid has0
          obtain ⟨m', hm'⟩ : ∃ m', pk1.length = m' := ⟨_, rfl⟩
          have Hm' := hid hm'
          have hm2' : m' ≤ 2000 := by rw [← hm']; have := hvk1.length; omega
          obtain ⟨d, hd⟩ : ∃ d, pk1.idxOf y = d := ⟨_, rfl⟩
          have Hd := hid hd
          obtain ⟨S1, hS1⟩ : ∃ S1 : Nat → Prop, (fun q => (S q ∨ w.heap.size ≤ q) ∧ q ≠ g ∧ (q < w.heap.size ∨ w.heap.size + 3 ≤ q)) = S1 := ⟨_, rfl⟩
          have HS1 := hid hS1
          rw [hS1] at hol
          have hga := hoa.lt g rfl
          have hnb : ∀ q, q < w.heap.size + 4 → (Value.slice al pre.length cl).ownBlock ≠ some q → (Value.slice a2 m c2).ownBlock ≠ some q := fun q hq h e => by
            rcases hfr.out with h' | h'
            · rw [h'] at e; exact h e
            · have := h' q e; omega
          have hnbp := hnb w.heap.size (by omega) (hfl _ (Nat.le_refl _))
          have hnbo := hnb (w.heap.size + 1) (by omega) (hfl _ (by omega))
          have hnbr := hnb (w.heap.size + 2) (by omega) (hfl _ (by omega))
          have hnbb := hnb b (by omega) hSb.2.1
          have hnbx := hnb b2 (by omega) hSx.2.1
          have hnbn := hnb nb (by omega) hsn
          have hS1n : Hid (∀ q, S1 q → q ≠ nb ∧ q ≠ g ∧ q ≠ w.heap.size ∧ q ≠ w.heap.size + 1 ∧ q ≠ w.heap.size + 2) := by
            rw [← hS1]
            rintro q ⟨h1, h2, h3⟩
            refine ⟨?_, h2, by omega, by omega, by omega⟩
            rcases h1 with h1 | h1
            · exact HSn.out q h1
            · omega
          have hgb : g ≠ b ∧ g ≠ b2 ∧ g ≠ nb ∧ g ≠ w.heap.size ∧ g ≠ w.heap.size + 1 ∧ g ≠ w.heap.size + 2 := ⟨by omega, by omega, by omega, by omega, by omega, by omega⟩
          have hpp : ∀ W, Keeps (fun q => (Value.slice a2 m c2).ownBlock ≠ some q ∧ q ≠ nb ∧ q ≠ w.heap.size + 1) wr W → IsProof (fun q => (Value.slice a2 m c2).ownBlock ≠ some q ∧ q ≠ nb) W (.agg #[.slice (some ⟨b, off, none⟩) ss.length cap]) ss := fun W hW =>
            ⟨_, rfl, (Hs.out.move hkw fun q hq h => ⟨h, (show ((Value.slice a2 m c2).ownBlock ≠ some q ∧ q ≠ nb) ∧ q < w.heap.size from ⟨⟨hnb q (by omega) h.1, h.2⟩, hq⟩)⟩).move hW fun q _ h => ⟨⟨h.1.1, h.1.2, by omega⟩, h.1⟩⟩
          have Hpp := hid hpp
          have hSbl := hSb.1
          have hSxl := hSx.1
          have Hoa := hid hoa
          have Hnb := hid hnb
          clear hpk hpk1 has0 hm' hd hS1 hpp hnb hoa
          gi_wp2
          refine wpIn_region_inv (VsReg w.heap.size i k y (.slice (some ⟨b, off, none⟩) ss.length cap) (.slice (some ⟨nb, 0, none⟩) ss.length ss.length) ⟨b, off + i * 2, none⟩ ⟨b2, off2 + k, none⟩ (.slice (some ⟨b2, off2, none⟩) xs.length xc) a2 m c2 nb ss S1 lo m' pk1) mixed (by kernel_rfl) ?start ⟨?o0, ?o1, ?o2, ?o3, ?o4, ?o5, ?o6, ?o7, ?o8, ?o9, ?o10, ?o11, ?o12, trivial⟩ ?fin
          case start =>
            refine ⟨none, 0, by simp only [sIs_nil, sIs_cons, sI_false], (Keeps.refl _ _).drew, fun _ _ => (Keeps.refl _ _).drew, ?_, hro, ?_, ?_⟩
            all_goals (intro h; cases h)
          case o0 =>
            rintro b' a' w' hb hd ⟨a3, c3, rfl, hk, hea, hres, hbox, h1211, h1110⟩
            have g0 : w'.cell? ⟨w.heap.size, 0, none⟩ = some (.slice (some ⟨b, off, none⟩) ss.length cap) := hk.cell (p := ⟨w.heap.size, 0, none⟩) ⟨hnbp, by show w.heap.size ≠ nb; omega, by show w.heap.size ≠ _; omega⟩ d1
            simp only [sIs_nil, sIs_cons, sI_lit, lset_zero, lset_succ]
            gi_wp2
            refine ⟨a3, c3, by simp [sIs_nil, sIs_cons, sI_lit, lset_zero, lset_succ, mark], hk, ?_, ?_, ?_, ?_, ?_⟩
            all_goals (simp only [mark, if_false, Nat.reduceEqDiff]; assumption)
          case o1 =>
            rintro b' a' w' hb hd ⟨a3, c3, rfl, hk, hea, hres, hbox, h1211, h1110⟩
            simp only [sIs_nil, sIs_cons, sI_lit, lset_zero, lset_succ]
            gi_wp2
            refine ⟨a3, c3, by simp [sIs_nil, sIs_cons, sI_lit, lset_zero, lset_succ, mark], hk, ?_, ?_, ?_, ?_, ?_⟩
            all_goals (simp only [mark, if_false, Nat.reduceEqDiff]; assumption)
          case o2 =>
            rintro b' a' w' hb hd ⟨a3, c3, rfl, hk, hea, hres, hbox, h1211, h1110⟩
            simp [Region.binds] at hd
            have g0 : w'.cell? ⟨w.heap.size, 0, none⟩ = some (.slice (some ⟨b, off, none⟩) ss.length cap) := hk.cell (p := ⟨w.heap.size, 0, none⟩) ⟨hnbp, by show w.heap.size ≠ nb; omega, by show w.heap.size ≠ _; omega⟩ d1
            simp only [sIs_nil, sIs_cons, sI_lit, lset_zero, lset_succ, hd, cond_true]
            gi_wp2
            refine ⟨a3, c3, by simp [sIs_nil, sIs_cons, sI_lit, lset_zero, lset_succ, mark, hd], hk, ?_, ?_, ?_, ?_, ?_⟩
            all_goals (simp only [mark, if_false, Nat.reduceEqDiff]; assumption)
          case o3 =>
            rintro b' a' w' hb hd ⟨a3, c3, rfl, hk, hea, hres, hbox, h1211, h1110⟩
            simp only [sIs_nil, sIs_cons, sI_lit, lset_zero, lset_succ]
            gi_wp2
            refine ⟨a3, c3, by simp [sIs_nil, sIs_cons, sI_lit, lset_zero, lset_succ, mark], hk, ?_, ?_, ?_, ?_, ?_⟩
            all_goals (simp only [mark, if_false, Nat.reduceEqDiff]; assumption)
          case o4 =>
            rintro b' a' w' hb hd ⟨a3, c3, rfl, hk, hea, hres, hbox, h1211, h1110⟩
            simp [Region.binds] at hd
            simp only [sIs_nil, sIs_cons, sI_lit, lset_zero, lset_succ, hd, cond_true]
            gi_wp2
            refine ⟨a3, c3, by simp [sIs_nil, sIs_cons, sI_lit, lset_zero, lset_succ, mark, hd], hk, ?_, ?_, ?_, ?_, ?_⟩
            all_goals (simp only [mark, if_false, Nat.reduceEqDiff]; assumption)
          case o5 =>
            rintro b' a' w' hb hd ⟨a3, c3, rfl, hk, hea, hres, hbox, h1211, h1110⟩
            simp [Region.binds] at hd
            simp only [sIs_nil, sIs_cons, sI_lit, lset_zero, lset_succ, hd, cond_true]
            gi_wp2
            refine ⟨a3, c3, by simp [sIs_nil, sIs_cons, sI_lit, lset_zero, lset_succ, mark, hd], hk, ?_, ?_, ?_, ?_, ?_⟩
            all_goals (simp only [mark, if_false, Nat.reduceEqDiff]; assumption)
          case o6 =>
            rintro b' a' w' hb hd ⟨a3, c3, rfl, hk, hea, hres, hbox, h1211, h1110⟩
            simp [Region.binds] at hd
            have g0 : w'.cell? ⟨b, off + i * 2 + 1, none⟩ = some (.slice (some ⟨b2, off2, none⟩) xs.length xc) := hk.cell (p := ⟨b, off + i * 2 + 1, none⟩) ⟨hnbb, hSb.2.2, by show b ≠ _; omega⟩ d2
            simp only [sIs_nil, sIs_cons, sI_lit, lset_zero, lset_succ, hd, cond_true]
            gi_wp2
            refine ⟨a3, c3, by simp [sIs_nil, sIs_cons, sI_lit, lset_zero, lset_succ, mark, hd], hk, ?_, ?_, ?_, ?_, ?_⟩
            all_goals (simp only [mark, if_false, Nat.reduceEqDiff]; assumption)
          case o7 =>
            rintro b' a' w' hb hd ⟨a3, c3, rfl, hk, hea, hres, hbox, h1211, h1110⟩
            simp only [sIs_nil, sIs_cons, sI_lit, lset_zero, lset_succ]
            gi_wp2
            refine ⟨a3, c3, by simp [sIs_nil, sIs_cons, sI_lit, lset_zero, lset_succ, mark], hk, ?_, ?_, ?_, ?_, ?_⟩
            all_goals (simp only [mark, if_false, Nat.reduceEqDiff]; assumption)
          case o8 =>
            rintro b' a' w' hb hd ⟨a3, c3, rfl, hk, hea, hres, hbox, h1211, h1110⟩
            simp [Region.binds] at hd
            simp only [sIs_nil, sIs_cons, sI_lit, lset_zero, lset_succ, hd, cond_true]
            gi_wp2
            refine ⟨a3, c3, by simp [sIs_nil, sIs_cons, sI_lit, lset_zero, lset_succ, mark, hd], hk, ?_, ?_, ?_, ?_, ?_⟩
            all_goals (simp only [mark, if_false, Nat.reduceEqDiff]; assumption)
          case o9 =>
            rintro b' a' w' hb hd ⟨a3, c3, rfl, hk, hea, hres, hbox, h1211, h1110⟩
            simp [Region.binds] at hd
            have g0 : w'.cell? ⟨b2, off2 + k, none⟩ = some (.int .i64 (y : Int)) := hk.cell (p := ⟨b2, off2 + k, none⟩) ⟨hnbx, hSx.2.2, by show b2 ≠ _; omega⟩ d3
            simp only [sIs_nil, sIs_cons, sI_lit, lset_zero, lset_succ, hd, cond_true]
            gi_wp2
            refine ⟨a3, c3, by simp [sIs_nil, sIs_cons, sI_lit, lset_zero, lset_succ, mark, hd], hk, ?_, ?_, ?_, ?_, ?_⟩
            all_goals (simp only [mark, if_false, Nat.reduceEqDiff]; assumption)
          case o10 =>
            rintro b' a' w' hb hd ⟨a3, c3, rfl, hk, hea, hres, hbox, h1211, h1110⟩
            have n11 : b' 11 = false := by
              cases h : b' 11 with
              | false => rfl
              | true => rw [h1110 h] at hb; cases hb
            have n12 : b' 12 = false := by
              cases h : b' 12 with
              | false => rfl
              | true => rw [h1211 h] at n11; cases n11
            have hbx := hbox
            rw [n12, cond_false] at hbx
            obtain ⟨g1, _, g2, _⟩ := hbx.two
            simp only [sIs_nil, sIs_cons, sI_lit, lset_zero, lset_succ, n11, cond_false]
            gi_wp2
            refine ⟨a3, c3, by simp [sIs_nil, sIs_cons, sI_lit, lset_zero, lset_succ, mark, n11], hk, ?_, ?_, ?_, ?_, fun _ => mark_self _ _⟩
            all_goals (simp only [mark, if_false, Nat.reduceEqDiff]; assumption)
          case o11 =>
            rintro b' a' w' hb hd ⟨a3, c3, rfl, hk, hea, hres, hbox, h1211, h1110⟩
            have e10 : b' 10 = true := hd { on := 10, ground := Ground.data } (by simp) rfl
            simp [Region.binds] at hd
            have n12 : b' 12 = false := by
              cases h : b' 12 with
              | false => rfl
              | true => rw [h1211 h] at hb; cases hb
            have hka := hea hb n12
            have hcall := ih y (by omega) (by omega) (.slice a2 m c2) (.agg #[.slice (some ⟨b, off, none⟩) ss.length cap]) pk L2 nb S1 lo w' hvk hnk.out (Hpp.out w' hk) (hrn.keep hka trivial) (hol.keep hka (fun _ _ => trivial) fun _ _ _ _ => trivial) hnbn (fun q h => (hS1n.out q h).1) (by have := hka.size; omega)
            rw [← hps.out] at hcall
            simp only [sIs_nil, sIs_cons, sI_lit, lset_zero, lset_succ, hd, cond_true]
            gi_wp2
            refine ⟨trivial, ?_⟩
            refine (callsIn_wide.2 hcall).mono ?_
            clear hcall
            rintro e w3 ⟨v', rfl, hov, hk3⟩
            obtain ⟨a3', c3', rfl⟩ : ∃ a c, v' = .slice a m' c := by
              obtain ⟨L3, _, _, h, _⟩ := hov
              have hf := h.form
              rwa [stepsOf_length, Hm'.out] at hf
            have Hov := hid hov
            clear hov
            gi_wp2
            refine ⟨a3', c3', by simp [sIs_nil, sIs_cons, sI_lit, lset_zero, lset_succ, mark, hd], hk.trans (hk3.sub fun q _ h => ⟨h.1, h.2.1⟩), ?_, fun _ => ?_, ?_, ?_, fun _ => mark_mono _ e10⟩
            · simp [mark]
            · obtain ⟨L3, q1, q2, q3, q4⟩ := Hov.out
              exact ⟨L3, q1, q2, q3.sub fun q _ h => h.imp id fun h => Nat.le_trans hka.size h, q4.imp id fun h q e => Nat.le_trans hka.size (h q e)⟩
            · simp only [mark, if_false, Nat.reduceEqDiff, n12, cond_false] at hbox ⊢
              exact hbox.keep hk3 ⟨hnbo, by omega⟩
            · simp [mark, n12]
          case o12 =>
            rintro b' a' w' hb hd ⟨a3, c3, rfl, hk, hea, hres, hbox, h1211, h1110⟩
            simp [Region.binds] at hd
            have e11 := hd.1
            have hbx := hbox
            rw [hb, cond_false] at hbx
            obtain ⟨g1, g1', g2, g2'⟩ := hbx.two
            have hov := hres e11
            simp only [sIs_nil, sIs_cons, sI_lit, lset_zero, lset_succ, hd, cond_true]
            gi_wp2
            have hkB : ∀ S : Nat → Prop, (∀ q, S q → q ≠ w.heap.size + 1) → Keeps S w' ((w'.setCell ⟨w.heap.size + 1, 0, none⟩ (.slice a3 m' c3)).setCell ⟨w.heap.size + 1, 1, none⟩ (.slice (some ⟨nb, 0, none⟩) ss.length ss.length)) := fun S hS =>
              ((Keeps.refl S w').setCell (p := ⟨w.heap.size + 1, 0, none⟩) (fun _ h => hS _ h rfl) _).setCell (p := ⟨w.heap.size + 1, 1, none⟩) (fun _ h => hS _ h rfl) _
            refine ⟨a3, c3, by simp [sIs_nil, sIs_cons, sI_lit, lset_zero, lset_succ, mark, hd], hk.trans (hkB _ fun q h => h.2.2), ?_, fun _ => ?_, ?_, fun _ => mark_mono _ e11, ?_⟩
            · simp [mark]
            · exact hov.keep (hkB (fun q => q ≠ w.heap.size + 1) fun _ h => h) (by omega) (fun q e => by intro e2; subst e2; exact hnbo e) (fun q h => (hS1n.out q h).2.2.2.1) (fun q h => by omega)
            · simp only [mark, if_true, cond_true]
              exact (hbx.set 0 _).set 1 _
            · simp only [mark, if_false, Nat.reduceEqDiff]; assumption
          case fin =>
            rintro b' a' w' hb ⟨a3, c3, rfl, hk, -, hres, hbox, -, -⟩
            have e0 := hb 0 (by decide)
            have e1 := hb 1 (by decide)
            have e2 := hb 2 (by decide)
            have e3 := hb 3 (by decide)
            have e4 := hb 4 (by decide)
            have e5 := hb 5 (by decide)
            have e6 := hb 6 (by decide)
            have e7 := hb 7 (by decide)
            have e8 := hb 8 (by decide)
            have e9 := hb 9 (by decide)
            have e10 := hb 10 (by decide)
            have e11 := hb 11 (by decide)
            have e12 := hb 12 (by decide)
            clear hb
            simp only [sIs_nil, sIs_cons, sI_lit, lset_zero, lset_succ, e0, e1, e2, e3, e4, e5, e6, e7, e8, e9, e10, e11, cond_true]
            rw [e12, cond_true] at hbox
            obtain ⟨L3, hnk3, hrn3, hol3, hfr3⟩ := hres e11
            clear hres e0 e1 e2 e3 e4 e5 e6 e7 e8 e9 e10 e11 e12
            have hszw : wr.heap.size ≤ w'.heap.size := hk.size
            have hrp7 := hrp.keep hk ⟨hnbp, by omega, by omega⟩
            have hrr7 := hrr.keep hk ⟨hnbr, by omega, by omega⟩
            have hoa7 := owns_keep Hoa.out hk fun q e => by cases e; exact ⟨hne.out, hgb.2.2.1, hgb.2.2.2.2.1⟩
            have d2' : w'.cell? ⟨b, off + i * 2 + 1, none⟩ = some (.slice (some ⟨b2, off2, none⟩) xs.length xc) := hk.cell (p := ⟨b, off + i * 2 + 1, none⟩) ⟨hnbb, hSb.2.2, by show b ≠ _; omega⟩ d2
            have d3' : w'.cell? ⟨b2, off2 + k, none⟩ = some (.int .i64 (y : Int)) := hk.cell (p := ⟨b2, off2 + k, none⟩) ⟨hnbx, hSx.2.2, by show b2 ≠ _; omega⟩ d3
            have d5' : w'.cell? ⟨nb, y, none⟩ = some (.int .i64 (d : Int)) := by rw [hrn3.cell, ints_get, hnk3.yes y hym, Hd.out]; rfl
            have hkw7 : Keeps (fun q => (Value.slice al pre.length cl).ownBlock ≠ some q ∧ q ≠ nb) w w' := hkw.trans2 hk fun q hq h => ⟨Hnb.out q (by omega) h.1, h.2, by omega⟩
            have hne7 : (Value.slice a3 m' c3).ownBlock ≠ some g := fun e => by
              rcases hfr3 with h | h
              · rw [h] at e; exact hne.out e
              · have := h g e; omega
            have hfr7 : Fresh (.slice al pre.length cl) (.slice a3 m' c3) (w.heap.size + 4) := by
              rcases hfr3 with h | h
              · rcases hfr.out with h' | h'
                · exact Or.inl (h.trans h')
                · exact Or.inr fun q e => h' q (h ▸ e)
              · exact Or.inr fun q e => by have := h q e; omega
            rw [← HS1.out] at hol3
            have Hol3 := hid hol3
            have Hne7 := hid hne7
            have Hfr7 := hid hfr7
            have Hoa7 := hid hoa7
            have hyl : y < ss.length := by omega
            have hgl : g < w'.heap.size := by omega
            clear hol3 hne7 hfr7 hfr3 hoa7 d1 d2 d3 hk
            gi_wp2
            refine wpIn_region_inv (VaReg w.heap.size i k y nb (.slice (some ⟨b, off, none⟩) ss.length cap) (.slice (some ⟨nb, 0, none⟩) ss.length ss.length) ⟨b, off + i * 2, none⟩ ⟨b2, off2 + k, none⟩ (.slice (some ⟨b2, off2, none⟩) xs.length xc) g c (d : Int) asq) mixed (by kernel_rfl) ?start ⟨?o0, ?o1, ?o2, ?o3, ?o4, ?o5, ?o6, ?o7, ?o8, ?o9, ?o10, ?o11, ?o12, ?o13, ?o14, ?o15, ?o16, trivial⟩ ?fin
            case start =>
              refine ⟨0, 0, 0, by simp only [sIs_nil, sIs_cons, sI_false], (Keeps.refl _ _).drew, fun _ => (Keeps.refl _ _).drew, ?_, ?_, ?_, ?_, ?_⟩
              all_goals (intro h; cases h)
            case o0 =>
              rintro b' a' w8 hb hd ⟨tb, g2, c4, rfl, hk8, hea8, htm8, hout8, h150, h1514, h1615⟩
              have n15 : b' 15 = false := by
                cases h : b' 15 with
                | false => rfl
                | true => rw [h150 h] at hb; cases hb
              have n16 : b' 16 = false := by
                cases h : b' 16 with
                | false => rfl
                | true => rw [h1615 h] at n15; cases n15
              simp only [sIs_nil, sIs_cons, sI_lit, lset_zero, lset_succ, n16, cond_false]
              gi_wp2
              refine ⟨tb, g2, c4, by simp [sIs_nil, sIs_cons, sI_lit, lset_zero, lset_succ, mark, n15, n16], hk8, ?_, ?_, ?_, fun _ => mark_self _ _, ?_, ?_⟩
              all_goals (simp only [mark, if_false, Nat.reduceEqDiff]; assumption)
            case o1 =>
              rintro b' a' w8 hb hd ⟨tb, g2, c4, rfl, hk8, hea8, htm8, hout8, h150, h1514, h1615⟩
              simp only [sIs_nil, sIs_cons, sI_lit, lset_zero, lset_succ]
              gi_wp2
              refine ⟨tb, g2, c4, by simp [sIs_nil, sIs_cons, sI_lit, lset_zero, lset_succ, mark], hk8, ?_, ?_, ?_, ?_, ?_, ?_⟩
              all_goals (simp only [mark, if_false, Nat.reduceEqDiff]; assumption)
            case o2 =>
              rintro b' a' w8 hb hd ⟨tb, g2, c4, rfl, hk8, hea8, htm8, hout8, h150, h1514, h1615⟩
              simp [Region.binds] at hd
              have g0 : w8.cell? ⟨w.heap.size + 1, 1, none⟩ = some (.slice (some ⟨nb, 0, none⟩) ss.length ss.length) := hk8.cell (p := ⟨w.heap.size + 1, 1, none⟩) (by show w.heap.size + 1 ≠ g; omega) (hbox.cell 1)
              simp only [sIs_nil, sIs_cons, sI_lit, lset_zero, lset_succ, hd, cond_true]
              gi_wp2
              refine ⟨tb, g2, c4, by simp [sIs_nil, sIs_cons, sI_lit, lset_zero, lset_succ, mark, hd], hk8, ?_, ?_, ?_, ?_, ?_, ?_⟩
              all_goals (simp only [mark, if_false, Nat.reduceEqDiff]; assumption)
            case o3 =>
              rintro b' a' w8 hb hd ⟨tb, g2, c4, rfl, hk8, hea8, htm8, hout8, h150, h1514, h1615⟩
              simp only [sIs_nil, sIs_cons, sI_lit, lset_zero, lset_succ]
              gi_wp2
              refine ⟨tb, g2, c4, by simp [sIs_nil, sIs_cons, sI_lit, lset_zero, lset_succ, mark], hk8, ?_, ?_, ?_, ?_, ?_, ?_⟩
              all_goals (simp only [mark, if_false, Nat.reduceEqDiff]; assumption)
            case o4 =>
              rintro b' a' w8 hb hd ⟨tb, g2, c4, rfl, hk8, hea8, htm8, hout8, h150, h1514, h1615⟩
              simp [Region.binds] at hd
              have g0 : w8.cell? ⟨w.heap.size, 0, none⟩ = some (.slice (some ⟨b, off, none⟩) ss.length cap) := hk8.cell (p := ⟨w.heap.size, 0, none⟩) (by show w.heap.size ≠ g; omega) (hrp7.cell 0)
              simp only [sIs_nil, sIs_cons, sI_lit, lset_zero, lset_succ, hd, cond_true]
              gi_wp2
              refine ⟨tb, g2, c4, by simp [sIs_nil, sIs_cons, sI_lit, lset_zero, lset_succ, mark, hd], hk8, ?_, ?_, ?_, ?_, ?_, ?_⟩
              all_goals (simp only [mark, if_false, Nat.reduceEqDiff]; assumption)
            case o5 =>
              rintro b' a' w8 hb hd ⟨tb, g2, c4, rfl, hk8, hea8, htm8, hout8, h150, h1514, h1615⟩
              simp only [sIs_nil, sIs_cons, sI_lit, lset_zero, lset_succ]
              gi_wp2
              refine ⟨tb, g2, c4, by simp [sIs_nil, sIs_cons, sI_lit, lset_zero, lset_succ, mark], hk8, ?_, ?_, ?_, ?_, ?_, ?_⟩
              all_goals (simp only [mark, if_false, Nat.reduceEqDiff]; assumption)
            case o6 =>
              rintro b' a' w8 hb hd ⟨tb, g2, c4, rfl, hk8, hea8, htm8, hout8, h150, h1514, h1615⟩
              simp [Region.binds] at hd
              simp only [sIs_nil, sIs_cons, sI_lit, lset_zero, lset_succ, hd, cond_true]
              gi_wp2
              refine ⟨tb, g2, c4, by simp [sIs_nil, sIs_cons, sI_lit, lset_zero, lset_succ, mark, hd], hk8, ?_, ?_, ?_, ?_, ?_, ?_⟩
              all_goals (simp only [mark, if_false, Nat.reduceEqDiff]; assumption)
            case o7 =>
              rintro b' a' w8 hb hd ⟨tb, g2, c4, rfl, hk8, hea8, htm8, hout8, h150, h1514, h1615⟩
              simp [Region.binds] at hd
              simp only [sIs_nil, sIs_cons, sI_lit, lset_zero, lset_succ, hd, cond_true]
              gi_wp2
              refine ⟨tb, g2, c4, by simp [sIs_nil, sIs_cons, sI_lit, lset_zero, lset_succ, mark, hd], hk8, ?_, ?_, ?_, ?_, ?_, ?_⟩
              all_goals (simp only [mark, if_false, Nat.reduceEqDiff]; assumption)
            case o8 =>
              rintro b' a' w8 hb hd ⟨tb, g2, c4, rfl, hk8, hea8, htm8, hout8, h150, h1514, h1615⟩
              simp [Region.binds] at hd
              have g0 : w8.cell? ⟨b, off + i * 2 + 1, none⟩ = some (.slice (some ⟨b2, off2, none⟩) xs.length xc) := hk8.cell (p := ⟨b, off + i * 2 + 1, none⟩) (by show b ≠ g; omega) d2'
              simp only [sIs_nil, sIs_cons, sI_lit, lset_zero, lset_succ, hd, cond_true]
              gi_wp2
              refine ⟨tb, g2, c4, by simp [sIs_nil, sIs_cons, sI_lit, lset_zero, lset_succ, mark, hd], hk8, ?_, ?_, ?_, ?_, ?_, ?_⟩
              all_goals (simp only [mark, if_false, Nat.reduceEqDiff]; assumption)
            case o9 =>
              rintro b' a' w8 hb hd ⟨tb, g2, c4, rfl, hk8, hea8, htm8, hout8, h150, h1514, h1615⟩
              simp only [sIs_nil, sIs_cons, sI_lit, lset_zero, lset_succ]
              gi_wp2
              refine ⟨tb, g2, c4, by simp [sIs_nil, sIs_cons, sI_lit, lset_zero, lset_succ, mark], hk8, ?_, ?_, ?_, ?_, ?_, ?_⟩
              all_goals (simp only [mark, if_false, Nat.reduceEqDiff]; assumption)
            case o10 =>
              rintro b' a' w8 hb hd ⟨tb, g2, c4, rfl, hk8, hea8, htm8, hout8, h150, h1514, h1615⟩
              simp [Region.binds] at hd
              simp only [sIs_nil, sIs_cons, sI_lit, lset_zero, lset_succ, hd, cond_true]
              gi_wp2
              refine ⟨tb, g2, c4, by simp [sIs_nil, sIs_cons, sI_lit, lset_zero, lset_succ, mark, hd], hk8, ?_, ?_, ?_, ?_, ?_, ?_⟩
              all_goals (simp only [mark, if_false, Nat.reduceEqDiff]; assumption)
            case o11 =>
              rintro b' a' w8 hb hd ⟨tb, g2, c4, rfl, hk8, hea8, htm8, hout8, h150, h1514, h1615⟩
              simp [Region.binds] at hd
              have g0 : w8.cell? ⟨b2, off2 + k, none⟩ = some (.int .i64 (y : Int)) := hk8.cell (p := ⟨b2, off2 + k, none⟩) (by show b2 ≠ g; omega) d3'
              simp only [sIs_nil, sIs_cons, sI_lit, lset_zero, lset_succ, hd, cond_true]
              gi_wp2
              refine ⟨tb, g2, c4, by simp [sIs_nil, sIs_cons, sI_lit, lset_zero, lset_succ, mark, hd], hk8, ?_, ?_, ?_, ?_, ?_, ?_⟩
              all_goals (simp only [mark, if_false, Nat.reduceEqDiff]; assumption)
            case o12 =>
              rintro b' a' w8 hb hd ⟨tb, g2, c4, rfl, hk8, hea8, htm8, hout8, h150, h1514, h1615⟩
              simp [Region.binds] at hd
              simp only [sIs_nil, sIs_cons, sI_lit, lset_zero, lset_succ, hd, cond_true]
              gi_wp2
              refine ⟨tb, g2, c4, by simp [sIs_nil, sIs_cons, sI_lit, lset_zero, lset_succ, mark, hd], hk8, ?_, ?_, ?_, ?_, ?_, ?_⟩
              all_goals (simp only [mark, if_false, Nat.reduceEqDiff]; assumption)
            case o13 =>
              rintro b' a' w8 hb hd ⟨tb, g2, c4, rfl, hk8, hea8, htm8, hout8, h150, h1514, h1615⟩
              simp [Region.binds] at hd
              have g0 : w8.cell? ⟨nb, y, none⟩ = some (.int .i64 (d : Int)) := hk8.cell (p := ⟨nb, y, none⟩) (by show nb ≠ g; omega) d5'
              simp only [sIs_nil, sIs_cons, sI_lit, lset_zero, lset_succ, hd, cond_true]
              gi_wp2
              refine ⟨tb, g2, c4, by simp [sIs_nil, sIs_cons, sI_lit, lset_zero, lset_succ, mark, hd], hk8, ?_, ?_, ?_, ?_, ?_, ?_⟩
              all_goals (simp only [mark, if_false, Nat.reduceEqDiff]; assumption)
            case o14 =>
              rintro b' a' w8 hb hd ⟨tb, g2, c4, rfl, hk8, hea8, htm8, hout8, h150, h1514, h1615⟩
              simp [Region.binds] at hd
              have n15 : b' 15 = false := by
                cases h : b' 15 with
                | false => rfl
                | true => rw [h1514 h] at hb; cases hb
              simp only [sIs_nil, sIs_cons, sI_lit, lset_zero, lset_succ, hd, cond_true]
              gi_wp2
              refine ⟨w8.heap.size, g2, c4, by simp [sIs_nil, sIs_cons, sI_lit, lset_zero, lset_succ, mark, hd, n15], hk8.alloc _, fun _ => (hea8 n15).alloc _, fun _ _ => IsRow.new _ _ _, ?_, ?_, fun _ => mark_self _ _, ?_⟩
              · simp [mark, n15]
              · simp [mark, n15]
              · simp only [mark, if_false, Nat.reduceEqDiff]; assumption
            case o15 =>
              rintro b' a' w8 hb hd ⟨tb, g2, c4, rfl, hk8, hea8, htm8, hout8, h150, h1514, h1615⟩
              have e14 : b' 14 = true := hd { on := 14, ground := Ground.data } (by simp) rfl
              have e0 : b' 0 = true := hd { on := 0, ground := Ground.data } (by simp) rfl
              simp [Region.binds] at hd
              have n16 : b' 16 = false := by
                cases h : b' 16 with
                | false => rfl
                | true => rw [h1615 h] at hb; cases hb
              have hka := hea8 hb
              have ht := htm8 e14 hb
              have ho8 := owns_keep Hoa7.out hka fun _ _ => trivial
              simp only [sIs_nil, sIs_cons, sI_lit, lset_zero, lset_succ, hd, cond_true]
              refine append_intk _ rfl (.tmp 40) (.tmp 54) rfl (w.heap.size + 3) (.slice (some ⟨g, 0, none⟩) k c) asq k hasl.out (d : Int) rfl ho8 tb rfl ht (by omega) (by have := hka.size; omega) ?_
              intro g2' c4' w9 ho' hk9 hw9
              refine ⟨tb, g2', c4', by simp [Act.put, sIs_nil, sIs_cons, sI_lit, lset_zero, lset_succ, mark, hd, n16], hk8.trans (hk9.sub fun q _ h e => h (Option.some.inj e).symm), ?_, ?_, fun _ => ⟨ho', ?_⟩, fun _ => mark_mono _ e0, fun _ => mark_mono _ e14, ?_⟩
              · simp [mark]
              · simp [mark]
              · rcases hw9 with h | h
                · exact Or.inl (Option.some.inj h)
                · exact Or.inr (h ▸ hka.size)
              · simp [mark, n16]
            case o16 =>
              rintro b' a' w8 hb hd ⟨tb, g2, c4, rfl, hk8, hea8, htm8, hout8, h150, h1514, h1615⟩
              simp [Region.binds] at hd
              simp only [sIs_nil, sIs_cons, sI_lit, lset_zero, lset_succ, hd, cond_true]
              gi_wp2
              refine ⟨tb, g2, c4, by simp [sIs_nil, sIs_cons, sI_lit, lset_zero, lset_succ, mark, hd], hk8, ?_, ?_, ?_, ?_, ?_, fun _ => mark_mono _ hd.1⟩
              all_goals (simp only [mark, if_false, Nat.reduceEqDiff]; assumption)
            case fin =>
              rintro b' a' w8 hb ⟨tb, g2, c4, rfl, hk8, -, -, hout8, -, -, -⟩
              have e0 := hb 0 (by decide)
              have e1 := hb 1 (by decide)
              have e2 := hb 2 (by decide)
              have e3 := hb 3 (by decide)
              have e4 := hb 4 (by decide)
              have e5 := hb 5 (by decide)
              have e6 := hb 6 (by decide)
              have e7 := hb 7 (by decide)
              have e8 := hb 8 (by decide)
              have e9 := hb 9 (by decide)
              have e10 := hb 10 (by decide)
              have e11 := hb 11 (by decide)
              have e12 := hb 12 (by decide)
              have e13 := hb 13 (by decide)
              have e14 := hb 14 (by decide)
              have e15 := hb 15 (by decide)
              have e16 := hb 16 (by decide)
              clear hb
              simp only [sIs_nil, sIs_cons, sI_lit, lset_zero, lset_succ, e0, e1, e2, e3, e4, e5, e6, e7, e8, e9, e10, e11, e12, e13, e14, e15, e16, cond_true]
              obtain ⟨hoa8, hg2⟩ := hout8 e15
              clear hout8 e0 e1 e2 e3 e4 e5 e6 e7 e8 e9 e10 e11 e12 e13 e14 e15 e16
              have hs8 := hk8.size
              have hol8 : OwnIn (fun q => (S q ∨ w.heap.size ≤ q) ∧ q ≠ g2 ∧ (q < w.heap.size ∨ w.heap.size + 3 ≤ q)) lo w8 (.slice a3 m' c3) (stepsOf ss pk1) := by
                have h1 := Hol3.out.sub (S' := fun q => ((S q ∨ w.heap.size ≤ q) ∧ q ≠ g2 ∧ (q < w.heap.size ∨ w.heap.size + 3 ≤ q)) ∧ q ≠ g) fun q hq h => by
                  have hqg : q ≠ g ∧ (S q ∨ w.heap.size ≤ q) ∧ (q < w.heap.size ∨ w.heap.size + 3 ≤ q) := by
                    rcases h with h | h
                    · exact ⟨h.2.1, h.1, h.2.2⟩
                    · exact ⟨by omega, Or.inr (by omega), by omega⟩
                  refine ⟨⟨hqg.2.1, ?_, hqg.2.2⟩, hqg.1⟩
                  rcases hg2 with e | e
                  · rw [e]; exact hqg.1
                  · omega
                exact (h1.keep hk8 (fun q e e2 => by subst e2; exact Hne7.out e) fun q _ h _ => h.2).sub fun q _ h => h.1
              have hne8 : (Value.slice a3 m' c3).ownBlock ≠ some g2 := fun e => by
                rcases hg2 with e2 | e2
                · rw [e2] at e; exact Hne7.out e
                · have := Hol3.out.lt e; omega
              have Hol8 := hid hol8
              have Hne8 := hid hne8
              have Hoa8 := hid hoa8
              clear hol8 hne8 hoa8
              gi_wp2
              go_roundw
              case rel =>
                refine ⟨k + 1, a3, m', c3, g2, c4, L3, by omega, by go_num, rfl, ?_, hkw7.trans2 hk8 fun q hq _ => by omega, by omega, hrp7.keep hk8 (by omega), hbox.keep hk8 (by omega), hrr7.keep hk8 (by omega), hrn3.keep hk8 (by omega), ?_, ?_, ?_, Hne8.out, Hfr7.out⟩
                · rw [Hpk1.out]; exact Hm'.out.symm
                · rw [Hpk1.out]; exact hnk3
                · rw [Hpk1.out]; exact Hol8.out
                · rw [has.out, Hd.out]; exact Hoa8.out
              case measure => simp [intOf]; omega
        · obtain rfl : k = xs.length := by omega
          obtain ⟨hend1, hend2⟩ := hend.out
          have hvk := preAt_vis hok hvis (show i ≤ f by omega) hi xs.length
          have hni := preAt_not hok (f := f) (k := xs.length) hmem
          have hkids : ∀ a ∈ kidsOf ss i, a ∈ preAt ss f i xs.length pre := fun a ha => preAt_mem hok (by omega) (by rw [List.take_of_length_le (by rw [hkn.out]; exact Nat.le_refl _)]; exact ha)
          have hst : Hid (stepsOf ss (preAt ss f i xs.length pre ++ [i]) = stepsOf ss (preAt ss f i xs.length pre) ++ [⟨lab, argsAt ss f i xs.length pre⟩]) := by
            rw [Hid, stepsOf_snoc hvk.shut hvk.lt hi hkids, hend2]
          have hm2 : m ≤ 2000 := by rw [hm.out]; have := hvk.length; omega
          have hnk2 : Hid (NowOk ss (preAt ss f i xs.length pre ++ [i]) (L2.set i (m : Int))) := by rw [Hid, hm.out]; exact hnk.out.snoc hi hni
          have d4 : wr.cell? ⟨nb, i, none⟩ = some (.int .i64 (-1)) := by rw [hrn.cell, ints_get, hnk.out.no i hi hni]; rfl
          have d4' := hrn.frozen i
          obtain ⟨o1, o2, _, _⟩ := hro.two
          have hasl := hid (argsAt_length (ss := ss) (f := f) (i := i) (k := xs.length) (pre := pre) (by rw [hkn.out]; exact Nat.le_refl _))
          have hasb := hid (argsAt_bound (k := xs.length) hok hvis (show i ≤ f by omega) hi)
          have hvE : Hid (trav (kidsOf ss) (f + 1) i pre = preAt ss f i xs.length pre ++ [i]) := hend1
          have hsl : Hid ((stepsOf ss (preAt ss f i xs.length pre)).length = m) := by rw [Hid, stepsOf_length, hm.out]
          clear hend1 hend2 hkids hni
          generalize hpk : preAt ss f i xs.length pre = pk at *
          generalize has0 : argsAt ss f i xs.length pre = asq at *
          have Hpk := hid hpk
          have Has0 := hid has0
          clear hpk has0
          obtain ⟨W0, hW0⟩ : ∃ W0, wr.setCell ⟨nb, i, none⟩ (.int .i64 (m : Int)) = W0 := ⟨_, rfl⟩
          have hkN : Keeps (fun q => q ≠ nb) wr W0 := by rw [← hW0]; exact (Keeps.refl _ _).setCell (fun _ hn => hn rfl) _
          have hsN := hkN.size
          have hga := hoa.lt g rfl
          have hnb : ∀ q, q < w.heap.size + 4 → (Value.slice al pre.length cl).ownBlock ≠ some q → (Value.slice a2 m c2).ownBlock ≠ some q := fun q hq h e => by
            rcases hfr.out with h' | h'
            · rw [h'] at e; exact h e
            · have := h' q e; omega
          have hnbp := hnb w.heap.size (by omega) (hfl _ (Nat.le_refl _))
          have hnbo := hnb (w.heap.size + 1) (by omega) (hfl _ (by omega))
          have hnbr := hnb (w.heap.size + 2) (by omega) (hfl _ (by omega))
          have hnbb := hnb b (by omega) hSb.2.1
          have hnbn := hnb nb (by omega) hsn
          have hrpN := hrp.keep hkN (by omega)
          have hroN := hro.keep hkN (by omega)
          have hrrN := hrr.keep hkN (by omega)
          have hrnN : IsRow W0 nb 3 (ints (L2.set i (m : Int))) := by rw [← hW0, ← ints_set]; exact hrn.set _ _
          have holN : OwnIn (fun q => (S q ∨ w.heap.size ≤ q) ∧ q ≠ g ∧ (q < w.heap.size ∨ w.heap.size + 3 ≤ q) ∧ q ≠ nb) lo W0 (.slice a2 m c2) (stepsOf ss pk) := by
            refine (hol.sub (S' := fun q => (S q ∨ w.heap.size ≤ q) ∧ q ≠ g ∧ (q < w.heap.size ∨ w.heap.size + 3 ≤ q) ∧ q ≠ nb) fun q hq h => ⟨h.1, h.2.1, h.2.2, ?_⟩).keep hkN (fun q e e2 => by subst e2; exact hnbn e) fun q _ h _ => h.2.2.2
            rcases h.1 with h1 | h1
            · exact HSn.out q h1
            · omega
          have hoaN := owns_keep hoa hkN fun q e => by cases e; show g ≠ nb; omega
          have d6 : wr.cell? ⟨b, off + i * 2, none⟩ = some (.string lab) := hkw.cell (p := ⟨b, off + i * 2, none⟩) hSb.2 Hc1.out
          have d6' : W0.cell? ⟨b, off + i * 2, none⟩ = some (.string lab) := hkN.cell (p := ⟨b, off + i * 2, none⟩) (by show b ≠ nb; exact hSb.2.2) d6
          have hkwN : Keeps (fun q => (Value.slice al pre.length cl).ownBlock ≠ some q ∧ q ≠ nb) w W0 := hkw.trans2 hkN fun q _ h => h.2
          have HolN := hid holN
          have HoaN := hid hoaN
          have Hnb := hid hnb
          have hSbl := hSb.1
          clear holN hoaN hol hoa hnb d6 hkw
          gi_wp2
          refine wpIn_region_inv (VtReg w.heap.size i (.slice (some ⟨b, off, none⟩) ss.length cap) (.slice (some ⟨nb, 0, none⟩) ss.length ss.length) ⟨b, off + i * 2, none⟩ lab (.slice (some ⟨g, 0, none⟩) xs.length c) a2 m c2 (fun q => (S q ∨ w.heap.size ≤ q) ∧ (q < w.heap.size ∨ w.heap.size + 3 ≤ q)) lo (stepsOf ss (pk ++ [i]))) mixed (by kernel_rfl) ?start ⟨?o0, ?o1, ?o2, ?o3, ?o4, ?o5, ?o6, ?o7, ?o8, ?o9, ?o10, ?o11, ?o12, ?o13, trivial⟩ ?fin
          case start =>
            refine ⟨0, 0, 0, by simp only [sIs_nil, sIs_cons, sI_false], (Keeps.refl _ _).drew, fun _ => (Keeps.refl _ _).drew, ?_, ?_, hroN, ?_, ?_, ?_⟩
            all_goals (intro h; cases h)
          case o0 =>
            rintro b' a' w8 hb hd ⟨tb, g2, c4, rfl, hk8, hea8, htm8, hout8, hbx8, h111, h1110, h1311⟩
            simp only [sIs_nil, sIs_cons, sI_lit, lset_zero, lset_succ]
            gi_wp2
            refine ⟨tb, g2, c4, by simp [sIs_nil, sIs_cons, sI_lit, lset_zero, lset_succ, mark], hk8, ?_, ?_, ?_, ?_, ?_, ?_, ?_⟩
            all_goals (simp only [mark, if_false, Nat.reduceEqDiff]; assumption)
          case o1 =>
            rintro b' a' w8 hb hd ⟨tb, g2, c4, rfl, hk8, hea8, htm8, hout8, hbx8, h111, h1110, h1311⟩
            simp [Region.binds] at hd
            have n11 : b' 11 = false := by
              cases h : b' 11 with
              | false => rfl
              | true => rw [h111 h] at hb; cases hb
            have n13 : b' 13 = false := by
              cases h : b' 13 with
              | false => rfl
              | true => rw [h1311 h] at n11; cases n11
            have hbx := hbx8
            rw [n13, cond_false] at hbx
            obtain ⟨g1, g3, _, _⟩ := hbx.two
            simp only [sIs_nil, sIs_cons, sI_lit, lset_zero, lset_succ, hd, cond_true]
            gi_wp2
            refine ⟨tb, g2, c4, by simp [sIs_nil, sIs_cons, sI_lit, lset_zero, lset_succ, mark, hd], hk8, ?_, ?_, ?_, ?_, fun _ => mark_self _ _, ?_, ?_⟩
            all_goals (simp only [mark, if_false, Nat.reduceEqDiff]; assumption)
          case o2 =>
            rintro b' a' w8 hb hd ⟨tb, g2, c4, rfl, hk8, hea8, htm8, hout8, hbx8, h111, h1110, h1311⟩
            simp only [sIs_nil, sIs_cons, sI_lit, lset_zero, lset_succ]
            gi_wp2
            refine ⟨tb, g2, c4, by simp [sIs_nil, sIs_cons, sI_lit, lset_zero, lset_succ, mark], hk8, ?_, ?_, ?_, ?_, ?_, ?_, ?_⟩
            all_goals (simp only [mark, if_false, Nat.reduceEqDiff]; assumption)
          case o3 =>
            rintro b' a' w8 hb hd ⟨tb, g2, c4, rfl, hk8, hea8, htm8, hout8, hbx8, h111, h1110, h1311⟩
            simp [Region.binds] at hd
            have g0 : w8.cell? ⟨w.heap.size, 0, none⟩ = some (.slice (some ⟨b, off, none⟩) ss.length cap) := hk8.cell (p := ⟨w.heap.size, 0, none⟩) ⟨hnbp, by show w.heap.size ≠ _; omega⟩ (hrpN.cell 0)
            simp only [sIs_nil, sIs_cons, sI_lit, lset_zero, lset_succ, hd, cond_true]
            gi_wp2
            refine ⟨tb, g2, c4, by simp [sIs_nil, sIs_cons, sI_lit, lset_zero, lset_succ, mark, hd], hk8, ?_, ?_, ?_, ?_, ?_, ?_, ?_⟩
            all_goals (simp only [mark, if_false, Nat.reduceEqDiff]; assumption)
          case o4 =>
            rintro b' a' w8 hb hd ⟨tb, g2, c4, rfl, hk8, hea8, htm8, hout8, hbx8, h111, h1110, h1311⟩
            simp only [sIs_nil, sIs_cons, sI_lit, lset_zero, lset_succ]
            gi_wp2
            refine ⟨tb, g2, c4, by simp [sIs_nil, sIs_cons, sI_lit, lset_zero, lset_succ, mark], hk8, ?_, ?_, ?_, ?_, ?_, ?_, ?_⟩
            all_goals (simp only [mark, if_false, Nat.reduceEqDiff]; assumption)
          case o5 =>
            rintro b' a' w8 hb hd ⟨tb, g2, c4, rfl, hk8, hea8, htm8, hout8, hbx8, h111, h1110, h1311⟩
            simp [Region.binds] at hd
            simp only [sIs_nil, sIs_cons, sI_lit, lset_zero, lset_succ, hd, cond_true]
            gi_wp2
            refine ⟨tb, g2, c4, by simp [sIs_nil, sIs_cons, sI_lit, lset_zero, lset_succ, mark, hd], hk8, ?_, ?_, ?_, ?_, ?_, ?_, ?_⟩
            all_goals (simp only [mark, if_false, Nat.reduceEqDiff]; assumption)
          case o6 =>
            rintro b' a' w8 hb hd ⟨tb, g2, c4, rfl, hk8, hea8, htm8, hout8, hbx8, h111, h1110, h1311⟩
            simp [Region.binds] at hd
            simp only [sIs_nil, sIs_cons, sI_lit, lset_zero, lset_succ, hd, cond_true]
            gi_wp2
            refine ⟨tb, g2, c4, by simp [sIs_nil, sIs_cons, sI_lit, lset_zero, lset_succ, mark, hd], hk8, ?_, ?_, ?_, ?_, ?_, ?_, ?_⟩
            all_goals (simp only [mark, if_false, Nat.reduceEqDiff]; assumption)
          case o7 =>
            rintro b' a' w8 hb hd ⟨tb, g2, c4, rfl, hk8, hea8, htm8, hout8, hbx8, h111, h1110, h1311⟩
            simp [Region.binds] at hd
            have g0 : w8.cell? ⟨b, off + i * 2, none⟩ = some (.string lab) := hk8.cell (p := ⟨b, off + i * 2, none⟩) ⟨hnbb, by show b ≠ _; omega⟩ d6'
            simp only [sIs_nil, sIs_cons, sI_lit, lset_zero, lset_succ, hd, cond_true]
            gi_wp2
            refine ⟨tb, g2, c4, by simp [sIs_nil, sIs_cons, sI_lit, lset_zero, lset_succ, mark, hd], hk8, ?_, ?_, ?_, ?_, ?_, ?_, ?_⟩
            all_goals (simp only [mark, if_false, Nat.reduceEqDiff]; assumption)
          case o8 =>
            rintro b' a' w8 hb hd ⟨tb, g2, c4, rfl, hk8, hea8, htm8, hout8, hbx8, h111, h1110, h1311⟩
            simp only [sIs_nil, sIs_cons, sI_lit, lset_zero, lset_succ]
            gi_wp2
            refine ⟨tb, g2, c4, by simp [sIs_nil, sIs_cons, sI_lit, lset_zero, lset_succ, mark], hk8, ?_, ?_, ?_, ?_, ?_, ?_, ?_⟩
            all_goals (simp only [mark, if_false, Nat.reduceEqDiff]; assumption)
          case o9 =>
            rintro b' a' w8 hb hd ⟨tb, g2, c4, rfl, hk8, hea8, htm8, hout8, hbx8, h111, h1110, h1311⟩
            simp [Region.binds] at hd
            simp only [sIs_nil, sIs_cons, sI_lit, lset_zero, lset_succ, hd, cond_true]
            gi_wp2
            refine ⟨tb, g2, c4, by simp [sIs_nil, sIs_cons, sI_lit, lset_zero, lset_succ, mark, hd], hk8, ?_, ?_, ?_, ?_, ?_, ?_, ?_⟩
            all_goals (simp only [mark, if_false, Nat.reduceEqDiff]; assumption)
          case o10 =>
            rintro b' a' w8 hb hd ⟨tb, g2, c4, rfl, hk8, hea8, htm8, hout8, hbx8, h111, h1110, h1311⟩
            simp [Region.binds] at hd
            have n11 : b' 11 = false := by
              cases h : b' 11 with
              | false => rfl
              | true => rw [h1110 h] at hb; cases hb
            simp only [sIs_nil, sIs_cons, sI_lit, lset_zero, lset_succ, hd, cond_true]
            gi_wp2
            refine ⟨w8.heap.size, g2, c4, by simp [sIs_nil, sIs_cons, sI_lit, lset_zero, lset_succ, mark, hd, n11], hk8.alloc _, fun _ => (hea8 n11).alloc _, fun _ _ => IsRow.new _ _ _, ?_, ?_, ?_, fun _ => mark_self _ _, ?_⟩
            · simp [mark, n11]
            · simp only [mark, if_false, Nat.reduceEqDiff]; exact hbx8.alloc _
            · simp [mark, n11]
            · simp only [mark, if_false, Nat.reduceEqDiff]; assumption
          case o11 =>
            rintro b' a' w8 hb hd ⟨tb, g2, c4, rfl, hk8, hea8, htm8, hout8, hbx8, h111, h1110, h1311⟩
            have e10 : b' 10 = true := hd { on := 10, ground := Ground.data } (by simp) rfl
            have e1 : b' 1 = true := hd { on := 1, ground := Ground.data } (by simp) rfl
            simp [Region.binds] at hd
            have n13 : b' 13 = false := by
              cases h : b' 13 with
              | false => rfl
              | true => rw [h1311 h] at hb; cases hb
            have hka := hea8 hb
            have ht := htm8 e10 hb
            obtain ⟨vs, hvl, ho8, hvi⟩ := (HolN.out.sub (S' := fun q => (S q ∨ w.heap.size ≤ q) ∧ (q < w.heap.size ∨ w.heap.size + 3 ≤ q)) fun q _ h => ⟨h.1, h.2.2.1⟩).keep hka (fun _ _ => trivial) fun _ _ _ _ => trivial
            have hoa8 := owns_keep HoaN.out hka fun _ _ => trivial
            rw [hsl.out] at ho8
            simp only [sIs_nil, sIs_cons, sI_lit, lset_zero, lset_succ, hd, cond_true]
            refine append_step _ rfl (.tmp 64) (.tmp 73) rfl lo (.slice a2 m c2) _ m lab (some ⟨g, 0, none⟩) xs.length c rfl ho8 tb rfl ht (by omega) (by have := hka.size; omega) ?_
            intro g2' c4' w9 ho' hk9 hw9
            refine ⟨tb, g2', c4', by simp [Act.put, sIs_nil, sIs_cons, sI_lit, lset_zero, lset_succ, mark, hd], hk8.trans (hk9.sub fun q _ h => h.1), ?_, ?_, fun _ => ⟨?_, ?_⟩, ?_, fun _ => mark_mono _ e1, fun _ => mark_mono _ e10, ?_⟩
            · simp [mark]
            · simp [mark]
            · rw [hst.out]
              refine OwnIn.snoc (S := fun q => (S q ∨ w.heap.size ≤ q) ∧ (q < w.heap.size ∨ w.heap.size + 3 ≤ q)) (va := .slice (some ⟨g, 0, none⟩) xs.length c) hvl hvi ?_ (by rw [hsl.out]; exact ho') hk9.toGrown ?_
              · have h := own_ints (xs := asq) (by rw [hasl.out]; exact hoa8) (by rw [hasl.out]; omega) (fun x hx => by have := hasb.out x hx; omega) (fun k => ((S k ∨ w.heap.size ≤ k) ∧ (k < w.heap.size ∨ w.heap.size + 3 ≤ k)) ∧ (Value.slice a2 m c2).ownBlock ≠ some k) fun q e => by cases e; exact ⟨⟨Or.inr (by show w.heap.size ≤ g; omega), Or.inr hga.1⟩, hne.out⟩
                exact h
              · rcases hw9 with h | h
                · exact Or.inl h
                · exact Or.inr fun q e => by have e2 : g2' = q := Option.some.inj e; omega
            · rcases hw9 with h | h
              · exact Or.inl h
              · exact Or.inr fun q e => by have e2 : g2' = q := Option.some.inj e; have := hka.size; omega
            · simp only [mark, if_false, Nat.reduceEqDiff, n13, cond_false] at hbx8 ⊢
              exact hbx8.keep hk9 hnbo
            · simp [mark, n13]
          case o12 =>
            rintro b' a' w8 hb hd ⟨tb, g2, c4, rfl, hk8, hea8, htm8, hout8, hbx8, h111, h1110, h1311⟩
            simp only [sIs_nil, sIs_cons, sI_lit, lset_zero, lset_succ]
            gi_wp2
            refine ⟨tb, g2, c4, by simp [sIs_nil, sIs_cons, sI_lit, lset_zero, lset_succ, mark], hk8, ?_, ?_, ?_, ?_, ?_, ?_, ?_⟩
            all_goals (simp only [mark, if_false, Nat.reduceEqDiff]; assumption)
          case o13 =>
            rintro b' a' w8 hb hd ⟨tb, g2, c4, rfl, hk8, hea8, htm8, hout8, hbx8, h111, h1110, h1311⟩
            have e11 : b' 11 = true := hd { on := 11, ground := Ground.data } (by simp) rfl
            simp [Region.binds] at hd
            have hbx := hbx8
            rw [hb, cond_false] at hbx
            obtain ⟨g1, g3, g1', g3'⟩ := hbx.two
            obtain ⟨u1, u2⟩ := hout8 e11
            simp only [sIs_nil, sIs_cons, sI_lit, lset_zero, lset_succ, hd, cond_true]
            gi_wp2
            have hkB : ∀ S : Nat → Prop, (∀ q, S q → q ≠ w.heap.size + 1) → Keeps S w8 (w8.setCell ⟨w.heap.size + 1, 0, none⟩ (.slice (some ⟨g2, 0, none⟩) (m + 1) c4)) := fun S hS => (Keeps.refl S w8).setCell (p := ⟨w.heap.size + 1, 0, none⟩) (fun _ h => hS _ h rfl) _
            refine ⟨tb, g2, c4, by simp [sIs_nil, sIs_cons, sI_lit, lset_zero, lset_succ, mark, hd], hk8.trans (hkB _ fun q h => h.2), ?_, ?_, fun _ => ⟨?_, u2⟩, ?_, ?_, ?_, fun _ => mark_mono _ e11⟩
            · simp [mark, e11]
            · simp [mark, e11]
            · refine u1.keep (hkB (fun q => q ≠ w.heap.size + 1) fun _ h => h) (fun q e e2 => ?_) fun q _ h _ => by omega
              subst e2
              rcases u2 with h | h
              · rw [h] at e; exact hnbo e
              · have := h _ e; omega
            · simp only [mark, if_true, cond_true]
              exact hbx.set 0 _
            · simp only [mark, if_false, Nat.reduceEqDiff]; assumption
            · simp only [mark, if_false, Nat.reduceEqDiff]; assumption
          case fin =>
            rintro b' a' w8 hb ⟨tb, g2, c4, rfl, hk8, -, -, hout8, hbx8, -, -, -⟩
            have e0 := hb 0 (by decide)
            have e1 := hb 1 (by decide)
            have e2 := hb 2 (by decide)
            have e3 := hb 3 (by decide)
            have e4 := hb 4 (by decide)
            have e5 := hb 5 (by decide)
            have e6 := hb 6 (by decide)
            have e7 := hb 7 (by decide)
            have e8 := hb 8 (by decide)
            have e9 := hb 9 (by decide)
            have e10 := hb 10 (by decide)
            have e11 := hb 11 (by decide)
            have e12 := hb 12 (by decide)
            have e13 := hb 13 (by decide)
            clear hb
            simp only [sIs_nil, sIs_cons, sI_lit, lset_zero, lset_succ, e0, e1, e2, e3, e4, e5, e6, e7, e8, e9, e10, e11, e12, cond_true]
            obtain ⟨hol8, hfr8⟩ := hout8 e11
            rw [e13, cond_true] at hbx8
            clear hout8 e0 e1 e2 e3 e4 e5 e6 e7 e8 e9 e10 e11 e12 e13
            obtain ⟨o3, o4, _, _⟩ := hbx8.two
            have hrr8 := hrrN.keep hk8 ⟨hnbr, by omega⟩
            obtain ⟨p1, p2, p3, p4⟩ := hrr8.two
            have hl8 := hrr8.lt
            have hrr9 : IsRow ((w8.setCell ⟨w.heap.size + 1 + 1, 0, none⟩ (.slice (some ⟨g2, 0, none⟩) (m + 1) c4)).setCell ⟨w.heap.size + 1 + 1, 1, none⟩ (.slice (some ⟨nb, 0, none⟩) ss.length ss.length)) (w.heap.size + 1 + 1) 63 [.slice (some ⟨g2, 0, none⟩) (m + 1) c4, .slice (some ⟨nb, 0, none⟩) ss.length ss.length] :=
              (hrr8.set 0 (.slice (some ⟨g2, 0, none⟩) (m + 1) c4)).set 1 (.slice (some ⟨nb, 0, none⟩) ss.length ss.length)
            obtain ⟨q1, q3, q2, q4⟩ := hrr9.two
            have Hol8 := hid hol8
            have hrn8 := hrnN.keep hk8 ⟨hnbn, by omega⟩
            have hkw8 := hkwN.trans2 hk8 fun q hq h => ⟨Hnb.out q (by omega) h.1, by omega⟩
            clear hol8
            gi_wp2
            have hkB : ∀ S : Nat → Prop, (∀ q, S q → q ≠ w.heap.size + 2) → Keeps S w8 ((w8.setCell ⟨w.heap.size + 2, 0, none⟩ (.slice (some ⟨g2, 0, none⟩) (m + 1) c4)).setCell ⟨w.heap.size + 2, 1, none⟩ (.slice (some ⟨nb, 0, none⟩) ss.length ss.length)) := fun S hS =>
              ((Keeps.refl S w8).setCell (p := ⟨w.heap.size + 2, 0, none⟩) (fun _ h => hS _ h rfl) _).setCell (p := ⟨w.heap.size + 2, 1, none⟩) (fun _ h => hS _ h rfl) _
            refine bodyPost_ret (v := .agg #[.slice (some ⟨g2, 0, none⟩) (m + 1) c4, .slice (some ⟨nb, 0, none⟩) ss.length ss.length]) (by simp [results, Tryd.results44, go_sem, q1, q3]) rfl ⟨_, rfl, ?_, ?_⟩
            · rw [hvE.out]
              refine ⟨L2.set i (m : Int), hnk2.out, hrn8.keep (hkB (fun q => q ≠ w.heap.size + 2) fun _ h => h) (by omega), ?_, ?_⟩
              · refine (Hol8.out.keep (hkB (fun q => q ≠ w.heap.size + 2) fun _ h => h) (fun q e e2 => ?_) fun q _ h _ => by omega).sub fun q _ h => h.1
                subst e2
                rcases hfr8 with h | h
                · rw [h] at e; exact hnbr e
                · have := h _ e; omega
              · rcases hfr8 with h | h
                · rcases hfr.out with h' | h'
                  · exact Or.inl (h.trans h')
                  · exact Or.inr fun q e => by have := h' q (h ▸ e); omega
                · exact Or.inr fun q e => by have := h q e; omega
            · exact hkw8.trans2 (hkB (fun q => q ≠ w.heap.size + 2) fun _ h => h) fun q hq _ => by omega

end Go.Proofs.YtcbmljfgmeeadaaDoor
