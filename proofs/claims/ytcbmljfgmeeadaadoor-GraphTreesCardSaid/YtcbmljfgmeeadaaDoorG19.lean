/-
  CONTRACT: GraphTrees.
-/
import Derived.Test.YtcbmljfgmeeadaaDoorG18
import Derived.Test.YtcbmljfgmeeadaaDoorG6
import Derived.Test.YtcbmljfgmeeadaaDoorG16
namespace Go.Proofs.YtcbmljfgmeeadaaDoor
open Go.RowKit Go.Shelf

theorem sameM_tree {ss ts : List Stp} (h1 : Okay ss) (h2 : Okay ts) (h : treeM ss = treeM ts) : sameM ss ts = true := by
  unfold sameM
  rw [(formM_zero ss).2 h1, (formM_zero ts).2 h2, share_of_tree h1 h2 h]
  simp [orM]

theorem GraphTrees_many (ss : List Stp) (v : Value) (w : World) (hv : IsProof All w v ss) (htab : Tab w) (hf : fewM ss 100 = false) :
    Calls Tryd.prog 3 #[v] w fun e w' => e = .returned (.bool true) ∧ Keeps All w w' := by
  obtain ⟨u, rfl, hs⟩ := hv
  have hk0 : Keeps All w (w.alloc (.cells #[u] 24)) := (Keeps.refl _ _).alloc _
  have hfew := Few_c ss 100 (.agg #[u]) _ ⟨u, rfl, hs.keep hk0 fun _ _ h => h⟩
  rw [hf] at hfew
  obtain ⟨a, c, rfl⟩ := hs.form
  go_enter Tryd.func3, Tryd.ntmps3
  go_wp2_with (go_at_call 6; refine Hid.out ?_)
  refine hid ?_
  refine hfew.mono ?_
  clear hfew
  rintro e w1 ⟨rfl, hk1⟩
  have haw := awake_c w1 ((htab.keep hk0).keep hk1)
  go_wp2_with (go_at_call 7; refine Hid.out ?_)
  refine hid ?_
  refine haw.mono ?_
  rintro e w2 ⟨rfl, hk2⟩
  go_wp2
  go_ret
  exact ⟨rfl, (hk0.trans hk1).trans hk2⟩

theorem GraphTrees_bad (ss : List Stp) (v : Value) (w : World) (hv : IsProof All w v ss) (htab : Tab w) (hf : fewM ss 100 = true) (hbad : formM ss ≠ 0) :
    Calls Tryd.prog 3 #[v] w fun e w' => e = .returned (.bool true) ∧ Keeps All w w' := by
  obtain ⟨u, rfl, hs⟩ := hv
  have hk0 : Keeps All w (w.alloc (.cells #[u] 24)) := (Keeps.refl _ _).alloc _
  have hfew := Few_c ss 100 (.agg #[u]) _ ⟨u, rfl, hs.keep hk0 fun _ _ h => h⟩
  rw [hf] at hfew
  have rp : IsRow (w.alloc (.cells #[u] 24)) w.heap.size 24 [u] := IsRow.new _ _ _
  obtain ⟨a, c, rfl⟩ := hs.form
  have Hbad : ∀ W, Keeps All w W → Calls Tryd.prog 8 #[.agg #[.slice a ss.length c]] W fun e w' => e = .returned (.tuple #[.agg #[.slice none 0 0], .int .i64 (formM ss)]) ∧ Keeps All W w' :=
    fun W hk => Ordered_bad ss _ W ⟨_, rfl, hs.keep hk fun _ _ h => h⟩ hbad
  generalize formM ss = e0 at Hbad hbad
  have hb2 : (e0 == 0) = false := by simpa using hbad
  have HB := hid Hbad
  have Ht := hid htab
  clear Hbad htab hs
  go_enter Tryd.func3, Tryd.ntmps3
  go_wp2_with (go_at_call 6; refine Hid.out ?_)
  refine hid ?_
  refine hfew.mono ?_
  clear hfew
  rintro e w1 ⟨rfl, hk1⟩
  have hk01 := hk0.trans hk1
  obtain ⟨c1, _⟩ := (rp.keep hk1 trivial).one
  go_wp2_with (go_at_call 8; refine Hid.out ?_)
  refine hid ?_
  refine (HB.out w1 hk01).mono ?_
  rintro e w2 ⟨rfl, hk2⟩
  have hk3 : Keeps All w2 (w2.alloc (.cells #[.slice none 0 0] 24)) := (Keeps.refl _ _).alloc _
  have haw := awake_c _ (Ht.out.keep ((hk01.trans hk2).trans hk3))
  go_wp2_with (go_at_call 7; refine Hid.out ?_)
  refine hid ?_
  refine haw.mono ?_
  rintro e w4 ⟨rfl, hk4⟩
  go_wp2
  go_ret
  exact ⟨rfl, ((hk01.trans hk2).trans hk3).trans hk4⟩

set_option maxHeartbeats 1000000 in
theorem GraphTrees_good (ss : List Stp) (v : Value) (w : World) (hv : IsProof All w v ss) (htab : Tab w) (hf : fewM ss 100 = true) (hok : Okay ss) :
    Calls Tryd.prog 3 #[v] w fun e w' => e = .returned (.bool true) ∧ Keeps All w w' := by
  obtain ⟨u, rfl, hs⟩ := hv
  have hk0 : Keeps All w (w.alloc (.cells #[u] 24)) := (Keeps.refl _ _).alloc _
  have hfew := Few_c ss 100 (.agg #[u]) _ ⟨u, rfl, hs.keep hk0 fun _ _ h => h⟩
  rw [hf] at hfew
  have rp : IsRow (w.alloc (.cells #[u] 24)) w.heap.size 24 [u] := IsRow.new _ _ _
  obtain ⟨a, c, rfl⟩ := hs.form
  have Hs := hid hs
  have Hok := hid hok
  have Ht := hid htab
  have hko := orderedM_ok hok
  have hks := shareM_okay hok
  have hto := orderedM_tree hok
  have hts := (shareM_back hok).2.2
  have Hko := hid hko
  have Hks := hid hks
  have Hto := hid hto
  have Hts := hid hts
  have hlen : (shareM ss).length ≤ (orderedM ss).length := by rw [orderedM_length]; exact shareM_length ss
  have hlo : (orderedM ss).length ≤ 2000 := hko.2.1
  have hn : Hid ((post ss).length = (orderedM ss).length) := (orderedM_length ss).symm
  have hsz := hid (sizesM_last hok)
  clear hs hok htab hko hks hto hts
  go_enter Tryd.func3, Tryd.ntmps3
  go_wp2_with (go_at_call 6; refine Hid.out ?_)
  refine hid ?_
  refine hfew.mono ?_
  clear hfew
  rintro e w1 ⟨rfl, hk1⟩
  have k1 := hk0.trans hk1
  have p1 := rp.keep hk1 trivial
  obtain ⟨c1, _⟩ := p1.one
  clear hk0 hk1 rp
  go_wp2_with (go_at_call 8; refine Hid.out ?_)
  refine hid ?_
  refine (Ordered_good ss _ w1 ⟨_, rfl, Hs.out.keep k1 fun _ _ h => h⟩ Hok.out).mono ?_
  rintro e w2 ⟨vr, rfl, ⟨ua, rfl, hsa⟩, hk2⟩
  obtain ⟨aa, ca, rfl⟩ := hsa.form
  generalize hmo : (orderedM ss).length = lo at *
  have hk3 : Keeps All w2 (w2.alloc (.cells #[.slice aa lo ca] 24)) := (Keeps.refl _ _).alloc _
  obtain ⟨w3, hw3⟩ : ∃ w3, w2.alloc (.cells #[.slice aa lo ca] 24) = w3 := ⟨_, rfl⟩
  have q3 : IsRow w3 w2.heap.size 24 [.slice aa lo ca] := by rw [← hw3]; exact IsRow.new _ _ _
  rw [hw3] at hk3
  have k3 := (k1.trans hk2).trans hk3
  have p3 := (p1.keep hk2 trivial).keep hk3 trivial
  have a3 : IsProof All w3 (.agg #[.slice aa lo ca]) (orderedM ss) := ⟨_, rfl, hsa.keep hk3 fun _ _ h => h⟩
  obtain ⟨c3, _⟩ := p3.one
  clear k1 p1 c1 hk2 hk3 hsa
  go_wp2_with (go_at_call 9; refine Hid.out ?_)
  refine hid ?_
  refine (Share_good ss _ w3 ⟨_, rfl, Hs.out.keep k3 fun _ _ h => h⟩ Hok.out (Ht.out.keep k3)).mono ?_
  rintro e w4 ⟨vr, rfl, ⟨ub, rfl, hsb⟩, hk4⟩
  obtain ⟨ab, cb, rfl⟩ := hsb.form
  generalize hms : (shareM ss).length = ls at *
  have hk5 : Keeps All w4 (w4.alloc (.cells #[.slice ab ls cb] 24)) := (Keeps.refl _ _).alloc _
  obtain ⟨w5, hw5⟩ : ∃ w5, w4.alloc (.cells #[.slice ab ls cb] 24) = w5 := ⟨_, rfl⟩
  have r5 : IsRow w5 w4.heap.size 24 [.slice ab ls cb] := by rw [← hw5]; exact IsRow.new _ _ _
  rw [hw5] at hk5
  have k5 := (k3.trans hk4).trans hk5
  have p5 := (p3.keep hk4 trivial).keep hk5 trivial
  have q5 := (q3.keep hk4 trivial).keep hk5 trivial
  have a5 := (a3.keep hk4 fun _ _ h => h).keep hk5 fun _ _ h => h
  have b5 : IsProof All w5 (.agg #[.slice ab ls cb]) (shareM ss) := ⟨_, rfl, hsb.keep hk5 fun _ _ h => h⟩
  obtain ⟨c5, _⟩ := p5.one
  clear k3 p3 q3 a3 c3 hk4 hk5 hsb
  go_wp2_with (go_at_call 10; refine Hid.out ?_)
  refine hid ?_
  refine (Size_good ss _ w5 ⟨_, rfl, Hs.out.keep k5 fun _ _ h => h⟩ Hok.out).mono ?_
  rintro e w6 ⟨rfl, hk6⟩
  rw [hsz.out, hn.out]
  have k6 := k5.trans hk6
  have p6 := p5.keep hk6 trivial
  have q6 := q5.keep hk6 trivial
  have r6 := r5.keep hk6 trivial
  have a6 := a5.keep hk6 fun _ _ h => h
  have b6 := b5.keep hk6 fun _ _ h => h
  obtain ⟨c6, _⟩ := p6.one
  obtain ⟨d6, _⟩ := q6.one
  obtain ⟨e6, _⟩ := r6.one
  clear k5 p5 q5 r5 a5 b5 c5 hk6
  generalize hm : ((min (tsize (treeM ss)) 1000000000 : Nat) : Int) = m at *
  have Hm := hid hm
  clear hm
  go_wp2_with (go_at_call 11; refine Hid.out ?_)
  refine hid ?_
  have s1 := Same_c (orderedM ss) ss (.agg #[.slice aa lo ca]) (.agg #[.slice a ss.length c]) w6 a6 ⟨_, rfl, Hs.out.keep k6 fun _ _ h => h⟩ (Ht.out.keep k6)
  rw [sameM_tree Hko.out Hok.out Hto.out] at s1
  refine s1.mono ?_
  clear s1
  rintro e w7 ⟨rfl, hk7⟩
  have k7 := k6.trans hk7
  have p7 := p6.keep hk7 trivial
  have q7 := q6.keep hk7 trivial
  have r7 := r6.keep hk7 trivial
  have a7 := a6.keep hk7 fun _ _ h => h
  have b7 := b6.keep hk7 fun _ _ h => h
  obtain ⟨c7, _⟩ := p7.one
  obtain ⟨d7, _⟩ := q7.one
  obtain ⟨e7, _⟩ := r7.one
  clear k6 p6 q6 r6 a6 b6 c6 d6 e6 hk7
  go_wp2_with (go_at_call 11; refine Hid.out ?_)
  refine hid ?_
  have s1 := Same_c (shareM ss) ss (.agg #[.slice ab ls cb]) (.agg #[.slice a ss.length c]) w7 b7 ⟨_, rfl, Hs.out.keep k7 fun _ _ h => h⟩ (Ht.out.keep k7)
  rw [sameM_tree Hks.out Hok.out Hts.out] at s1
  refine s1.mono ?_
  clear s1
  rintro e w8 ⟨rfl, hk8⟩
  have k8 := k7.trans hk8
  have p8 := p7.keep hk8 trivial
  have q8 := q7.keep hk8 trivial
  have r8 := r7.keep hk8 trivial
  have a8 := a7.keep hk8 fun _ _ h => h
  have b8 := b7.keep hk8 fun _ _ h => h
  obtain ⟨c8, _⟩ := p8.one
  obtain ⟨d8, _⟩ := q8.one
  obtain ⟨e8, _⟩ := r8.one
  clear k7 p7 q7 r7 a7 b7 c7 d7 e7 hk8
  go_wp2_with (go_at_call 8; refine Hid.out ?_)
  refine hid ?_
  refine (Ordered_good (orderedM ss) _ w8 a8 Hko.out).mono ?_
  rw [orderedM_twice Hok.out]
  rintro e w9 ⟨vr, rfl, ⟨uc, rfl, hsc⟩, hk9⟩
  obtain ⟨ac, cc, rfl⟩ := hsc.form
  simp only [hmo] at hsc ⊢
  have hk10 : Keeps All w9 (w9.alloc (.cells #[.slice ac lo cc] 24)) := (Keeps.refl _ _).alloc _
  obtain ⟨w10, hw10⟩ : ∃ w10, w9.alloc (.cells #[.slice ac lo cc] 24) = w10 := ⟨_, rfl⟩
  have s10 : IsRow w10 w9.heap.size 24 [.slice ac lo cc] := by rw [← hw10]; exact IsRow.new _ _ _
  rw [hw10] at hk10
  have hk910 := hk9.trans hk10
  have k10 := k8.trans hk910
  have p10 := p8.keep hk910 trivial
  have q10 := q8.keep hk910 trivial
  have r10 := r8.keep hk910 trivial
  have a10 := a8.keep hk910 fun _ _ h => h
  have b10 := b8.keep hk910 fun _ _ h => h
  have cc10 : IsProof All w10 (.agg #[.slice ac lo cc]) (orderedM ss) := ⟨_, rfl, hsc.keep hk10 fun _ _ h => h⟩
  obtain ⟨e10, _⟩ := r10.one
  clear k8 p8 q8 r8 a8 b8 c8 d8 e8 hk9 hk10 hk910 hsc
  go_wp2_with (go_at_call 9; refine Hid.out ?_)
  refine hid ?_
  refine (Share_good (shareM ss) _ w10 b10 Hks.out (Ht.out.keep k10)).mono ?_
  rw [share_of_tree Hks.out Hok.out Hts.out]
  rintro e w11 ⟨vr, rfl, ⟨ud, rfl, hsd⟩, hk11⟩
  obtain ⟨ad, cd, rfl⟩ := hsd.form
  simp only [hms] at hsd ⊢
  have hk12 : Keeps All w11 (w11.alloc (.cells #[.slice ad ls cd] 24)) := (Keeps.refl _ _).alloc _
  obtain ⟨w12, hw12⟩ : ∃ w12, w11.alloc (.cells #[.slice ad ls cd] 24) = w12 := ⟨_, rfl⟩
  have t12 : IsRow w12 w11.heap.size 24 [.slice ad ls cd] := by rw [← hw12]; exact IsRow.new _ _ _
  rw [hw12] at hk12
  have hk1112 := hk11.trans hk12
  have k12 := k10.trans hk1112
  have p12 := p10.keep hk1112 trivial
  have q12 := q10.keep hk1112 trivial
  have r12 := r10.keep hk1112 trivial
  have s12 := s10.keep hk1112 trivial
  have a12 := a10.keep hk1112 fun _ _ h => h
  have b12 := b10.keep hk1112 fun _ _ h => h
  have cc12 := cc10.keep hk1112 fun _ _ h => h
  have d12 : IsProof All w12 (.agg #[.slice ad ls cd]) (shareM ss) := ⟨_, rfl, hsd.keep hk12 fun _ _ h => h⟩
  obtain ⟨f12, _⟩ := q12.one
  obtain ⟨g12, _⟩ := s12.one
  clear k10 p10 q10 r10 s10 a10 b10 cc10 e10 hk11 hk12 hk1112 hsd
  go_wp2_with (go_at_call 12; refine Hid.out ?_)
  refine hid ?_
  refine (equal_c (orderedM ss) (orderedM ss) _ _ w12 a12 cc12).mono ?_
  rintro e w13 ⟨rfl, hk13⟩
  have k13 := k12.trans hk13
  have p13 := p12.keep hk13 trivial
  have r13 := r12.keep hk13 trivial
  have t13 := t12.keep hk13 trivial
  have b13 := b12.keep hk13 fun _ _ h => h
  have d13 := d12.keep hk13 fun _ _ h => h
  obtain ⟨c13, _⟩ := p13.one
  obtain ⟨e13, _⟩ := r13.one
  obtain ⟨g13, _⟩ := t13.one
  simp only [decide_true]
  clear k12 p12 q12 r12 s12 t12 a12 b12 cc12 d12 f12 g12 hk13
  go_wp2_with (go_at_call 12; refine Hid.out ?_)
  refine hid ?_
  refine (equal_c (shareM ss) (shareM ss) _ _ w13 b13 d13).mono ?_
  rintro e w14 ⟨rfl, hk14⟩
  simp only [decide_true]
  have k14 := k13.trans hk14
  have p14 := p13.keep hk14 trivial
  have r14 := r13.keep hk14 trivial
  have b14 := b13.keep hk14 fun _ _ h => h
  obtain ⟨c14, _⟩ := p14.one
  obtain ⟨e14, _⟩ := r14.one
  clear k13 p13 r13 t13 b13 d13 c13 e13 g13 hk14
  go_wp2_with (go_at_call 13; refine Hid.out ?_)
  refine hid ?_
  by_cases hbig : tsize (treeM ss) ≤ 2000
  · have Hbig := hid hbig
    clear hbig
    obtain ⟨hkx, htx⟩ := expandM_ok Hok.out Hbig.out
    have Hkx := hid hkx
    have Htx := hid htx
    have hmx : m = ((expandM ss).length : Int) := by rw [expandM_length, ← Hm.out]; have := Hbig.out; omega
    have hxe : Hid (expandM (shareM ss) = expandM ss) := expand_of_tree Hts.out
    have hlx2 : (expandM ss).length ≤ 2000 := hkx.2.1
    refine (Expand_good ss _ 2000 w14 ⟨_, rfl, Hs.out.keep k14 fun _ _ h => h⟩ Hok.out (by omega) (by omega) (by have := Hbig.out; omega)).mono ?_
    rintro e w15 ⟨vr, rfl, ⟨ux, rfl, hsx⟩, hk15⟩
    obtain ⟨ax, cx, rfl⟩ := hsx.form
    generalize hlx : (expandM ss).length = lx at *
    subst hmx
    have hk16 : Keeps All w15 (w15.alloc (.cells #[.slice ax lx cx] 24)) := (Keeps.refl _ _).alloc _
    obtain ⟨w16, hw16⟩ : ∃ w16, w15.alloc (.cells #[.slice ax lx cx] 24) = w16 := ⟨_, rfl⟩
    have x16 : IsRow w16 w15.heap.size 24 [.slice ax lx cx] := by rw [← hw16]; exact IsRow.new _ _ _
    rw [hw16] at hk16
    have hk1516 := hk15.trans hk16
    have k16 := k14.trans hk1516
    have p16 := p14.keep hk1516 trivial
    have r16 := r14.keep hk1516 trivial
    have b16 := b14.keep hk1516 fun _ _ h => h
    have xx16 : IsProof All w16 (.agg #[.slice ax lx cx]) (expandM ss) := ⟨_, rfl, hsx.keep hk16 fun _ _ h => h⟩
    obtain ⟨e16, _⟩ := r16.one
    clear k14 p14 r14 b14 c14 e14 hk15 hk16 hk1516 hsx hkx htx
    go_wp2_with (go_at_call 13; refine Hid.out ?_)
    refine hid ?_
    refine (Expand_good (shareM ss) _ 2000 w16 b16 Hks.out (by omega) (by omega) (by rw [Hts.out]; have := Hbig.out; omega)).mono ?_
    rw [hxe.out]
    rintro e w17 ⟨vr, rfl, ⟨uy, rfl, hsy⟩, hk17⟩
    obtain ⟨ay, cy, rfl⟩ := hsy.form
    simp only [hlx] at hsy ⊢
    have hk18 : Keeps All w17 (w17.alloc (.cells #[.slice ay lx cy] 24)) := (Keeps.refl _ _).alloc _
    obtain ⟨w18, hw18⟩ : ∃ w18, w17.alloc (.cells #[.slice ay lx cy] 24) = w18 := ⟨_, rfl⟩
    have y18 : IsRow w18 w17.heap.size 24 [.slice ay lx cy] := by rw [← hw18]; exact IsRow.new _ _ _
    rw [hw18] at hk18
    have hk1718 := hk17.trans hk18
    have k18 := k16.trans hk1718
    have p18 := p16.keep hk1718 trivial
    have r18 := r16.keep hk1718 trivial
    have x18 := x16.keep hk1718 trivial
    have b18 := b16.keep hk1718 fun _ _ h => h
    have xx18 := xx16.keep hk1718 fun _ _ h => h
    have yy18 : IsProof All w18 (.agg #[.slice ay lx cy]) (expandM ss) := ⟨_, rfl, hsy.keep hk18 fun _ _ h => h⟩
    obtain ⟨c18, _⟩ := x18.one
    clear k16 p16 r16 x16 b16 xx16 e16 hk17 hk18 hk1718 hsy
    go_wp2_with (go_at_call 9; refine Hid.out ?_)
    refine hid ?_
    refine (Share_good (expandM ss) _ w18 xx18 Hkx.out (Ht.out.keep k18)).mono ?_
    rw [share_of_tree Hkx.out Hok.out Htx.out]
    rintro e w19 ⟨vr, rfl, ⟨uz, rfl, hsz⟩, hk19⟩
    obtain ⟨az, cz, rfl⟩ := hsz.form
    simp only [hms] at hsz ⊢
    have hk20 : Keeps All w19 (w19.alloc (.cells #[.slice az ls cz] 24)) := (Keeps.refl _ _).alloc _
    obtain ⟨w20, hw20⟩ : ∃ w20, w19.alloc (.cells #[.slice az ls cz] 24) = w20 := ⟨_, rfl⟩
    have z20 : IsRow w20 w19.heap.size 24 [.slice az ls cz] := by rw [← hw20]; exact IsRow.new _ _ _
    rw [hw20] at hk20
    have hk1920 := hk19.trans hk20
    have k20 := k18.trans hk1920
    have p20 := p18.keep hk1920 trivial
    have r20 := r18.keep hk1920 trivial
    have x20 := x18.keep hk1920 trivial
    have y20 := y18.keep hk1920 trivial
    have b20 := b18.keep hk1920 fun _ _ h => h
    have xx20 := xx18.keep hk1920 fun _ _ h => h
    have yy20 := yy18.keep hk1920 fun _ _ h => h
    have zz20 : IsProof All w20 (.agg #[.slice az ls cz]) (shareM ss) := ⟨_, rfl, hsz.keep hk20 fun _ _ h => h⟩
    obtain ⟨c20, _⟩ := p20.one
    obtain ⟨d20, _⟩ := x20.one
    clear k18 p18 r18 x18 y18 b18 xx18 yy18 c18 hk19 hk20 hk1920 hsz
    go_wp2_with (go_at_call 11; refine Hid.out ?_)
    refine hid ?_
    have s1 := Same_c (expandM ss) ss (.agg #[.slice ax lx cx]) (.agg #[.slice a ss.length c]) w20 xx20 ⟨_, rfl, Hs.out.keep k20 fun _ _ h => h⟩ (Ht.out.keep k20)
    rw [sameM_tree Hkx.out Hok.out Htx.out] at s1
    refine s1.mono ?_
    clear s1
    rintro e w21 ⟨rfl, hk21⟩
    have k21 := k20.trans hk21
    have r21 := r20.keep hk21 trivial
    have x21 := x20.keep hk21 trivial
    have y21 := y20.keep hk21 trivial
    have z21 := z20.keep hk21 trivial
    have b21 := b20.keep hk21 fun _ _ h => h
    have xx21 := xx20.keep hk21 fun _ _ h => h
    have yy21 := yy20.keep hk21 fun _ _ h => h
    have zz21 := zz20.keep hk21 fun _ _ h => h
    obtain ⟨c21, _⟩ := x21.one
    obtain ⟨d21, _⟩ := y21.one
    clear k20 p20 r20 x20 y20 z20 b20 xx20 yy20 zz20 c20 d20 hk21
    go_wp2_with (go_at_call 12; refine Hid.out ?_)
    refine hid ?_
    refine (equal_c (expandM ss) (expandM ss) _ _ w21 xx21 yy21).mono ?_
    rintro e w22 ⟨rfl, hk22⟩
    simp only [decide_true]
    have k22 := k21.trans hk22
    have r22 := r21.keep hk22 trivial
    have z22 := z21.keep hk22 trivial
    have b22 := b21.keep hk22 fun _ _ h => h
    have zz22 := zz21.keep hk22 fun _ _ h => h
    obtain ⟨c22, _⟩ := r22.one
    obtain ⟨d22, _⟩ := z22.one
    clear k21 r21 x21 y21 z21 b21 xx21 yy21 zz21 c21 d21 hk22
    go_wp2_with (go_at_call 12; refine Hid.out ?_)
    refine hid ?_
    refine (equal_c (shareM ss) (shareM ss) _ _ w22 zz22 b22).mono ?_
    rintro e w23 ⟨rfl, hk23⟩
    simp only [decide_true]
    have k23 := k22.trans hk23
    have haw := awake_c _ (Ht.out.keep k23)
    clear r22 z22 b22 zz22 c22 d22
    go_wp2_with (go_at_call 7; refine Hid.out ?_)
    refine hid ?_
    refine haw.mono ?_
    rintro e w24 ⟨rfl, hk24⟩
    go_wp2
    go_ret
    exact ⟨rfl, k23.trans hk24⟩
  · have hm2 : 2000 < m := by rw [← Hm.out]; omega
    refine (Expand_large ss _ 2000 w14 ⟨_, rfl, Hs.out.keep k14 fun _ _ h => h⟩ Hok.out (by omega) (by omega) (by omega)).mono ?_
    rintro e w15 ⟨rfl, hk15⟩
    clear hbig
    have hk16 : Keeps All w15 (w15.alloc (.cells #[.slice none 0 0] 24)) := (Keeps.refl _ _).alloc _
    have k16 := (k14.trans hk15).trans hk16
    have haw := awake_c _ (Ht.out.keep k16)
    go_wp2_with (go_at_call 7; refine Hid.out ?_)
    refine hid ?_
    refine haw.mono ?_
    rintro e w17 ⟨rfl, hk17⟩
    go_wp2
    go_ret
    exact ⟨rfl, k16.trans hk17⟩

/-- GraphTrees returns true. -/
theorem GraphTrees_c (ss : List Stp) (v : Value) (w : World) (hv : IsProof All w v ss) (htab : Tab w) :
    Calls Tryd.prog 3 #[v] w fun e w' => e = .returned (.bool true) ∧ Keeps All w w' := by
  cases hf : fewM ss 100 with
  | false => exact GraphTrees_many ss v w hv htab hf
  | true =>
    by_cases h0 : formM ss = 0
    · exact GraphTrees_good ss v w hv htab hf ((formM_zero ss).1 h0)
    · exact GraphTrees_bad ss v w hv htab hf h0

end Go.Proofs.YtcbmljfgmeeadaaDoor
