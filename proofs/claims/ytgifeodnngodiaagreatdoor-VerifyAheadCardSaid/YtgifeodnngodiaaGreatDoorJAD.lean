/-
  CONTRACT of the program: the machine of a proof.
  CONTRACT of the program: a verdict.
  CONTRACTS of the program: verdicts of theorems, of other proofs.
  THE ENGINE: rows of structs from given parts; a struct of a row and a verdict; verdicts compared.
  A DATABASE THAT ENDS EARLIER: what is right of it (plain).
  THE LAW's SAMPLE of verdicts, and its bounds (plain).
  CONTRACTS of the law of verdicts: its bounds, its sample, awake.
  A VERDICT DEPENDS ONLY ON WHAT STANDS AHEAD (plain).
  THE LAW VerifyAhead returns true.
-/
import Derived.Test.YtgifeodnngodiaaGreatDoorJAB
import Derived.Test.YtgifeodnngodiaaGreatDoorJAC
import Derived.Test.YtgifeodnngodiaaGreatDoorJL
import Derived.Test.YtgifeodnngodiaaGreatDoorJX
set_option maxHeartbeats 8000000
set_option maxRecDepth 100000
namespace Go.Proofs.YtgifeodnngodiaaGreatDoor
open Go.RowKit
theorem ZlZ : Zpr Tryz.prog 77 := fun x1 x2 x3 y1 y2 y3 y4 y5 y6 y7 y8 m => by kernel_rfl
theorem ZkB {J : World → Prop} (hJ : Stab J) (d : Db) (n : Nat) (t : List ByteArray) (hn : n < d.frames.length) (hfl : d.frames.length ≤ 400) (ht : ∀ h ∈ (ge d.frames n).hyps ++ (ge d.frames n).dummies, h.text.length ≤ 2000) (hh : (ge d.frames n).hyps.length ≤ 2000) (hl : t.length ≤ 100000) (hs : Zb3 t ≤ 1000000000) : FnM (ι := Nat × Value × Value × Value) Tryz.prog J 38 [] [.agg (dbC d), .int (n : Nat), .rd (Zb t)] [] (fun i' => .at (i'.1) 0) (fun i' => [OB.var (i'.1) (mkC d (ge d.frames n) [.lit (i'.2.1), Xm (QR d n t), .lit (i'.2.2.1), .lit (i'.2.2.2), .lit (.int .i64 (((Zai d n t).n : Nat) : Int)), .lit (.bool ((Zai d n t).kn)), .lit (.int .i64 ((Zai d n t).v.1)), .lit (.int .i64 ((Zai d n t).v.2))]), OB.row i'.2.2.1 22 1 (((Zai d n t).sk).map Zg), OB.row i'.2.2.2 22 1 (((Zai d n t).tg).map Zg)]) := by
 refine Z7 (N := 49) Tryz.func38 rfl rfl (lb rfl) fun S w0 R hS hJ0 hH => ?_
 refine Ya (B := St All (SO S (R)) w0 49 [(0, .agg (dbC d)), (1, .int (n : Nat)), (2, .rd (Zb t))] (XO J S w0.heap.size (R))) ?_ fun a w h => h
 refine ln 2 fun hl1 => ?_
 obtain ⟨ui, hui⟩ : ∃ v, v = Value.slice none 0 0 := ⟨_, rfl⟩
 obtain ⟨us, hus⟩ : ∃ v, v = Value.slice none 0 0 := ⟨_, rfl⟩
 obtain ⟨ut, hut⟩ : ∃ v, v = Value.slice none 0 0 := ⟨_, rfl⟩
 refine tsq ?_
 refine sq (.ptr (dbC d)) rfl rfl (lb rfl) (fun _ _ h => YX rfl (h.get 0 rfl) (Zr hS _ h.keep h.x _ (Nat.le_refl _)) (jo hJ h.x)) ?_
 refine Zj0 (c := Zb t) hJ rfl rfl rfl (lb rfl) (fun a w h => (h.get 3 rfl)) fun b1 => ?_
 refine snK 1 tb rfl ?_
 refine seK [1,2,4] [_,_,_] rfl ?_
 refine nx (Zo (fun a w h => ZmF (γ := Nat × Value × Nat × Nat) (fun ix' => ([.agg (dbC d), .ptr [Zbc d.frames], .rd (Zbc d.frames), .int (n : Nat), .ptr (frC (ge d.frames n)), .agg (frC (ge d.frames n)), .any, .any, .any, .any, .any] : List AV).getD ix' .any) (fun _ => true) [(5, fun (g : Nat × Value × Nat × Nat) => .at b1 0), (3, fun (g : Nat × Value × Nat × Nat) => .ptr (dbC d)), (1, fun (g : Nat × Value × Nat × Nat) => .int (n : Nat)), (7, fun (g : Nat × Value × Nat × Nat) => .at g.2.2.2 0)] (fun (D : Nat → Bool) (g : Nat × Value × Nat × Nat) => (if D 2 then [OB.var g.2.2.1 (mkC d (ge d.frames n) [.lit (.map (some g.1)), .lit (.slice none 0 0), .lit (.slice none 0 0), .lit (.slice none 0 0), .lit (.int .i64 (0 : Int)), .lit (.bool false), .lit (.int .i64 (0 : Int)), .lit (.int .i64 (0 : Int))])] else if D 1 then [Zpv (mkC d (ge d.frames n) [.lit (.map (some g.1)), .lit (.slice none 0 0), .lit (.slice none 0 0), .lit (.slice none 0 0), .lit (.int .i64 (0 : Int)), .lit (.bool false), .lit (.int .i64 (0 : Int)), .lit (.int .i64 (0 : Int))]) g.2.1] else []) ++ ((if D 0 then [OB.mI g.1 []] else []) ++ ((if D 4 then [OB.var g.2.2.2 [.lit (.pointer (some ⟨g.2.2.1, 0, none⟩))]] else if D 3 then [OB.var g.2.2.2 [.lit (.pointer none)]] else []) ++ (OB.var b1 [Zb t] :: R)))) (fun (k' : Nat) (g : Nat × Value × Nat × Nat) => match k' with | 0 => .map (some g.1) | 1 => g.2.1 | 2 => .pointer (some ⟨g.2.2.1, 0, none⟩) | 3 => .pointer (some ⟨g.2.2.2, 0, none⟩) | _ => undef) [6, 7, 8, 9, 10] (0, undef, 0, 0) (fun _ => rfl) h hJ Yg rfl rfl rfl rfl (fun D g p hp => List.mem_append_right _ (List.mem_append_right _ (List.mem_append_right _ hp))) ⟨?o0, ⟨?o1, ⟨?o2, ⟨?o3, ⟨?o4, ⟨?o5, ⟨?o6, ⟨?o7, ⟨?o8, ⟨?o9, ⟨?o10, trivial⟩⟩⟩⟩⟩⟩⟩⟩⟩⟩⟩ ⟨?e0, ⟨?e1, ⟨?e2, ⟨?e3, ⟨?e4, trivial⟩⟩⟩⟩⟩ ⟨.old 0 5 _ rfl rfl, ⟨.old 1 3 _ rfl rfl, ⟨.old 2 1 _ rfl rfl, ⟨.eff 3 9 7 (fun (g : Nat × Value × Nat × Nat) => .pointer (some ⟨g.2.2.2, 0, none⟩)) rfl rfl (fun _ => rfl) (fun _ => True.intro), trivial⟩⟩⟩⟩ ?n1))
 case o0 => exact fun _ O' _ => ⟨rfl, fun _ _ _ hx hl _ => Za8 ZcE rfl (hl.env 1 3 _ rfl rfl) (Nat.le_refl _) hx⟩
 case o1 => exact fun _ O' _ => ⟨rfl, fun _ _ _ hx hl _ => ZU QX rfl (hl.env 1 3 _ rfl rfl) hx⟩
 case o2 => exact fun _ O' _ => ⟨rfl, fun _ _ _ hx hl _ => Zz ZhQ rfl (hl.dep 1 11 _ rfl rfl rfl rfl) hx⟩
 case o3 => exact fun _ O' _ => ⟨rfl, fun _ _ _ hx hl _ => Yo rfl (hl.env 2 1 _ rfl rfl) hx⟩
 case o4 => exact fun _ O' _ => ⟨rfl, fun _ _ _ hx hl _ => Yi (i := (n : Int)) YD rfl (hl.dep 2 12 _ rfl rfl rfl rfl) (hl.dep 3 13 _ rfl rfl rfl rfl) (Int.natCast_nonneg _) (Yv (xs := d.frames) (k := n) (by first | omega | (simp; omega) | grind [Zc])) rfl hx⟩
 case o5 => exact fun _ O' _ => ⟨rfl, fun _ _ _ hx hl _ => Za8 Ziq rfl (hl.dep 4 14 _ rfl rfl rfl rfl) (Nat.le_refl _) hx⟩
 case o6 => exact Zl rfl
 case o7 => exact Zl rfl
 case o8 => exact Zl rfl
 case o9 => exact Zl rfl
 case o10 => exact Zl rfl
 case e0 =>
  refine ⟨_, rfl, rfl, rfl, rfl, fun D g a w hD hpre hcl hk hx hl hs => ?_⟩
  have d0 := hD
  have d1 : D 1 = false := by cases hq : D 1 with | false => rfl | true => exact absurd (hcl 1 0 7 6 rfl rfl hq (by decide)) (by simp [d0])
  have d2 : D 2 = false := by cases hq : D 2 with | false => rfl | true => exact absurd (hcl 2 1 8 7 rfl rfl hq (by decide)) (by simp [d1])
  have d4 : D 4 = false := by cases hq : D 4 with | false => rfl | true => exact absurd (hcl 4 2 10 8 rfl rfl hq (by decide)) (by simp [d2])
  simp only [ZiK, d0, d1, d2, d4, if_true, if_false, Bool.false_eq_true, List.nil_append, Nat.reduceEqDiff, List.cons_append] at hx hl ⊢
  exact Zs (d_map keyS (fun z' : Int => AV.int z') hJ rfl hk hx) fun v w' ⟨M', hv, hp⟩ => ⟨(M', g.2), (fun k' hk' => by rcases k' with _ | _ | _ | _ | k' <;> first | rfl | simp_all), fun _ => hv, hp⟩
 case e1 =>
  refine ⟨_, rfl, rfl, rfl, rfl, fun D g a w hD hpre hcl hk hx hl hs => ?_⟩
  have d1 := hD
  have d0 : D 0 = true := hpre 0 6 rfl (by decide)
  have d2 : D 2 = false := by cases hq : D 2 with | false => rfl | true => exact absurd (hcl 2 1 8 7 rfl rfl hq (by decide)) (by simp [d1])
  have d4 : D 4 = false := by cases hq : D 4 with | false => rfl | true => exact absurd (hcl 4 2 10 8 rfl rfl hq (by decide)) (by simp [d2])
  simp only [ZiK, d0, d1, d2, d4, if_true, if_false, Bool.false_eq_true, List.nil_append, Nat.reduceEqDiff, List.cons_append] at hx hl ⊢
  exact Zs (ZnG (cs := (mkC d (ge d.frames n) [.lit (.map (some g.1)), .lit (.slice none 0 0), .lit (.slice none 0 0), .lit (.slice none 0 0), .lit (.int .i64 (0 : Int)), .lit (.bool false), .lit (.int .i64 (0 : Int)), .lit (.int .i64 (0 : Int))])) hk (ZmR (d := d) (f := (ge d.frames n)) (m := g.1) ZlZ rfl (hl.dep 0 10 _ rfl rfl rfl rfl) (hl.dep 5 15 _ rfl rfl rfl rfl) (hs 0 6 _ 16 d0 rfl rfl rfl) hx)) fun v w' hp => ⟨(g.1, v, g.2.2), (fun k' hk' => by rcases k' with _ | _ | _ | _ | k' <;> first | rfl | simp_all), fun _ => rfl, hp⟩
 case e2 =>
  refine ⟨_, rfl, rfl, rfl, rfl, fun D g a w hD hpre hcl hk hx hl hs => ?_⟩
  have d2 := hD
  have d1 : D 1 = true := hpre 1 7 rfl (by decide)
  have d0 : D 0 = true := hpre 0 6 rfl (by decide)
  have d4 : D 4 = false := by cases hq : D 4 with | false => rfl | true => exact absurd (hcl 4 2 10 8 rfl rfl hq (by decide)) (by simp [d2])
  simp only [ZiK, d0, d1, d2, d4, if_true, if_false, Bool.false_eq_true, List.nil_append, Nat.reduceEqDiff, List.cons_append] at hx hl ⊢
  exact Zs (d_boxW (cs := (mkC d (ge d.frames n) [.lit (.map (some g.1)), .lit (.slice none 0 0), .lit (.slice none 0 0), .lit (.slice none 0 0), .lit (.int .i64 (0 : Int)), .lit (.bool false), .lit (.int .i64 (0 : Int)), .lit (.int .i64 (0 : Int))])) hJ rfl (hs 1 7 _ 17 d1 rfl rfl rfl) hk hx) fun v w' ⟨b', hv, hp⟩ => ⟨(g.1, g.2.1, b', g.2.2.2), (fun k' hk' => by rcases k' with _ | _ | _ | _ | k' <;> first | rfl | simp_all), fun _ => hv, hp⟩
 case e3 =>
  refine ⟨_, rfl, rfl, rfl, rfl, fun D g a w hD hpre hcl hk hx hl hs => ?_⟩
  have d3 := hD
  have d4 : D 4 = false := by cases hq : D 4 with | false => rfl | true => exact absurd (hcl 4 3 10 9 rfl rfl hq (by decide)) (by simp [d3])
  simp only [ZiK, d3, d4, if_true, if_false, Bool.false_eq_true, List.nil_append, Nat.reduceEqDiff, List.cons_append] at hx hl ⊢
  simp only [← List.append_assoc] at hx ⊢
  exact Zs (Zbf ZjH hJ rfl hk hx) fun v w' ⟨b', hv, hp⟩ => ⟨(g.1, g.2.1, g.2.2.1, b'), (fun k' hk' => by rcases k' with _ | _ | _ | _ | k' <;> first | rfl | simp_all), fun _ => hv, ZcP (.refl _) perm_mid.symm hp⟩
 case e4 =>
  refine ⟨_, rfl, rfl, rfl, rfl, fun D g a w hD hpre hcl hk hx hl hs => ?_⟩
  have d4 := hD
  have d3 : D 3 = true := hpre 3 9 rfl (by decide)
  have d2 : D 2 = true := hpre 2 8 rfl (by decide)
  have d1 : D 1 = true := hpre 1 7 rfl (by decide)
  have d0 : D 0 = true := hpre 0 6 rfl (by decide)
  simp only [ZiK, d0, d1, d2, d3, d4, if_true, if_false, Bool.false_eq_true, List.nil_append, Nat.reduceEqDiff, List.cons_append] at hx hl ⊢
  refine Zs (Xq (S' := S) (off := 0) (cs := [.lit (.pointer none)]) (news := [.lit (.pointer (some ⟨g.2.2.1, 0, none⟩))]) (es := [.lit (.pointer (some ⟨g.2.2.1, 0, none⟩))]) (us := [.pointer (some ⟨g.2.2.1, 0, none⟩)]) hJ hJ0 Zj4 rfl hk (Yh perm_3 hx) (ZcV (hs 3 9 _ 7 d3 rfl rfl rfl)) (by rw [hs 2 8 _ 18 d2 rfl rfl rfl]; rfl) ⟨.lit _ True.intro, trivial⟩ (lb rfl) rfl) fun v w' hp => ⟨g, fun _ _ => rfl, fun e => (by cases e), ZcP perm_3.symm perm_3.symm hp⟩
 clear a w h
 rintro ⟨m3, x5, b2, b4⟩
 change ∀ a w, St All (SO S (OB.var b2 (mkC d (ge d.frames n) [.lit (.map (some m3)), .lit (.slice none 0 0), .lit (.slice none 0 0), .lit (.slice none 0 0), .lit (.int .i64 (0 : Int)), .lit (.bool false), .lit (.int .i64 (0 : Int)), .lit (.int .i64 (0 : Int))]) :: OB.mI m3 ([] : List (ByteArray × Int)) :: OB.var b4 [.lit (.pointer (some ⟨b2, 0, none⟩))] :: OB.var b1 [Zb t] :: R)) w0 49 [(5, .at b1 0), (3, .ptr (dbC d)), (1, .int (n : Nat)), (7, .at b4 0)] (XO J S w0.heap.size (OB.var b2 (mkC d (ge d.frames n) [.lit (.map (some m3)), .lit (.slice none 0 0), .lit (.slice none 0 0), .lit (.slice none 0 0), .lit (.int .i64 (0 : Int)), .lit (.bool false), .lit (.int .i64 (0 : Int)), .lit (.int .i64 (0 : Int))]) :: OB.mI m3 ([] : List (ByteArray × Int)) :: OB.var b4 [.lit (.pointer (some ⟨b2, 0, none⟩))] :: OB.var b1 [Zb t] :: R)) a w → _
 refine kw (ob0 (show OB.var b2 (mkC d (ge d.frames n) [.lit (.map (some m3)), .lit (.slice none 0 0), .lit (.slice none 0 0), .lit (.slice none 0 0), .lit (.int .i64 (0 : Int)), .lit (.bool false), .lit (.int .i64 (0 : Int)), .lit (.int .i64 (0 : Int))]) = OB.var b2 (mkC d (ge d.frames n) [.lit (.map (some m3)), .lit ui, .lit us, .lit ut, .lit (.int .i64 (0 : Int)), .lit (.bool false), .lit (.int .i64 (0 : Int)), .lit (.int .i64 (0 : Int))]) from by rw [hui, hus, hut])) ?_
 refine kw (Yr 89 4 hJ) ?_
 refine kw (ob0 (show OB.row (.slice none 0 0) 89 4 [] = OB.row ui 89 4 (([] : List Itm).map itC) from by rw [hui]; rfl)) ?_
 refine kw (Yr 22 1 hJ) ?_
 refine kw (ob0 (show OB.row (.slice none 0 0) 22 1 [] = OB.row us 22 1 (([] : List (List ByteArray)).map Zg) from by rw [hus]; rfl)) ?_
 refine kw (Yr 22 1 hJ) ?_
 refine kw (ob0 (show OB.row (.slice none 0 0) 22 1 [] = OB.row ut 22 1 (([] : List (List ByteArray)).map Zg) from by rw [hut]; rfl)) ?_
 refine nx (Zo (qso tb hJ [0,1,3,1000,1001] [_,_] [_,_,_,_,_] ?_))
 refine Zh (lpo (ι := Nat × (List (ByteArray × Int))) (fun (k, L) => (k ≤ n) ∧ (L = Zah (d.frames.take k))) (fun (_, L) => (OB.row ut 22 1 (([] : List (List ByteArray)).map Zg) :: OB.row us 22 1 (([] : List (List ByteArray)).map Zg) :: OB.row ui 89 4 (([] : List Itm).map itC) :: OB.var b2 (mkC d (ge d.frames n) [.lit (.map (some m3)), .lit ui, .lit us, .lit ut, .lit (.int .i64 (0 : Int)), .lit (.bool false), .lit (.int .i64 (0 : Int)), .lit (.int .i64 (0 : Int))]) :: OB.mI m3 L :: OB.var b4 [.lit (.pointer (some ⟨b2, 0, none⟩))] :: OB.var b1 [Zb t] :: R)) (fun (k, _) => [(20, .int (k : Nat))]) (fun (k, _) => n - k) [0,1,2,3,4] [_,_,_,_] (0, ([] : List (ByteArray × Int))) ⟨Nat.zero_le _, namL_nil.symm⟩ ?_)
 rintro ⟨k, L⟩ ⟨f1_1, f1_2⟩
 refine qso tb hJ [0,1,2,3,4,1000] [_] [_,_,_,_,_,_] ?_
 refine cjS 5 (fun hb1 => ?_) fun hb1 => ?_
 try simp at hb1
 refine Zf (nx (Zo (Zh (qso tb hJ [0,1,2,3,4,1001] [_,_] [_,_,_,_,_,_] ?_))))
 refine tw pm4 ?_
 refine fun a w h => YH (γ := Unit) (fun ix' => ([.at b2 0, .at b2 0, .at b2 11, .lit (.map (some m3)), .ptr [Zbc d.frames], .rd (Zbc d.frames), .int (k : Nat), .ptr (frC (ge d.frames k)), .ptr (frC (ge d.frames k)), .str ((ge d.frames k).label), .int (k : Nat), .any] : List AV).getD ix' .any) (fun ix' => ([true, true, true, true, true, true, true, true, true, true, true, true] : List Bool).getD ix' true) [(5, fun (g : Unit) => .at b1 0), (3, fun (g : Unit) => .ptr (dbC d)), (7, fun (g : Unit) => .at b4 0), (19, fun (g : Unit) => .int (n : Nat)), (20, fun (g : Unit) => .int (k : Nat))] (fun (j' : Nat) (g : Unit) => match j' with | 0 => (OB.mI m3 L :: OB.row ut 22 1 (([] : List (List ByteArray)).map Zg) :: OB.row us 22 1 (([] : List (List ByteArray)).map Zg) :: OB.row ui 89 4 (([] : List Itm).map itC) :: OB.var b2 (mkC d (ge d.frames n) [.lit (.map (some m3)), .lit ui, .lit us, .lit ut, .lit (.int .i64 (0 : Int)), .lit (.bool false), .lit (.int .i64 (0 : Int)), .lit (.int .i64 (0 : Int))]) :: OB.var b4 [.lit (.pointer (some ⟨b2, 0, none⟩))] :: OB.var b1 [Zb t] :: R) | _ => (OB.mI m3 (Qk L ((ge d.frames k).label) (k : Int)) :: OB.row ut 22 1 (([] : List (List ByteArray)).map Zg) :: OB.row us 22 1 (([] : List (List ByteArray)).map Zg) :: OB.row ui 89 4 (([] : List Itm).map itC) :: OB.var b2 (mkC d (ge d.frames n) [.lit (.map (some m3)), .lit ui, .lit us, .lit ut, .lit (.int .i64 (0 : Int)), .lit (.bool false), .lit (.int .i64 (0 : Int)), .lit (.int .i64 (0 : Int))]) :: OB.var b4 [.lit (.pointer (some ⟨b2, 0, none⟩))] :: OB.var b1 [Zb t] :: R)) (fun (k' : Nat) (g : Unit) => match k' with | 0 => undef | _ => undef) [11] 0 () (fun _ => rfl) h hJ Yg rfl rfl rfl rfl rfl rfl (fun j' g hj p hp => by rcases j' with _ | _ | _ | j' <;> first | exact hp | exact List.mem_cons_of_mem _ hp | exact List.mem_cons_of_mem _ (List.mem_cons_of_mem _ hp) | (exfalso; omega)) ⟨?o5_1_0, ⟨?o5_1_1, ⟨?o5_1_2, ⟨?o5_1_3, ⟨?o5_1_4, ⟨?o5_1_5, ⟨?o5_1_6, ⟨?o5_1_7, ⟨?o5_1_8, ⟨?o5_1_9, ⟨?o5_1_10, ⟨?o5_1_11, trivial⟩⟩⟩⟩⟩⟩⟩⟩⟩⟩⟩⟩ ⟨?e5_1_0, trivial⟩ ⟨.old 0 5 _ rfl rfl, ⟨.old 1 3 _ rfl rfl, ⟨.old 2 7 _ rfl rfl, ⟨.old 3 19 _ rfl rfl, ⟨.old 4 20 _ rfl rfl, trivial⟩⟩⟩⟩⟩ ?n5_1
 case o5_1_0 => exact fun _ O' hO' => ⟨rfl, fun _ _ _ hx hl _ => Zq (cs := [.lit (.pointer (some ⟨b2, 0, none⟩))]) Z8 rfl (Zd hx (hO' _ (mo 5 rfl))) (hl.env 2 7 _ rfl rfl) rfl hx⟩
 case o5_1_1 => exact fun _ O' _ => ⟨rfl, fun _ _ _ hx hl _ => Zk rfl (hl.dep 0 23 _ rfl rfl rfl rfl) hx⟩
 case o5_1_2 => exact fun _ O' _ => ⟨rfl, fun _ _ _ hx hl _ => Zn Zdg rfl (hl.dep 1 24 _ rfl rfl rfl rfl) hx⟩
 case o5_1_3 => exact fun _ O' hO' => ⟨rfl, fun _ _ _ hx hl _ => Zq (cs := (mkC d (ge d.frames n) [.lit (.map (some m3)), .lit ui, .lit us, .lit ut, .lit (.int .i64 (0 : Int)), .lit (.bool false), .lit (.int .i64 (0 : Int)), .lit (.int .i64 (0 : Int))])) Zo5 rfl (Zd hx (hO' _ (mo 4 rfl))) (hl.dep 2 25 _ rfl rfl rfl rfl) rfl hx⟩
 case o5_1_4 => exact fun _ O' _ => ⟨rfl, fun _ _ _ hx hl _ => ZU QX rfl (hl.env 1 3 _ rfl rfl) hx⟩
 case o5_1_5 => exact fun _ O' _ => ⟨rfl, fun _ _ _ hx hl _ => Zz ZhQ rfl (hl.dep 4 27 _ rfl rfl rfl rfl) hx⟩
 case o5_1_6 => exact fun _ O' _ => ⟨rfl, fun _ _ _ hx hl _ => Yo rfl (hl.env 5 8 _ rfl rfl) hx⟩
 case o5_1_7 => exact fun _ O' _ => ⟨rfl, fun _ _ _ hx hl _ => Yi (i := (k : Int)) YD rfl (hl.dep 5 28 _ rfl rfl rfl rfl) (hl.dep 6 29 _ rfl rfl rfl rfl) (Int.natCast_nonneg _) (Yv (xs := d.frames) (k := k) (by first | omega | (simp; omega) | grind [Zc])) rfl hx⟩
 case o5_1_8 => exact fun _ O' _ => ⟨rfl, fun _ _ _ hx hl _ => ZU ZbY rfl (hl.dep 7 30 _ rfl rfl rfl rfl) hx⟩
 case o5_1_9 => exact fun _ O' _ => ⟨rfl, fun _ _ _ hx hl _ => Zz QP rfl (hl.dep 8 31 _ rfl rfl rfl rfl) hx⟩
 case o5_1_10 => exact fun _ O' _ => ⟨rfl, fun _ _ _ hx hl _ => Yo rfl (hl.env 5 8 _ rfl rfl) hx⟩
 case o5_1_11 => exact Zl rfl
 case e5_1_0 => exact ⟨_, rfl, rfl, rfl, rfl, fun g _ w hk hx hl _ => Zs (Zlx (f := (fun z' : Int => AV.int z')) Zc6 hJ hJ0 ((ge d.frames k).label) (k : Int) (.inl rfl) hk hx (hl.dep 3 26 _ rfl rfl rfl rfl) (hl.dep 9 32 _ rfl rfl rfl rfl) (hl.dep 10 33 _ rfl rfl rfl rfl)) fun v w' ⟨_, hp⟩ => ⟨g, rfl, fun _ _ => rfl, fun e => (by cases e), hp⟩⟩
 clear a w h
 intro _
 change ∀ a w, St All (SO S (OB.mI m3 (Qk L ((ge d.frames k).label) (k : Int)) :: OB.row ut 22 1 (([] : List (List ByteArray)).map Zg) :: OB.row us 22 1 (([] : List (List ByteArray)).map Zg) :: OB.row ui 89 4 (([] : List Itm).map itC) :: OB.var b2 (mkC d (ge d.frames n) [.lit (.map (some m3)), .lit ui, .lit us, .lit ut, .lit (.int .i64 (0 : Int)), .lit (.bool false), .lit (.int .i64 (0 : Int)), .lit (.int .i64 (0 : Int))]) :: OB.var b4 [.lit (.pointer (some ⟨b2, 0, none⟩))] :: OB.var b1 [Zb t] :: R)) w0 49 [(5, .at b1 0), (3, .ptr (dbC d)), (7, .at b4 0), (19, .int (n : Nat)), (20, .int (k : Nat))] (XO J S w0.heap.size (OB.mI m3 (Qk L ((ge d.frames k).label) (k : Int)) :: OB.row ut 22 1 (([] : List (List ByteArray)).map Zg) :: OB.row us 22 1 (([] : List (List ByteArray)).map Zg) :: OB.row ui 89 4 (([] : List Itm).map itC) :: OB.var b2 (mkC d (ge d.frames n) [.lit (.map (some m3)), .lit ui, .lit us, .lit ut, .lit (.int .i64 (0 : Int)), .lit (.bool false), .lit (.int .i64 (0 : Int)), .lit (.int .i64 (0 : Int))]) :: OB.var b4 [.lit (.pointer (some ⟨b2, 0, none⟩))] :: OB.var b1 [Zb t] :: R)) a w → _
 refine nx (Y3 tb hJ [0,1,2,3,1001] [.int (k + 1 : Nat),_] [0] [_,_,_,_,_] rfl ⟨YE, trivial⟩ ?_)
 refine kw pm6 ?_
 refine kw pm6 ?_
 refine kw pm2 ?_
 refine kw pm6 ?_
 refine kw pm6 ?_
 refine kw pm6 ?_
 refine kw pm6 ?_
 exact XP (k + 1, Qk L ((ge d.frames k).label) (k : Int)) [0,1,2,3,4] ⟨by omega, by rw [f1_2]; exact (ZfL (by omega)).symm⟩
 try simp at hb1
 have hL : L = Zah (d.frames.take n) := by rw [f1_2, show k = n by omega]
 refine ZC (nx (Zo (tsq ?_)))
 refine sq (.lit (.func (.func 48) #[] #[.pointer (some ⟨b4, 0, none⟩), .pointer (some ⟨b1, 0, none⟩)])) rfl rfl (lb rfl) (fun _ _ h => Zfu (caps := [(Go.Operand.tmp 7), (Go.Operand.tmp 5)]) rfl (map_cons (h.get 2 rfl).lit (map_cons (h.get 0 rfl).lit map_nil)) h.x) ?_
 refine kw pm1 ?_
 refine kw pm1 ?_
 refine kw pm4 ?_
 refine kw pm3 ?_
 refine kw pm4 ?_
 refine kw pm6 ?_
 refine kw pm6 ?_
 refine Xs (O := [OB.var b4 [.lit (.pointer (some ⟨b2, 0, none⟩))], OB.var b1 [Zb t], OB.var b2 (mkC d (ge d.frames n) [.lit (.map (some m3)), .lit ui, .lit us, .lit ut, .lit (.int .i64 (0 : Int)), .lit (.bool false), .lit (.int .i64 (0 : Int)), .lit (.int .i64 (0 : Int))]), OB.row ui 89 4 (([] : List Itm).map itC), OB.mI m3 L]) (R := (OB.row ut 22 1 (([] : List (List ByteArray)).map Zg) :: OB.row us 22 1 (([] : List (List ByteArray)).map Zg) :: R)) (Zqe hJ (bm := b4) (bt := b1) (b := b2) (d := d) (f := (ge d.frames n)) (M := m3) (L := L) (vi := ui) (vs := us) (vt := ut) (n := 0) (kn := false) (y1 := (0 : Int)) (y2 := (0 : Int)) (t := t) (by exact ht) (by exact hh) (by exact hl) (by exact hs)) ZlT rfl rfl rfl (lb rfl) hS hJ0 Zt (fun a w h => (Za (h.get 0 rfl) Ze)) fun z6 => ?_
 refine snK 1 tb rfl ?_
 refine seK [0,5] [_,_] rfl ?_
 refine nx (qso tb hJ [0,1,1001] [_,_] [_,_,_] ?_)
 refine cj 2 (fun hb2 => ?_) fun hb2 => ?_
 try simp at hb2
 have e5 := Zqv (d := d) (n := n) (t := t) (c := z6.1.1) (by rcases z6.2 with h9 | h9; exact absurd h9.1 hb2; rw [← hL]; exact h9.2)
 refine tsq ?_
 refine sq (.at b2 0) rfl rfl (lb rfl) (fun _ _ h => Zq (cs := [.lit (.pointer (some ⟨b2, 0, none⟩))]) Z8 rfl (Zd h.x (mo 0 rfl)) (h.get 1 rfl) rfl h.x) ?_
 refine sq (.at b2 0) rfl rfl (lb rfl) (fun _ _ h => Zk rfl (h.get 0 rfl) h.x) ?_
 refine sq (.at b2 12) rfl rfl (lb rfl) (fun _ _ h => Zn ZN rfl (h.get 0 rfl) h.x) ?_
 refine kw pm2 ?_
 refine ZJ (b := b2) (off := 12) (cs := (mkC d (ge d.frames n) [.lit (.map (some m3)), .lit z6.1.2.1, .lit us, .lit ut, .lit (.int .i64 ((0 : Nat) : Int)), .lit (.bool false), .lit (.int .i64 (0 : Int)), .lit (.int .i64 (0 : Int))])) (es := (mkC d (ge d.frames n) [.lit (.map (some m3)), Xm ([] : List Itm), .lit us, .lit ut, .lit (.int .i64 ((0 : Nat) : Int)), .lit (.bool false), .lit (.int .i64 (0 : Int)), .lit (.int .i64 (0 : Int))])) hJ hJ0 Xi rfl rfl rfl (lb rfl) rfl (fun a w h => ⟨(h.get 0 rfl), (ZhS (Rel.of_lit (Go.Value.slice none 0 0)))⟩) ?_
 refine seK [3,4] [_,_] rfl ?_
 refine nx (tsq ?_)
 refine sq (.at b2 0) rfl rfl (lb rfl) (fun _ _ h => Zq (cs := [.lit (.pointer (some ⟨b2, 0, none⟩))]) Z8 rfl (Zd h.x (mo 1 rfl)) (h.get 1 rfl) rfl h.x) ?_
 refine snK 1 tb rfl ?_
 refine Xs (O := [OB.var b2 (mkC d (ge d.frames n) [.lit (.map (some m3)), Xm ([] : List Itm), .lit us, .lit ut, .lit (.int .i64 ((0 : Nat) : Int)), .lit (.bool false), .lit (.int .i64 (0 : Int)), .lit (.int .i64 (0 : Int))])]) (R := (OB.var b4 [.lit (.pointer (some ⟨b2, 0, none⟩))] :: OB.var b1 [Zb t] :: OB.row z6.1.2.1 89 4 (z6.1.2.2.map itC) :: OB.mI m3 L :: OB.row ut 22 1 (([] : List (List ByteArray)).map Zg) :: OB.row us 22 1 (([] : List (List ByteArray)).map Zg) :: R)) (Zfy hJ (b := b2) (d := d) (f := (ge d.frames n)) (nm := (.map (some m3))) (xs := ([] : List Itm)) (n := 0) (vs := us) (vt := ut) (kn := false) (y1 := (0 : Int)) (y2 := (0 : Int)) (e := z6.1.1) (p := (0 : Int)) ) Zdx rfl rfl rfl (lb rfl) hS hJ0 Zt (fun a w h => (Za (h.get 1 rfl) (Za (h.get 0 rfl) (Za (Rel.of_lit (Go.Value.int Go.IntKind.i64 0)) Ze)))) fun _ => ?_
 refine seK [4] [_] rfl ?_
 refine nx (ZP tb hJ [1001] [.at b2 0,_] [0] [_] rfl ⟨fun _ _ _ hx hl _ => Zq (cs := [.lit (.pointer (some ⟨b2, 0, none⟩))]) Z8 rfl (Zd hx (mo 1 rfl)) (hl.env 0 7 _ rfl rfl) rfl hx, trivial⟩ ?_)
 refine tw pm1 ?_
 refine tw ZB ?_
 refine tw pm1 ?_
 refine tw ZB ?_
 refine tw pm1 ?_
 refine tw ZB ?_
 refine tw pm1 ?_
 refine tw ZB ?_
 refine tw pm1 ?_
 refine tw pm2 ?_
 refine tw pm2 ?_
 refine tw (ob0 (show OB.var b2 (mkC d (ge d.frames n) [.lit (.map (some m3)), Xm ([] : List Itm), .lit us, .lit ut, .lit (.int .i64 ((0 : Nat) : Int)), .lit (.bool true), .lit (.int .i64 z6.1.1), .lit (.int .i64 (0 : Int))]) = OB.var b2 (mkC d (ge d.frames n) [.lit (.map (some m3)), Xm (QR d n t), .lit us, .lit ut, .lit (.int .i64 (((Zai d n t).n : Nat) : Int)), .lit (.bool ((Zai d n t).kn)), .lit (.int .i64 ((Zai d n t).v.1)), .lit (.int .i64 ((Zai d n t).v.2))]) from by first | (rw [e5.1, e5.2.2.2.1, e5.2.2.2.2.1, e5.2.2.2.2.2.1, e5.2.2.2.2.2.2]; done) | (rw [e5.1, e5.2.2.2.1, e5.2.2.2.2.1, e5.2.2.2.2.2.1, e5.2.2.2.2.2.2]; rfl) | (rw [e5.2.1]) | (rw [e5.2.2.1]))) ?_
 refine tw (ob1 (congrArg (fun z' => OB.row us 22 1 ((z').map Zg)) (show ([] : List (List ByteArray)) = ((Zai d n t).sk) from by first | (rw [e5.1, e5.2.2.2.1, e5.2.2.2.2.1, e5.2.2.2.2.2.1, e5.2.2.2.2.2.2]; done) | (rw [e5.1, e5.2.2.2.1, e5.2.2.2.2.1, e5.2.2.2.2.2.1, e5.2.2.2.2.2.2]; rfl) | (rw [e5.2.1]) | (rw [e5.2.2.1])))) ?_
 refine tw (ob2 (congrArg (fun z' => OB.row ut 22 1 ((z').map Zg)) (show ([] : List (List ByteArray)) = ((Zai d n t).tg) from by first | (rw [e5.1, e5.2.2.2.1, e5.2.2.2.2.1, e5.2.2.2.2.2.1, e5.2.2.2.2.2.2]; done) | (rw [e5.1, e5.2.2.2.1, e5.2.2.2.2.1, e5.2.2.2.2.2.1, e5.2.2.2.2.2.2]; rfl) | (rw [e5.2.1]) | (rw [e5.2.2.1])))) ?_
 exact Zi (fun a w h => ZR  (m := 0) (b2, (.map (some m3)), us, ut) rfl h rfl rfl)
 try simp at hb2
 have e5 := mch_ok (d := d) (n := n) (t := t) (xs := z6.1.2.2) (by rcases z6.2 with h9 | h9; rw [← hL]; exact h9.2; exact absurd hb2 h9.1)
 refine Zf (nx (tw pm2 ?_))
 refine tw pm3 ?_
 refine tw (fun h => Zer (j := 12) (cs' := (mkC d (ge d.frames n) [.lit (.map (some m3)), Xm z6.1.2.2, .lit us, .lit ut, .lit (.int .i64 ((0 : Nat) : Int)), .lit (.bool false), .lit (.int .i64 (0 : Int)), .lit (.int .i64 (0 : Int))])) hS rfl rfl h) ?_
 refine tsq ?_
 refine sq (.at b2 0) rfl rfl (lb rfl) (fun _ _ h => Zq (cs := [.lit (.pointer (some ⟨b2, 0, none⟩))]) Z8 rfl (Zd h.x (mo 1 rfl)) (h.get 1 rfl) rfl h.x) ?_
 refine kw pm4 ?_
 refine kw pm4 ?_
 refine kw pm4 ?_
 refine kw pm4 ?_
 refine kw pm5 ?_
 refine kw pm5 ?_
 refine Xs (O := [OB.var b2 (mkC d (ge d.frames n) [.lit (.map (some m3)), Xm z6.1.2.2, .lit us, .lit ut, .lit (.int .i64 ((0 : Nat) : Int)), .lit (.bool false), .lit (.int .i64 (0 : Int)), .lit (.int .i64 (0 : Int))]), OB.row us 22 1 (([] : List (List ByteArray)).map Zg)]) (R := (OB.var b4 [.lit (.pointer (some ⟨b2, 0, none⟩))] :: OB.var b1 [Zb t] :: OB.mI m3 L :: OB.row ut 22 1 (([] : List (List ByteArray)).map Zg) :: R)) (Zqg hJ (b := b2) (d := d) (f := (ge d.frames n)) (nm := (.map (some m3))) (xs := z6.1.2.2) (vs := us) (vt := ut) (n := 0) (kn := false) (y1 := (0 : Int)) (y2 := (0 : Int)) (sk := ([] : List (List ByteArray))) ) Zhb rfl rfl rfl (lb rfl) hS hJ0 Zt (fun a w h => (Za (h.get 0 rfl) Ze)) fun _ => ?_
 refine seK [3] [_] rfl ?_
 refine nx (ZP tb hJ [1001] [.at b2 0,_] [0] [_] rfl ⟨fun _ _ _ hx hl _ => Zq (cs := [.lit (.pointer (some ⟨b2, 0, none⟩))]) Z8 rfl (Zd hx (mo 2 rfl)) (hl.env 0 7 _ rfl rfl) rfl hx, trivial⟩ ?_)
 refine tw pm2 ?_
 refine tw ZB ?_
 refine tw pm2 ?_
 refine tw ZB ?_
 refine tw pm2 ?_
 refine tw ZB ?_
 refine tw (ob0 (show OB.var b2 (mkC d (ge d.frames n) [.lit (.map (some m3)), Xm z6.1.2.2, .lit us, .lit ut, .lit (.int .i64 ((0 : Nat) : Int)), .lit (.bool (false || !decide (0 < z6.1.2.2.length))), .lit (.int .i64 (if 0 < z6.1.2.2.length then (0 : Int) else (ZdE (ge d.frames n) ([] : List (List ByteArray)) 0).1)), .lit (.int .i64 (if 0 < z6.1.2.2.length then (0 : Int) else (ZdE (ge d.frames n) ([] : List (List ByteArray)) 0).2))]) = OB.var b2 (mkC d (ge d.frames n) [.lit (.map (some m3)), Xm (QR d n t), .lit us, .lit ut, .lit (.int .i64 (((Zai d n t).n : Nat) : Int)), .lit (.bool ((Zai d n t).kn)), .lit (.int .i64 ((Zai d n t).v.1)), .lit (.int .i64 ((Zai d n t).v.2))]) from by first | (rw [e5.1, e5.2.2.2.1, e5.2.2.2.2.1, e5.2.2.2.2.2.1, e5.2.2.2.2.2.2]; done) | (rw [e5.1, e5.2.2.2.1, e5.2.2.2.2.1, e5.2.2.2.2.2.1, e5.2.2.2.2.2.2]; rfl) | (rw [e5.2.1]) | (rw [e5.2.2.1]))) ?_
 refine tw (ob1 (congrArg (fun z' => OB.row us 22 1 ((z').map Zg)) (show ([] : List (List ByteArray)) = ((Zai d n t).sk) from by first | (rw [e5.1, e5.2.2.2.1, e5.2.2.2.2.1, e5.2.2.2.2.2.1, e5.2.2.2.2.2.2]; done) | (rw [e5.1, e5.2.2.2.1, e5.2.2.2.2.1, e5.2.2.2.2.2.1, e5.2.2.2.2.2.2]; rfl) | (rw [e5.2.1]) | (rw [e5.2.2.1])))) ?_
 refine tw (ob2 (congrArg (fun z' => OB.row ut 22 1 ((z').map Zg)) (show ([] : List (List ByteArray)) = ((Zai d n t).tg) from by first | (rw [e5.1, e5.2.2.2.1, e5.2.2.2.2.1, e5.2.2.2.2.2.1, e5.2.2.2.2.2.2]; done) | (rw [e5.1, e5.2.2.2.1, e5.2.2.2.2.1, e5.2.2.2.2.2.1, e5.2.2.2.2.2.2]; rfl) | (rw [e5.2.1]) | (rw [e5.2.2.1])))) ?_
 exact Zi (fun a w h => ZR  (m := 0) (b2, (.map (some m3)), us, ut) rfl h rfl rfl)
end Go.Proofs.YtgifeodnngodiaaGreatDoor
set_option maxHeartbeats 8000000
set_option maxRecDepth 100000
namespace Go.Proofs.YtgifeodnngodiaaGreatDoor
open Go.RowKit

theorem Zkx {J : World → Prop} (hJ : Stab J) (d : Db) (n : Nat) (t : List ByteArray) (hn : n < d.frames.length) (hfl : d.frames.length ≤ 400) (hfr : ∀ g ∈ d.frames, okF g ∧ okT g) (hM : ZdN (Zah (d.frames.take n)) d.frames.length) (hf : ZeK (ge d.frames n)) (hw : ∀ g ∈ d.frames, g.wide.length * 32 ≤ 140737488351232) (hl : t.length ≤ 100000) (hs : Zb3 t ≤ 1000000000) : Fn Tryz.prog J 37 [.agg (dbC d), .int (n : Nat), .rd (Zb t)] (.agg (vdC (Zce d.frames d.vars (ge d.frames n) (Zah (d.frames.take n)) t))) := by
 refine Zx (N := 19) Tryz.func37 rfl rfl (lb rfl) fun S w0 hS hJ0 => ?_
 refine tw Ym ?_
 refine ln 2 fun hl1 => ?_
 obtain ⟨h0, h00⟩ := startV (t := t) hM hf
 refine tsq ?_
 refine sq (.ptr (dbC d)) rfl rfl (lb rfl) (fun _ _ h => YX rfl (h.get 0 rfl) (Zr hS _ h.keep h.x _ (Nat.le_refl _)) (jo hJ h.x)) ?_
 refine ZW ZbN hJ rfl rfl rfl (lb rfl) fun b1 => ?_
 refine seK [0,1,3,4] [_,_,_,_] rfl ?_
 refine nx (Zhr (tsq ?_))
 refine snK 3 tb rfl ?_
 refine Xs (O := []) (R := [OB.var b1 [.lit (.int .i64 0), .lit (.int .i64 0)]]) (ZkB hJ (d := d) (n := n) (t := t) (by first | omega | (simp; omega) | grind [Zc]) (by first | omega | (simp; omega) | grind [Zc]) (by exact fun h hh => (hf h hh).2) (by exact (hfr _ (Zc hn)).1.1) (by exact hl) (by exact hs)) Zrn rfl rfl rfl (lb rfl) hS hJ0 Zt (fun a w h => (Za (h.get 2 rfl) (Za (h.get 1 rfl) (Za (h.get 0 rfl) Ze)))) fun z2 => ?_
 refine snK 1 tb rfl ?_
 refine seK [0,5] [_,_] rfl ?_
 refine nx (Zo (Zhs (nx (Zo (Zh (lpo (ι := Ms × Value × Value) (fun (m9, _, _) => (InvM (QR d n t) m9) ∧ ((ZgJ d.frames d.vars (ge d.frames n) (QR d n t) ((QR d n t).length + 1) (Zai d n t)).v = (ZgJ d.frames d.vars (ge d.frames n) (QR d n t) ((QR d n t).length + 1 - m9.n) m9).v)) (fun (m9, vs, vt) => [OB.var z2.1 (mkC d (ge d.frames n) [.lit z2.2.1, Xm (QR d n t), .lit vs, .lit vt, .lit (.int .i64 (m9.n : Int)), .lit (.bool m9.kn), .lit (.int .i64 m9.v.1), .lit (.int .i64 m9.v.2)]), OB.row vs 22 1 (m9.sk.map Zg), OB.row vt 22 1 (m9.tg.map Zg), OB.var b1 [.lit (.int .i64 0), .lit (.int .i64 0)]]) (fun (_, _, _) => []) (fun (m9, _, _) => (QR d n t).length - m9.n) [0,1] [_,_] ((Zai d n t), z2.2.2.1, z2.2.2.2) ⟨h00, by rw [show (Zai d n t).n = 0 from ZpM]; rfl⟩ ?_))))))
 rintro ⟨m9, vs, vt⟩ ⟨f1_1, f1_2⟩
 refine Zh (tsq ?_)
 refine snK 1 tb rfl ?_
 refine Xs (O := [OB.var z2.1 (mkC d (ge d.frames n) [.lit z2.2.1, Xm (QR d n t), .lit vs, .lit vt, .lit (.int .i64 (m9.n : Int)), .lit (.bool m9.kn), .lit (.int .i64 m9.v.1), .lit (.int .i64 m9.v.2)]), OB.row vs 22 1 (m9.sk.map Zg), OB.row vt 22 1 (m9.tg.map Zg)]) (R := [OB.var b1 [.lit (.int .i64 0), .lit (.int .i64 0)]]) (p_step hJ (b := z2.1) (d := d) (f := (ge d.frames n)) (nm := z2.2.1) (xs := (QR d n t)) (vs := vs) (vt := vt) (n := m9.n) (kn := m9.kn) (y1 := m9.v.1) (y2 := m9.v.2) (sk := m9.sk) (tg := m9.tg) (by exact inv_i h0 f1_1) (by exact f1_1.sk) (by exact (ZqG h0 f1_1).1) (by exact (ZqG h0 f1_1).2.1) (by exact (ZqG h0 f1_1).2.2) (by exact fun g hg => (hfr g hg).1) (by exact hw _ (Zc hn))) Zrm rfl rfl rfl (lb rfl) hS hJ0 Zt (fun a w h => (Za (h.get 0 rfl) Ze)) fun z3 => ?_
 refine snK 1 tb rfl ?_
 refine seK [0,3,4] [_,_,_] rfl ?_
 refine nx (cj 0 (fun hb1 => ?_) fun hb1 => ?_)
 try simp at hb1
 have e5 := f1_2.trans (ZmB (fs := d.frames) (vars := d.vars) (f := ge d.frames n) f1_1 (by rw [← Zhu]; exact hb1))
 refine ZC (nx (tsq ?_))
 refine snK 1 tb rfl ?_
 refine sq (.at z2.1 0) rfl rfl (lb rfl) (fun _ _ h => Zk rfl (h.get 0 rfl) h.x) ?_
 refine sq (.at z2.1 17) rfl rfl (lb rfl) (fun _ _ h => Zn Zde rfl (h.get 0 rfl) h.x) ?_
 refine sq (.agg [.lit (.int .i64 ((ZQ d.frames d.vars (ge d.frames n) (QR d n t) ⟨m9.sk, m9.tg, m9.n, m9.kn, (m9.v.1, m9.v.2), false⟩).v.1)), .lit (.int .i64 ((ZQ d.frames d.vars (ge d.frames n) (QR d n t) ⟨m9.sk, m9.tg, m9.n, m9.kn, (m9.v.1, m9.v.2), false⟩).v.2))]) rfl rfl (lb rfl) (fun _ _ h => Yd (cs := (mkC d (ge d.frames n) [.lit z2.2.1, Xm (QR d n t), .lit z3.1, .lit z3.2, .lit (.int .i64 (((ZQ d.frames d.vars (ge d.frames n) (QR d n t) ⟨m9.sk, m9.tg, m9.n, m9.kn, (m9.v.1, m9.v.2), false⟩).n : Nat) : Int)), .lit (.bool ((ZQ d.frames d.vars (ge d.frames n) (QR d n t) ⟨m9.sk, m9.tg, m9.n, m9.kn, (m9.v.1, m9.v.2), false⟩).kn)), .lit (.int .i64 ((ZQ d.frames d.vars (ge d.frames n) (QR d n t) ⟨m9.sk, m9.tg, m9.n, m9.kn, (m9.v.1, m9.v.2), false⟩).v.1)), .lit (.int .i64 ((ZQ d.frames d.vars (ge d.frames n) (QR d n t) ⟨m9.sk, m9.tg, m9.n, m9.kn, (m9.v.1, m9.v.2), false⟩).v.2))])) (ds := [.lit (.int .i64 ((ZQ d.frames d.vars (ge d.frames n) (QR d n t) ⟨m9.sk, m9.tg, m9.n, m9.kn, (m9.v.1, m9.v.2), false⟩).v.1)), .lit (.int .i64 ((ZQ d.frames d.vars (ge d.frames n) (QR d n t) ⟨m9.sk, m9.tg, m9.n, m9.kn, (m9.v.1, m9.v.2), false⟩).v.2))]) ZaW rfl (Zd h.x (mo 0 rfl)) (h.get 0 rfl) rfl rfl h.x) ?_
 refine kw pm3 ?_
 refine ZE (b := b1) (off := 0) (cs := [.lit (.int .i64 0), .lit (.int .i64 0)]) (es := [.lit (.int .i64 ((ZQ d.frames d.vars (ge d.frames n) (QR d n t) ⟨m9.sk, m9.tg, m9.n, m9.kn, (m9.v.1, m9.v.2), false⟩).v.1)), .lit (.int .i64 ((ZQ d.frames d.vars (ge d.frames n) (QR d n t) ⟨m9.sk, m9.tg, m9.n, m9.kn, (m9.v.1, m9.v.2), false⟩).v.2))]) (news := [.lit (.int .i64 ((ZQ d.frames d.vars (ge d.frames n) (QR d n t) ⟨m9.sk, m9.tg, m9.n, m9.kn, (m9.v.1, m9.v.2), false⟩).v.1)), .lit (.int .i64 ((ZQ d.frames d.vars (ge d.frames n) (QR d n t) ⟨m9.sk, m9.tg, m9.n, m9.kn, (m9.v.1, m9.v.2), false⟩).v.2))]) hJ hJ0 QM rfl rfl rfl (lb rfl) rfl (fun a w h => ⟨(h.get 6 rfl), (h.get 0 rfl)⟩) ?_
 refine seK [6] [_] rfl ?_
 exact nx (Zi (fun a w h => Zae (cs := [.lit (.int .i64 ((ZQ d.frames d.vars (ge d.frames n) (QR d n t) ⟨m9.sk, m9.tg, m9.n, m9.kn, (m9.v.1, m9.v.2), false⟩).v.1)), .lit (.int .i64 ((ZQ d.frames d.vars (ge d.frames n) (QR d n t) ⟨m9.sk, m9.tg, m9.n, m9.kn, (m9.v.1, m9.v.2), false⟩).v.2))]) (m := 0) rfl ZaW h rfl rfl (show ([.lit (.int .i64 ((ZQ d.frames d.vars (ge d.frames n) (QR d n t) ⟨m9.sk, m9.tg, m9.n, m9.kn, (m9.v.1, m9.v.2), false⟩).v.1)), .lit (.int .i64 ((ZQ d.frames d.vars (ge d.frames n) (QR d n t) ⟨m9.sk, m9.tg, m9.n, m9.kn, (m9.v.1, m9.v.2), false⟩).v.2))] : List CD) = [.lit (.int .i64 ((Zce d.frames d.vars (ge d.frames n) (Zah (d.frames.take n)) t).1)), .lit (.int .i64 ((Zce d.frames d.vars (ge d.frames n) (Zah (d.frames.take n)) t).2))] from by rw [verV, e5]; rfl)))
 try simp at hb1
 have e6 := ZmA (fs := d.frames) (vars := d.vars) (f := ge d.frames n) f1_1 (by rw [← Zhu]; exact hb1)
 exact Zf (XP ((ZQ d.frames d.vars (ge d.frames n) (QR d n t) m9), z3.1, z3.2) [1,2] ⟨Zmx (fun g hg => (hfr g hg).2) h0 f1_1, f1_2.trans e6.1⟩ (hm := (show (QR d n t).length - (ZQ d.frames d.vars (ge d.frames n) (QR d n t) m9).n < (QR d n t).length - m9.n from by rw [e6.2.1]; omega)))
end Go.Proofs.YtgifeodnngodiaaGreatDoor
set_option maxHeartbeats 8000000
set_option maxRecDepth 100000
namespace Go.Proofs.YtgifeodnngodiaaGreatDoor
open Go.RowKit
theorem ZaJ : ZdD Tryz.prog 30 [.int .i64 0, .int .i64 0] := ⟨fun i => (#[(0, 1), (1, 1)] : Array (Nat × Nat))[i]?, fun j hj => by rcases j with _ | _ | j <;> first | rfl | (simp at hj; omega), fun parts => by kernel_rfl⟩
theorem Zky {J : World → Prop} (hJ : Stab J) (d : Db) (n : Nat) (hn : n < d.frames.length) (hck : ZcB d = 0) (hw : ∀ f ∈ d.frames, f.wide.length * 32 ≤ 140737488351232) (hpl : ∀ g ∈ d.frames, g.proof.length ≤ 100000 ∧ Zb3 g.proof ≤ 1000000000) : Fn Tryz.prog J 35 [.agg (dbC d), .int (n : Nat)] (.agg (vdC (ZdX d n))) := by
 refine Zx (N := 22) Tryz.func35 rfl rfl (lb rfl) fun S w0 hS hJ0 => ?_
 refine tw Ym ?_
 refine tsq ?_
 refine sq (.ptr (dbC d)) rfl rfl (lb rfl) (fun _ _ h => YX rfl (h.get 0 rfl) (Zr hS _ h.keep h.x _ (Nat.le_refl _)) (jo hJ h.x)) ?_
 refine ZW ZbN hJ rfl rfl rfl (lb rfl) fun b1 => ?_
 refine seK [0,1,3] [_,_,_] rfl ?_
 refine nx (Zo (ZP tb hJ [0,1,2,1001,1006] [_,_,_,.ptr (frC (ge d.frames n)),_,_,_] [3] [_,_,_,_,_] rfl ⟨iIx YD, trivial⟩ ?_))
 refine ln 3 fun hl1 => ?_
 refine cj 4 (fun hb1 => ?_) fun hb1 => ?_
 try simp at hb1
 refine tsq ?_
 refine sq (.agg (vdC (⟨0, 0⟩ : Int × Int))) rfl rfl (lb rfl) (fun _ _ h => Yy (ps := []) (us := [.int .i64 0, .int .i64 0]) ZaJ rfl (by simp) Ze7 rfl (YG (.lit _ True.intro) (YG (.lit _ True.intro) ZM)) h.x) ?_
 refine ZE (b := b1) (off := 0) (cs := [.lit (.int .i64 0), .lit (.int .i64 0)]) (es := [.lit (.int .i64 ((⟨0, 0⟩ : Int × Int).1)), .lit (.int .i64 ((⟨0, 0⟩ : Int × Int).2))]) (news := [.lit (.int .i64 ((⟨0, 0⟩ : Int × Int).1)), .lit (.int .i64 ((⟨0, 0⟩ : Int × Int).2))]) hJ hJ0 QM rfl rfl rfl (lb rfl) rfl (fun a w h => ⟨(h.get 1 rfl), (h.get 0 rfl)⟩) ?_
 refine seK [1] [_] rfl ?_
 exact nx (Zi (fun a w h => Zae (cs := [.lit (.int .i64 ((⟨0, 0⟩ : Int × Int).1)), .lit (.int .i64 ((⟨0, 0⟩ : Int × Int).2))]) (m := 0) rfl ZaW h rfl rfl (show ([.lit (.int .i64 ((⟨0, 0⟩ : Int × Int).1)), .lit (.int .i64 ((⟨0, 0⟩ : Int × Int).2))] : List CD) = [.lit (.int .i64 ((ZdX d n).1)), .lit (.int .i64 ((ZdX d n).2))] from by simp [ZdX, hb1])))
 try simp at hb1
 refine Zf (nx (Zo (fun a w h => YH (γ := Unit) (fun ix' => ([.agg (dbC d), .int (n : Nat), .ptr [Zbc d.frames], .rd (Zbc d.frames), .int (n : Nat), .ptr (frC (ge d.frames n)), .ptr [Zb ((ge d.frames n).proof)], .rd (Zb ((ge d.frames n).proof)), .agg (vdC (Zce d.frames d.vars (ge d.frames n) (Zah (d.frames.take n)) ((ge d.frames n).proof))), .any] : List AV).getD ix' .any) (fun ix' => ([true, true, true, true, true, true, true, true, true, true] : List Bool).getD ix' true) [(4, fun (g : Unit) => .at b1 0)] (fun (j' : Nat) (g : Unit) => match j' with | 0 => [OB.var b1 [.lit (.int .i64 0), .lit (.int .i64 0)]] | _ => [OB.var b1 [.lit (.int .i64 ((Zce d.frames d.vars (ge d.frames n) (Zah (d.frames.take n)) ((ge d.frames n).proof)).1)), .lit (.int .i64 ((Zce d.frames d.vars (ge d.frames n) (Zah (d.frames.take n)) ((ge d.frames n).proof)).2))]]) (fun (k' : Nat) (g : Unit) => match k' with | 0 => undef | _ => undef) [9] 0 () (fun _ => rfl) h hJ Yg rfl rfl rfl rfl rfl rfl (fun j' g hj p hp => by rcases j' with _ | _ | _ | j' <;> first | exact hp | exact List.mem_cons_of_mem _ hp | exact List.mem_cons_of_mem _ (List.mem_cons_of_mem _ hp) | (exfalso; omega)) ⟨?o3_1_0, ⟨?o3_1_1, ⟨?o3_1_2, ⟨?o3_1_3, ⟨?o3_1_4, ⟨?o3_1_5, ⟨?o3_1_6, ⟨?o3_1_7, ⟨?o3_1_8, ⟨?o3_1_9, trivial⟩⟩⟩⟩⟩⟩⟩⟩⟩⟩ ⟨?e3_1_0, trivial⟩ ⟨.old 0 4 _ rfl rfl, trivial⟩ ?n3_1)))
 case o3_1_0 => exact fun _ O' _ => ⟨rfl, fun _ _ _ hx hl _ => Za8 ZcE rfl (hl.env 1 2 _ rfl rfl) (Nat.le_refl _) hx⟩
 case o3_1_1 => exact fun _ O' _ => ⟨rfl, fun _ _ _ hx hl _ => Yo rfl (hl.env 2 1 _ rfl rfl) hx⟩
 case o3_1_2 => exact fun _ O' _ => ⟨rfl, fun _ _ _ hx hl _ => ZU QX rfl (hl.env 1 2 _ rfl rfl) hx⟩
 case o3_1_3 => exact fun _ O' _ => ⟨rfl, fun _ _ _ hx hl _ => Zz ZhQ rfl (hl.dep 2 15 _ rfl rfl rfl rfl) hx⟩
 case o3_1_4 => exact fun _ O' _ => ⟨rfl, fun _ _ _ hx hl _ => Yo rfl (hl.env 2 1 _ rfl rfl) hx⟩
 case o3_1_5 => exact fun _ O' _ => ⟨rfl, fun _ _ _ hx hl _ => Yi (i := (n : Int)) YD rfl (hl.dep 3 16 _ rfl rfl rfl rfl) (hl.dep 4 17 _ rfl rfl rfl rfl) (Int.natCast_nonneg _) (Yv (xs := d.frames) (k := n) (by first | omega | (simp; omega) | grind [Zc])) rfl hx⟩
 case o3_1_6 => exact fun _ O' _ => ⟨rfl, fun _ _ _ hx hl _ => ZU Zje rfl (hl.dep 5 18 _ rfl rfl rfl rfl) hx⟩
 case o3_1_7 => exact fun _ O' _ => ⟨rfl, fun _ _ _ hx hl _ => Zz XR rfl (hl.dep 6 19 _ rfl rfl rfl rfl) hx⟩
 case o3_1_8 => exact fun _ O' _ => ⟨rfl, fun _ _ hk hx hl _ => Zez (Zkx hJ (d := d) (n := n) (t := ((ge d.frames n).proof)) (by first | omega | (simp; omega) | grind [Zc]) (by exact Zq5 hck) (by exact fun g hg => ⟨(ZcA hck g hg).1, (ZcA hck g hg).2.1⟩) (by exact Zi6 (Zc4 _ (by omega)) (by omega)) (by exact (ZcA hck _ (Zc (by omega))).2.2) (by exact hw) (by exact (hpl _ (Zc hn)).1) (by exact (hpl _ (Zc hn)).2)) Zro rfl (Zr hS _ hk hx) (hx.1) (Za (hl.dep 0 13 _ rfl rfl rfl rfl) (Za (hl.dep 1 14 _ rfl rfl rfl rfl) (Za (hl.dep 7 20 _ rfl rfl rfl rfl) Ze))) (jo hJ hx)⟩
 case o3_1_9 => exact Zl rfl
 case e3_1_0 => exact ⟨_, rfl, rfl, rfl, rfl, fun g _ w hk hx hl _ => (by obtain ⟨us2, hv2, hr3⟩ := Q5 (cs := [.lit (.int .i64 ((Zce d.frames d.vars (ge d.frames n) (Zah (d.frames.take n)) ((ge d.frames n).proof)).1)), .lit (.int .i64 ((Zce d.frames d.vars (ge d.frames n) (Zah (d.frames.take n)) ((ge d.frames n).proof)).2))]) (hl.dep 8 21 _ rfl rfl rfl rfl); exact Zs (Xq (off := 0) (cs := [.lit (.int .i64 0), .lit (.int .i64 0)]) (news := [.lit (.int .i64 ((Zce d.frames d.vars (ge d.frames n) (Zah (d.frames.take n)) ((ge d.frames n).proof)).1)), .lit (.int .i64 ((Zce d.frames d.vars (ge d.frames n) (Zah (d.frames.take n)) ((ge d.frames n).proof)).2))]) (es := [.lit (.int .i64 ((Zce d.frames d.vars (ge d.frames n) (Zah (d.frames.take n)) ((ge d.frames n).proof)).1)), .lit (.int .i64 ((Zce d.frames d.vars (ge d.frames n) (Zah (d.frames.take n)) ((ge d.frames n).proof)).2))]) (us := us2) hJ hJ0 QM rfl hk hx (hl.env 0 4 _ rfl rfl) (by rw [hv2]; rfl) hr3 (lb rfl) rfl) fun v w' hp => ⟨g, rfl, fun _ _ => rfl, fun e => (by cases e), hp⟩)⟩
 clear a w h
 intro _
 change ∀ a w, St All (SO S [OB.var b1 [.lit (.int .i64 ((Zce d.frames d.vars (ge d.frames n) (Zah (d.frames.take n)) ((ge d.frames n).proof)).1)), .lit (.int .i64 ((Zce d.frames d.vars (ge d.frames n) (Zah (d.frames.take n)) ((ge d.frames n).proof)).2))]]) w0 22 [(4, .at b1 0)] (XO J S w0.heap.size [OB.var b1 [.lit (.int .i64 ((Zce d.frames d.vars (ge d.frames n) (Zah (d.frames.take n)) ((ge d.frames n).proof)).1)), .lit (.int .i64 ((Zce d.frames d.vars (ge d.frames n) (Zah (d.frames.take n)) ((ge d.frames n).proof)).2))]]) a w → _
 exact nx (Zi (fun a w h => Zae (cs := [.lit (.int .i64 ((Zce d.frames d.vars (ge d.frames n) (Zah (d.frames.take n)) ((ge d.frames n).proof)).1)), .lit (.int .i64 ((Zce d.frames d.vars (ge d.frames n) (Zah (d.frames.take n)) ((ge d.frames n).proof)).2))]) (m := 0) rfl ZaW h rfl rfl (show ([.lit (.int .i64 ((Zce d.frames d.vars (ge d.frames n) (Zah (d.frames.take n)) ((ge d.frames n).proof)).1)), .lit (.int .i64 ((Zce d.frames d.vars (ge d.frames n) (Zah (d.frames.take n)) ((ge d.frames n).proof)).2))] : List CD) = [.lit (.int .i64 ((ZdX d n).1)), .lit (.int .i64 ((ZdX d n).2))] from by simp [ZdX, hb1])))
theorem ZcX {J : World → Prop} (hJ : Stab J) (d : Db) (z : Int) (hw : ∀ f ∈ d.frames, f.wide.length * 32 ≤ 140737488351232) (hG : Q1 J) (hpl : ∀ g ∈ d.frames, g.proof.length ≤ 100000 ∧ Zb3 g.proof ≤ 1000000000) : Fn Tryz.prog J 9 [.agg (dbC d), .int z] (.tup [.agg (vdC ((QG d z).1)), .int ((QG d z).2)]) := by
 refine Zx (N := 17) Tryz.func9 rfl rfl (lb rfl) fun S w0 hS hJ0 => ?_
 refine tw Ym ?_
 refine tsq ?_
 refine sq (.ptr (dbC d)) rfl rfl (lb rfl) (fun _ _ h => YX rfl (h.get 0 rfl) (Zr hS _ h.keep h.x _ (Nat.le_refl _)) (jo hJ h.x)) ?_
 refine ZW ZbN hJ rfl rfl rfl (lb rfl) fun b1 => ?_
 refine snK 1 tb rfl ?_
 refine seK [1,2,4] [_,_,_] rfl ?_
 refine nx (Zo (ZP tb hJ [0,1,2,1003] [_,_,.int (Qr d z),_] [2] [_,_,_,_] rfl ⟨iFo hS hJ (ZkH hJ (d := d) (z := z) (by exact hw) (by exact hG)) Zrr, trivial⟩ ?_))
 refine qso tb hJ [0,1,2,3,1001] [_,_] [_,_,_,_,_] ?_
 refine cj 4 (fun hb1 => ?_) fun hb1 => ?_
 try simp at hb1
 refine tsq ?_
 refine sq (.agg (vdC (⟨0, 0⟩ : Int × Int))) rfl rfl (lb rfl) (fun _ _ h => Yy (ps := []) (us := [.int .i64 0, .int .i64 0]) ZaJ rfl (by simp) Ze7 rfl (YG (.lit _ True.intro) (YG (.lit _ True.intro) ZM)) h.x) ?_
 refine snK 1 tb rfl ?_
 refine ZE (b := b1) (off := 0) (cs := [.lit (.int .i64 0), .lit (.int .i64 0)]) (es := [.lit (.int .i64 ((⟨0, 0⟩ : Int × Int).1)), .lit (.int .i64 ((⟨0, 0⟩ : Int × Int).2))]) (news := [.lit (.int .i64 ((⟨0, 0⟩ : Int × Int).1)), .lit (.int .i64 ((⟨0, 0⟩ : Int × Int).2))]) hJ hJ0 QM rfl rfl rfl (lb rfl) rfl (fun a w h => ⟨(h.get 2 rfl), (h.get 1 rfl)⟩) ?_
 refine snK 1 tb rfl ?_
 refine seK [0,3] [_,_] rfl ?_
 exact nx (Zi (fun a w h => ZeG (cs := [.lit (.int .i64 ((⟨0, 0⟩ : Int × Int).1)), .lit (.int .i64 ((⟨0, 0⟩ : Int × Int).2))]) (m := 1) (q := 0) rfl ZaW h rfl rfl (show ([.lit (.int .i64 ((⟨0, 0⟩ : Int × Int).1)), .lit (.int .i64 ((⟨0, 0⟩ : Int × Int).2))] : List CD) = [.lit (.int .i64 (((QG d z).1).1)), .lit (.int .i64 (((QG d z).1).2))] from by simp [QG, hb1]) rfl (eI (by simp [QG, hb1]))))
 try simp at hb1
 have ha : Qr d z = 0 := by simpa using hb1
 obtain ⟨hck, hz0, hz1⟩ := Zip ha
 refine tw (sa 2 rfl (show (.int z : AV) = .int (z.toNat : Nat) from congrArg AV.int (by omega))) ?_
 refine Zf (nx (tsq ?_))
 refine snK 2 tb rfl ?_
 refine sq (.agg (vdC (ZdX d z.toNat))) rfl rfl (lb rfl) (fun _ _ h => Zez (Zky hJ (d := d) (n := z.toNat) (by first | omega | (simp; omega) | grind [Zc]) (by exact hck) (by exact hw) (by exact hpl)) Zrq rfl (Zr hS _ h.keep h.x) (h.x.1) (Za (h.get 1 rfl) (Za (h.get 0 rfl) Ze)) (jo hJ h.x)) ?_
 refine ZE (b := b1) (off := 0) (cs := [.lit (.int .i64 0), .lit (.int .i64 0)]) (es := [.lit (.int .i64 ((ZdX d z.toNat).1)), .lit (.int .i64 ((ZdX d z.toNat).2))]) (news := [.lit (.int .i64 ((ZdX d z.toNat).1)), .lit (.int .i64 ((ZdX d z.toNat).2))]) hJ hJ0 QM rfl rfl rfl (lb rfl) rfl (fun a w h => ⟨(h.get 3 rfl), (h.get 0 rfl)⟩) ?_
 refine snK 1 tb rfl ?_
 refine seK [0,4] [_,_] rfl ?_
 exact nx (Zi (fun a w h => ZeG (cs := [.lit (.int .i64 ((ZdX d z.toNat).1)), .lit (.int .i64 ((ZdX d z.toNat).2))]) (m := 1) (q := 0) rfl ZaW h rfl rfl (show ([.lit (.int .i64 ((ZdX d z.toNat).1)), .lit (.int .i64 ((ZdX d z.toNat).2))] : List CD) = [.lit (.int .i64 (((QG d z).1).1)), .lit (.int .i64 (((QG d z).1).2))] from by simp [QG, hb1]) rfl (eI (by simp [QG, hb1]))))
end Go.Proofs.YtgifeodnngodiaaGreatDoor
namespace Go.Proofs.YtgifeodnngodiaaGreatDoor
open Go.RowKit

theorem Zkm : ∀ (r : List Value) (s off : Nat) (pre old post : List Value), pre.length = off + s → old.length = r.length →
    (r.zipIdx s).foldl (fun (cs : Array Value) (x : Value × Nat) => cs.setIfInBounds (off + x.2) x.1) (pre ++ old ++ post).toArray = (pre ++ r ++ post).toArray
  | [], s, off, pre, old, post, _, h2 => by
    have : old = [] := List.length_eq_zero_iff.1 (by simpa using h2)
    subst this
    rfl
  | v :: r, s, off, pre, old, post, h1, h2 => by
    match old, h2 with
    | u :: old, h2 =>
      rw [List.zipIdx_cons, List.foldl_cons]
      have e : ((pre ++ u :: old ++ post).toArray.setIfInBounds (off + s) v) = ((pre ++ [v]) ++ old ++ post).toArray := by
        rw [List.setIfInBounds_toArray]
        congr 1
        rw [List.append_assoc, List.set_append_right _ _ (by omega), h1.symm, Nat.sub_self]
        simp
      rw [e, Zkm r (s + 1) off (pre ++ [v]) old post (by simp; omega) (by simpa using h2)]
      simp
theorem Zf6 {k : Nat} : ∀ (rows : List (List Value)) (i : Nat) (pre z : List Value), pre.length = i * k → z.length = rows.length * k → (∀ r ∈ rows, r.length = k) →
    Instr.fill (fun i => some (i * k, k)) (pre ++ z).toArray ((rows.zipIdx i).map fun p => (p.2, Value.agg p.1.toArray)) = some (pre ++ rows.flatten).toArray
  | [], i, pre, z, _, h2, _ => by
    have : z = [] := List.length_eq_zero_iff.1 (by simpa using h2)
    subst this
    simp [Instr.fill]
  | r :: rows, i, pre, z, h1, h2, h3 => by
    have hr := h3 r (by simp)
    have hz : z.length = k + rows.length * k := by rw [h2, List.length_cons, Nat.succ_mul, Nat.add_comm]
    have hcell : (Value.agg r.toArray).cells = r.toArray := rfl
    simp only [List.zipIdx_cons, List.map_cons, Instr.fill, hcell]
    rw [if_neg (by simp [hr]; omega)]
    have e : (Array.foldl (fun cs (x : Value × Nat) => cs.setIfInBounds (i * k + x.snd) x.fst) (pre ++ z).toArray r.toArray.zipIdx) = ((pre ++ r) ++ z.drop k).toArray := by
      have := Zkm r 0 (i * k) pre (z.take k) (z.drop k) h1 (by rw [List.length_take]; omega)
      rw [List.append_assoc pre, List.take_append_drop] at this
      rw [← this]
      simp
    rw [e, Zf6 rows (i + 1) (pre ++ r) (z.drop k) (by rw [List.length_append, h1, hr, Nat.succ_mul]) (by rw [List.length_drop]; omega) fun q hq => h3 q (by simp [hq])]
    simp
section
variable {n : Rn} {N : Nat} {P : Program} {J X : World → Prop} {S S' S'' : Nat → Prop} {O : List OB} {w0 : World} {env : List (Nat × AV)} {Q : Exit → Act → World → Prop}
variable {o : Oper} {a : Act} {w : World} {t e u : TypeId} {x y : Operand}
theorem Zj8 {k : Nat} : ∀ {cs : List (List CD)} {vs : List Value}, RelL S w (cs.map AV.agg) vs → (∀ r ∈ cs, r.length = k) →
    ∃ us : List (List Value), vs = us.map (fun r => Value.agg r.toArray) ∧ us.length = cs.length ∧ (∀ r ∈ us, r.length = k) ∧ RdL S w cs.flatten us.flatten
  | [], vs, h, _ => by
    simp only [List.map_nil, RelL] at h
    subst h
    exact ⟨[], rfl, rfl, by simp, trivial⟩
  | c :: cs, vs, h, hk => by
    simp only [List.map_cons, RelL] at h
    obtain ⟨v, vs', rfl, h1, h2⟩ := h
    simp only [Rel] at h1
    obtain ⟨u, rfl, hr⟩ := h1
    obtain ⟨us, rfl, hl, hk2, hr2⟩ := Zj8 (cs := cs) h2 fun r hr => hk r (by simp [hr])
    refine ⟨u :: us, rfl, by simp [hl], fun r hr3 => ?_, ?_⟩
    · rcases List.mem_cons.1 hr3 with rfl | hr3
      · rw [hr.length]; exact hk c (by simp)
      · exact hk2 r hr3
    · rw [List.flatten_cons, List.flatten_cons]
      exact hr.append hr2
theorem ZhE {k m : Nat} {cs : List (List CD)} {vs : List Value} {z : Array Value} {parts : Array (Nat × Operand)} (ht : Yc P t e k) (hz : ∀ w, (zeroValue e).run P w = .ok (.agg z) w) (hop : o.op = .buildSlice t m parts) (hp : (parts.map fun (i, x) => (i, a.eval x)).toList = vs.zipIdx.map fun p => (p.2, p.1)) (h : RelL S w (cs.map AV.agg) vs) (hk : ∀ r ∈ cs, r.length = k) (hl : cs.length = m) (h1 : 1 ≤ k) (hm : 1 ≤ m * k) (hm2 : m * k ≤ 16777216)
    (hS : S w.heap.size) (hx : ∀ w', Keeps All w w' → X w') : Z3 n P o a w (Yk S X (.rd (.sl cs)) w) := by
  obtain ⟨us, rfl, hul, huk, hall⟩ := Zj8 h hk
  have hfl : us.flatten.length = m * k := by
    have : ∀ us : List (List Value), (∀ r ∈ us, r.length = k) → us.flatten.length = us.length * k := by
      intro us
      induction us with
      | nil => simp
      | cons r us ih => intro h; rw [List.flatten_cons, List.length_append, h r (by simp), ih fun q hq => h q (by simp [hq]), List.length_cons, Nat.succ_mul, Nat.add_comm]
    rw [this us huk, hul, hl]
  have hf := Zf6 us 0 [] ((List.range (m * k)).map (z[· % z.size]!)) (by simp) (by simp [hul, hl]) huk
  have hf2 : Instr.fill (fun i => some (i * k, k)) ((Array.range (m * k)).map (z[· % z.size]!)) (parts.map fun (i, x) => (i, a.eval x)).toList = some us.flatten.toArray := by
    rw [hp, List.zipIdx_map, List.map_map]
    have e : (Array.range (m * k)).map (z[· % z.size]!) = ([] ++ (List.range (m * k)).map (z[· % z.size]!)).toArray := by
      apply Array.ext'
      simp [Array.toList_range]
    rw [e]
    exact hf
  have hk' : Keeps All w (w.alloc (.cells us.flatten.toArray e)) := (Keeps.refl _ _).alloc _
  refine ZO (v := .slice (some ⟨w.heap.size, 0, none⟩) m m) (w' := w.alloc (.cells us.flatten.toArray e)) ?_ ⟨?_, hk', hx _ hk'⟩
  · have hcz : (Value.agg z).cells = z := rfl
    rw [execOp, hop]
    simp only [Sem.run_bind, Instr.buildSlice, run_underlying ht.1, Result.andThen_ok, ht.2 w]
    simp [newRow, newObj]
    rw [hz w]
    simp only [Result.andThen_ok, hcz]
    have hf3 := hf2
    simp only [Array.toList_map] at hf3
    simp only [hf3]
    rw [if_neg (by omega), if_neg (by omega)]
    rfl
  · simp only [Rel]
    rw [show (m : Nat) = cs.length from hl.symm]
    refine Rd.of_cells (n := k) (us := us.flatten) (Nat.le_refl _) (by rw [hl]; exact Nat.le_trans (Nat.le_mul_of_pos_right m h1) (Nat.le_trans hm2 (by decide))) (by simp) hS hk (hall.keep hk' fun _ _ _ => trivial) fun j u hj => QE j u hj
def Zma (P : Program) (t : TypeId) : Prop := ∀ (ad : Option Addr) (k c : Nat) (p q : Int), P.built t [(0, .slice ad k c), (1, .agg #[.int .i64 p, .int .i64 q])] = some #[.slice ad k c, .int .i64 p, .int .i64 q]
theorem ZbJ {c d : Int} {v : Value} (h : Rel S w (.agg [.lit (.int .i64 c), .lit (.int .i64 d)]) v) : v = .agg #[.int .i64 c, .int .i64 d] := by
  simp only [Rel] at h
  obtain ⟨us, rfl, hr⟩ := h
  match us, hr with
  | [p, q], hr =>
    obtain rfl := hr.1.of_lit
    obtain rfl := hr.2.1.of_lit
    rfl
theorem Zav {xs : List ByteArray} {p q : Int} (ht : Zma P t) (hop : o.op = .build t #[(0, x), (1, y)]) (h1 : Rel S w (.rd (Zb xs)) (a.eval x)) (h2 : Rel S w (.agg [.lit (.int .i64 p), .lit (.int .i64 q)]) (a.eval y)) (hx : X w) :
    Z3 n P o a w (Yk S X (.agg [Zb xs, .lit (.int .i64 p), .lit (.int .i64 q)]) w) := by
  have v2 := ZbJ h2
  simp only [Rel] at h1
  have g1 := h1
  obtain ⟨ad, cap, e1, _, _⟩ := g1.form
  have hrun := run_build (P := P) w t #[(0, a.eval x), (1, a.eval y)] #[a.eval x, .int .i64 p, .int .i64 q] (by rw [v2, e1]; exact ht ad _ cap p q)
  refine Zv (v := .agg #[a.eval x, .int .i64 p, .int .i64 q]) ?_ ?_ hx
  · rw [execOp, hop]
    simp only [List.map_toArray, List.map_cons, List.map_nil, Sem.run_bind, hrun]
    rfl
  · simp only [Rel]
    exact ⟨[a.eval x, .int .i64 p, .int .i64 q], rfl, h1, .lit _ True.intro, .lit _ True.intro, trivial⟩
def EqVd (P : Program) (t : TypeId) : Prop := ∀ (a b c d : Int) (w : World) (x y : Operand), (eqGuard .eql t x y (.agg #[.int .i64 a, .int .i64 b]) (.agg #[.int .i64 c, .int .i64 d])).run P w = .ok () w ∧ (eqGuard .neq t x y (.agg #[.int .i64 a, .int .i64 b]) (.agg #[.int .i64 c, .int .i64 d])).run P w = .ok () w ∧
  (Op.equal t (.agg #[.int .i64 a, .int .i64 b]) (.agg #[.int .i64 c, .int .i64 d])).run P w = .ok (decide (a = c) && decide (b = d)) w
theorem r_eqlV {c d c' d' : Int} (ht : EqVd P t) (hop : o.op = .binOp .eql t x y u) (h1 : Rel S w (.agg [.lit (.int .i64 c), .lit (.int .i64 d)]) (a.eval x)) (h2 : Rel S w (.agg [.lit (.int .i64 c'), .lit (.int .i64 d')]) (a.eval y)) (hx : X w) :
    Z3 n P o a w (Yk S X (.bool (decide (c = c') && decide (d = d'))) w) := by
  obtain ⟨g1, _, g3⟩ := ht c d c' d' w x y
  refine Zv (v := .bool (decide (c = c') && decide (d = d'))) ?_ (Rel.of_lit _) hx
  rw [execOp, hop]
  simp only [ZbJ h1, ZbJ h2, Sem.run_bind, g1, Result.andThen_ok, binOp, g3]
  rfl
theorem r_neqV {c d c' d' : Int} (ht : EqVd P t) (hop : o.op = .binOp .neq t x y u) (h1 : Rel S w (.agg [.lit (.int .i64 c), .lit (.int .i64 d)]) (a.eval x)) (h2 : Rel S w (.agg [.lit (.int .i64 c'), .lit (.int .i64 d')]) (a.eval y)) (hx : X w) :
    Z3 n P o a w (Yk S X (.bool (!(decide (c = c') && decide (d = d')))) w) := by
  obtain ⟨_, g1, g3⟩ := ht c d c' d' w x y
  refine Zv (v := .bool (!(decide (c = c') && decide (d = d')))) ?_ (Rel.of_lit _) hx
  rw [execOp, hop]
  simp only [ZbJ h1, ZbJ h2, Sem.run_bind, g1, Result.andThen_ok, binOp, g3]
  rfl
end
end Go.Proofs.YtgifeodnngodiaaGreatDoor
namespace Go.Proofs.YtgifeodnngodiaaGreatDoor

def Zaa (d : Db) (m : Nat) : Db := { d with frames := d.frames.take m }
section
variable {d : Db} {m k : Nat}
theorem Zef (h : k < m) : ge (Zaa d m).frames k = ge d.frames k := by
  show ge (d.frames.take m) k = _
  simp only [ge, List.getD_eq_getElem?_getD, List.getElem?_take]
  rw [if_pos h]
theorem Zcx (h : k ≤ m) : (Zaa d m).frames.take k = d.frames.take k := by
  show (d.frames.take m).take k = _
  rw [List.take_take, Nat.min_eq_left h]
theorem Zly (h : k ≤ m) : frL (Zaa d m) k = frL d k := by
  funext s; unfold frL; rw [Zcx h]
theorem ZqY (h : k ≤ m) : hyL (Zaa d m) k = hyL d k := by
  funext s; unfold hyL; rw [Zcx h]
theorem ZqX (h : k ≤ m) : oth (Zaa d m) k = oth d k := by
  unfold oth; rw [Zcx h]
theorem ZnH (h : k < m) (y : Hy) (bs : List Hy) (dm : Bool) : Zjt (Zaa d m) k y bs dm = Zjt d k y bs dm := by
  unfold Zjt
  rw [Zly (Nat.succ_le_of_lt h), ZqX (Nat.le_of_lt h)]
  rfl
theorem ZqZ (h : k < m) : frE (Zaa d m) k = frE d k := by
  have h1 : ZrA (Zaa d m) k = ZrA d k := by
    unfold ZrA
    split
    · rfl
    · rw [Zef (by omega)]
  have h2 : Zmd (Zaa d m) k = Zmd d k := by
    unfold Zmd
    rw [Zef h]
    congr 1
    funext i
    unfold Znn
    rw [Zef h, ZnH h]
  unfold frE ZrL
  rw [Zef h]
  simp only [h2, Zly (Nat.le_of_lt h), ZqY (Nat.le_of_lt h), ordB, h1]
  rfl
theorem ZnP (h : ZcB d = 0) : ZcB (Zaa d m) = 0 := by
  have hs : ZcN (Zaa d m) = ZcN d := rfl
  unfold ZcB at h ⊢
  rw [hs]
  split at h
  · cases h
  rename_i h1
  split at h
  · rename_i h2
    rw [h] at h2
    simp at h2
  rename_i h2
  have hl : (Zaa d m).frames.length ≤ d.frames.length := by
    show (d.frames.take m).length ≤ _
    rw [List.length_take]; omega
  have hlm : (Zaa d m).frames.length ≤ m := by
    show (d.frames.take m).length ≤ _
    rw [List.length_take]; omega
  rw [if_neg, if_neg h2]
  · refine Qm fun j hj => ?_
    rw [ZqZ (by omega)]
    exact Qf h j (by omega)
  · have hc : (Zaa d m).consts = d.consts := rfl
    have hv : (Zaa d m).vars = d.vars := rfl
    rw [hc, hv]
    simp only [Bool.or_eq_true, decide_eq_true_eq, not_or] at h1 ⊢
    omega
end
end Go.Proofs.YtgifeodnngodiaaGreatDoor
namespace Go.Proofs.YtgifeodnngodiaaGreatDoor

structure Exm where
  proof : List ByteArray
  v : Int × Int
instance instInhExm : Inhabited Exm := ⟨⟨[], (0, 0)⟩⟩
def exC (e : Exm) : List CD := [Zb e.proof, .lit (.int .i64 e.v.1), .lit (.int .i64 e.v.2)]
def exsC (l : List Exm) : CD := .sl (l.map exC)

def ZbL : ByteArray := ⟨#[119, 112, 104]⟩
def Zel : ByteArray := ⟨#[119, 112, 115]⟩
def Zaj : ByteArray := ⟨#[97, 120, 45, 49]⟩
def ZrG : ByteArray := ⟨#[119, 102, 102]⟩
def phT : ByteArray := ⟨#[112, 104]⟩
def psT : ByteArray := ⟨#[112, 115]⟩
def opT : ByteArray := ⟨#[40]⟩
def clT : ByteArray := ⟨#[41]⟩
def arT : ByteArray := ⟨#[45, 62]⟩
def tuT : ByteArray := ⟨#[124, 45]⟩
def exsD : List Exm := [⟨[ZbL, Zel, Zaj], (0, 0)⟩, ⟨[ZbL, Zaj], (23, 1)⟩, ⟨[opT, Zaj, clT, ⟨#[65, 66, 67]⟩], (0, 0)⟩, ⟨[opT, clT, ⟨#[65, 66, 68]⟩], (21, 0)⟩, ⟨[Zel, ZbL, Zaj], (28, 3)⟩]
def ZbQ : Hy := ⟨ZbL, true, [ZrG, phT]⟩
def ZbP : Hy := ⟨Zel, true, [ZrG, psT]⟩
def smTx : List ByteArray := [tuT, opT, phT, arT, opT, psT, arT, phT, clT, clT]
def ZrJ : Fr := ⟨Zaj, false, [ZbQ, ZbP], [], smTx, [], [], []⟩
def ZrI (p : List ByteArray) : Fr := ⟨⟨#[116, 104]⟩, true, [ZbQ, ZbP], [], smTx, [], [], p⟩
def Z1 (p : List ByteArray) : Db := ⟨[ZrG, tuT, opT, clT, arT], [phT, psT], [ZrJ, ZrI p]⟩
theorem sam0 : QG (Z1 (ge exsD 0).proof) 1 = ((ge exsD 0).v, 0) := by kernel_rfl
theorem sam1 : QG (Z1 (ge exsD 1).proof) 1 = ((ge exsD 1).v, 0) := by kernel_rfl
theorem sam2 : QG (Z1 (ge exsD 2).proof) 1 = ((ge exsD 2).v, 0) := by kernel_rfl
theorem sam3 : QG (Z1 (ge exsD 3).proof) 1 = ((ge exsD 3).v, 0) := by kernel_rfl
theorem sam4 : QG (Z1 (ge exsD 4).proof) 1 = ((ge exsD 4).v, 0) := by kernel_rfl
theorem ZpU {k : Nat} (h : k < exsD.length) : QG (Z1 (ge exsD k).proof) 1 = ((ge exsD k).v, 0) := by
  have : k = 0 ∨ k = 1 ∨ k = 2 ∨ k = 3 ∨ k = 4 := by
    have : exsD.length = 5 := rfl
    omega
  rcases this with rfl | rfl | rfl | rfl | rfl
  · exact sam0
  · exact sam1
  · exact sam2
  · exact sam3
  · exact sam4

def ZgX (h : Hy) : Bool := decide ((60 : Int) < ((h.text.length : Nat) : Int))
def ZjW (s : ByteArray) : Bool := decide ((400 : Int) < ((s.size : Nat) : Int))
def Zlm (m : Int) (f : Fr) : Bool := decide (m < ((f.proof.length : Nat) : Int)) || decide ((60 : Int) < ((f.text.length : Nat) : Int)) || decide ((60 : Int) < ((f.hyps.length : Nat) : Int)) || decide ((60 : Int) < ((f.dummies.length : Nat) : Int)) || decide ((200 : Int) < ((f.apart.length : Nat) : Int)) || decide ((300 : Int) < ((f.wide.length : Nat) : Int)) || f.hyps.any ZgX || f.dummies.any ZgX || f.proof.any ZjW
def ZcS (d : Db) (n m : Int) : Bool := decide (((d.frames.length : Nat) : Int) ≤ n) && decide (((d.consts.length : Nat) : Int) ≤ (200 : Int)) && decide (((d.vars.length : Nat) : Int) ≤ (60 : Int)) && !(d.frames.any (Zlm m))
theorem sum_le {l : List ByteArray} {m : Nat} (h : ∀ s ∈ l, s.size ≤ m) : Zb3 l ≤ l.length * m := by
  induction l with
  | nil => simp [Zb3]
  | cons s l ih =>
    have h1 := h s (by simp)
    have h2 := ih fun x hx => h x (by simp [hx])
    simp only [Zb3, List.map_cons, List.sum_cons, List.length_cons, Nat.succ_mul] at h2 ⊢
    omega
theorem Zmz {d : Db} {n m : Int} (h : ZcS d n m = true) (hm : m ≤ 100000) : ∀ g ∈ d.frames, g.proof.length ≤ 100000 ∧ Zb3 g.proof ≤ 1000000000 := fun g hg => by
  simp only [ZcS, Bool.and_eq_true, Bool.not_eq_true', List.any_eq_false] at h
  have h1 := h.2 g hg
  simp only [Zlm, Bool.or_eq_true, not_or, decide_eq_true_eq, Bool.not_eq_true, List.any_eq_false] at h1
  have h2 : ∀ s ∈ g.proof, s.size ≤ 400 := fun s hs => by
    have := h1.2 s hs
    simp [ZjW] at this
    omega
  have h3 := sum_le h2
  have h4 : g.proof.length ≤ 100000 := by have := h1.1.1.1.1.1.1.1.1; omega
  refine ⟨h4, ?_⟩
  have : g.proof.length * 400 ≤ 100000 * 400 := Nat.mul_le_mul_right _ h4
  omega
theorem Zj2 {d : Db} {n m : Int} (h : ZcS d n m = true) : ((d.frames.length : Nat) : Int) ≤ n := by
  simp only [ZcS, Bool.and_eq_true, decide_eq_true_eq] at h
  exact h.1.1.1
theorem sam_hw (p : List ByteArray) : ∀ f ∈ (Z1 p).frames, f.wide.length * 32 ≤ 140737488351232 := fun f hf => by
  have : f = ZrJ ∨ f = ZrI p := by simpa [Z1] using hf
  rcases this with rfl | rfl <;> exact Nat.zero_le _
theorem sam_pl {k : Nat} (hk : k < exsD.length) : ∀ g ∈ (Z1 (ge exsD k).proof).frames, g.proof.length ≤ 100000 ∧ Zb3 g.proof ≤ 1000000000 := fun g hg => by
  have : g = ZrJ ∨ g = ZrI (ge exsD k).proof := by simpa [Z1] using hg
  have hk2 : k = 0 ∨ k = 1 ∨ k = 2 ∨ k = 3 ∨ k = 4 := by
    have : exsD.length = 5 := rfl
    omega
  rcases this with rfl | rfl
  · exact ⟨Nat.zero_le _, Nat.zero_le _⟩
  · rcases hk2 with rfl | rfl | rfl | rfl | rfl <;> exact ⟨of_decide_eq_true (by kernel_rfl), of_decide_eq_true (by kernel_rfl)⟩
end Go.Proofs.YtgifeodnngodiaaGreatDoor
set_option maxHeartbeats 8000000
set_option maxRecDepth 100000
namespace Go.Proofs.YtgifeodnngodiaaGreatDoor
open Go.RowKit
theorem Zge : ZdD Tryz.prog 37 [.string ⟨#[]⟩, .bool false, .slice none 0 0, .slice none 0 0, .slice none 0 0, .slice none 0 0, .slice none 0 0, .slice none 0 0] := ⟨fun i => (#[(0, 1), (1, 1), (2, 1), (3, 1), (4, 1), (5, 1), (6, 1), (7, 1)] : Array (Nat × Nat))[i]?, fun j hj => by rcases j with _ | _ | _ | _ | _ | _ | _ | _ | j <;> first | rfl | (simp at hj; omega), fun parts => by kernel_rfl⟩
theorem QZ : Zma Tryz.prog 65 := fun ad k c p q => by kernel_rfl
theorem ZpF : Tryz.prog.underlying 3 = some (.int .i64) := by kernel_rfl
theorem ZpG : Tryz.prog.underlying 28 = some (.int .i64) := by kernel_rfl
theorem ZjD : (Tryz.prog.fieldsOf 30).toList = [{ name := "Code", type := 28, offset := 0, embedded := false, tag := "", pkgPath := "", byteOffset := 0 }, { name := "Step", type := 3, offset := 1, embedded := false, tag := "", pkgPath := "", byteOffset := 8 }] := by kernel_rfl
theorem ZjC : Tryz.prog.underlying 30 = some (.struct (Tryz.prog.fieldsOf 30)) := by kernel_rfl
theorem Zfl (c : Array Value) (i : Nat) (v : Value) (h : c[i]? = some v) (w : World) : (part 3 c i).run Tryz.prog w = .ok v w := by
  simp [part, Tryz.isAgg3, h]
theorem Zfm (c : Array Value) (i : Nat) (v : Value) (h : c[i]? = some v) (w : World) : (part 28 c i).run Tryz.prog w = .ok v w := by
  simp [part, Tryz.isAgg28, h]
theorem eqVd : EqVd Tryz.prog 30 := by
  intro a b c d w x y
  refine ⟨by simp [eqGuard], by simp [eqGuard], ?_⟩
  unfold Op.equal Op.maxDepth
  rw [run_equalIn_struct w 9999 30 _ _ ZjC (by kernel_rfl), ZjD]
  have e1 := fun (c : Array Value) (v : Value) (i : Nat) (h : c[i]? = some v) => Zfm c i v h
  have e2 := fun (c : Array Value) (v : Value) (i : Nat) (h : c[i]? = some v) => Zfl c i v h
  have q1 : (Op.equalIn 9999 28 (.int .i64 a) (.int .i64 c)).run Tryz.prog w = .ok (decide (a = c)) w := run_equalIn_int w 9998 28 .i64 .i64 a c ZpG
  have q2 : (Op.equalIn 9999 3 (.int .i64 b) (.int .i64 d)).run Tryz.prog w = .ok (decide (b = d)) w := run_equalIn_int w 9998 3 .i64 .i64 b d ZpF
  simp only [Op.eqFields]
  rw [if_pos (by decide), if_pos (by decide)]
  simp only [Sem.run_bind]
  rw [e1 _ (.int .i64 a) 0 rfl w, Result.andThen_ok, e1 _ (.int .i64 c) 0 rfl w, Result.andThen_ok, q1, Result.andThen_ok]
  by_cases h1 : a = c
  · simp only [h1, decide_true, Bool.not_true, Bool.false_eq_true, if_false, Sem.run_bind]
    rw [e2 _ (.int .i64 b) 1 rfl w, Result.andThen_ok, e2 _ (.int .i64 d) 1 rfl w, Result.andThen_ok, q2, Result.andThen_ok]
    by_cases h2 : b = d
    · simp [h2, Sem.run_pure]
    · simp [h2, Sem.run_pure]
  · simp [h1, Sem.run_pure]

theorem Znd {J : World → Prop} (hJ : Stab J) (xs : List Fr) (b : xs.length * 168 ≤ 140737488351232) : FnM (ι := Value) Tryz.prog J 10 [] [.rd (Zbc xs)] [] (fun i' => .lit (i')) (fun i' => [OB.row i' 37 8 (xs.map frC)]) := by
 refine Z7 (N := 8) Tryz.func10 rfl rfl (lb rfl) fun S w0 R hS hJ0 hH => ?_
 refine Ya (B := St All (SO S (R)) w0 8 [(0, .rd (Zbc xs))] (XO J S w0.heap.size (R))) ?_ fun a w h => h
 refine ln 0 fun hl1 => ?_
 refine qso tb hJ [0] [_] [_] ?_
 refine Zo (tsq ?_)
 refine snK 1 tb rfl ?_
 refine Zcp (f := frC) (xs := xs) Xw rfl rfl rfl (lb rfl) (fun a w h => (h.get 0 rfl)) fun g1 hg1 => ?_
 refine seK [0,2] [_,_] rfl ?_
 refine nx (cj 0 (fun hb1 => ?_) fun hb1 => ?_)
 try simp at hb1
 refine qso tb hJ [1000] [_] [_] ?_
 refine tw (Yr 37 8 hJ) ?_
 refine tw (ob0 (congrArg (fun z' => OB.row (.slice none 0 0) 37 8 ((z').map frC)) (show ([] : List Fr) = xs from by first | exact (hg1 (by assumption)).symm | simp))) ?_
 exact Zi (fun a w h => ZR  (m := 0) (.slice none 0 0) rfl h rfl rfl)
 try simp at hb1
 refine Zf (nx (Zo (fun a w h => Zcr (id := 3) (t := 23) (e := 37) (size := 8) (bytes := 168) (i0 := 0) (fol := 3) (d := 2) (ch := [(2, (xs.map frC))]) (fun ix' => ([.any, .rd (Zbc xs), .any, .any] : List AV).getD ix' .any) (fun ix' => ([true, true, true, true] : List Bool).getD ix' true) [] (xs.map frC) (by simp) ?r3_1 hJ hJ0 h Yg rfl rfl rfl rfl ⟨?o3_1_0, ⟨?o3_1_1, ⟨?o3_1_2, ⟨?o3_1_3, trivial⟩⟩⟩⟩ trivial (fun v2 => ?n3_1))))
 case r3_1 =>
  refine Row.mk' Zl4 ⟨_, rfl, rfl, rfl, rfl, rfl⟩ ⟨?x3_1_0, trivial⟩ ⟨_, _, _, _, rfl, rfl, rfl, rfl, rfl, rfl, rfl, rfl, rfl⟩ rfl rfl rfl
  case x3_1_0 => exact ⟨_, _, _, _, rfl, rfl, rfl, rfl, rfl, rfl, rfl, rfl, QH (f := frC) (fun _ => rfl), (by have hm : maxLen = 9223372036854775807 := rfl; simp [upto]; first | omega | (simp; omega)), (by have hm : maxLen = 9223372036854775807 := rfl; simp [upto]; first | omega | (simp; omega)), fun _ _ _ _ _ hl => (hl.dep 1 6 _ rfl rfl rfl rfl)⟩
 case o3_1_0 => exact fun h => Zl rfl h
 case o3_1_1 => exact fun _ _ => ⟨rfl, fun _ _ _ hx hl _ => Yo rfl (hl.env 1 0 _ rfl rfl) hx⟩
 case o3_1_2 => exact fun h => Zl rfl h
 case o3_1_3 => exact fun h => Zl rfl h
 clear a w h
 exact nx (Zi (fun a w h => ZR  (m := 0) v2 rfl h rfl rfl))
theorem Ze9 {J : World → Prop} (hJ : Stab J) (h0 : Hy)  : Fn Tryz.prog J 31 [.agg (hyC h0)] (.bool (ZgX h0)) := by
 refine Zx (N := 7) Tryz.func31 rfl rfl (lb rfl) fun S w0 hS hJ0 => ?_
 clear hJ0
 refine hqs tb hJ [1000] [.ptr (hyC h0),_] [0] [_] rfl ⟨fun _ _ hk hx hl _ => YX rfl (hl.env 0 0 _ rfl rfl) (hS _ hk.size) (js hJ hx), trivial⟩ ?_
 refine hqs tb hJ [1001,1004] [_,_,.int (h0.text.length : Nat),_,_] [2] [_,_] rfl ⟨Yz Zw, trivial⟩ ?_
 refine ln 0 fun hl1 => ?_
 exact Zi (rtn (m := 1) rfl rfl (eB (rfl)))
theorem ZjA {J : World → Prop} (hJ : Stab J) (s : ByteArray)  : Fn Tryz.prog J 32 [.str s] (.bool (ZjW s)) := by
 refine Zx (N := 6) Tryz.func32 rfl rfl (lb rfl) fun S w0 hS hJ0 => ?_
 clear hJ0
 refine qs tb hJ [0] [_] [_] ?_
 refine hqs tb hJ [1003] [_,.int (s.size : Nat),_,_] [1] [_] rfl ⟨iLeS YM, trivial⟩ ?_
 exact Zi (rtn (m := 0) rfl rfl (eB (rfl)))
theorem Zml {J : World → Prop} (hJ : Stab J) (f : Fr) (m : Int)  : Fn Tryz.prog J 30 [.agg (frC f), .ptr [.lit (.int .i64 m)]] (.bool (Zlm m f)) := by
 refine Zx (N := 57) Tryz.func30 rfl rfl (lb rfl) fun S w0 hS hJ0 => ?_
 clear hJ0
 refine hqs tb hJ [1,1000] [.ptr (frC f),_] [0] [_,_] rfl ⟨fun _ _ hk hx hl _ => YX rfl (hl.env 0 0 _ rfl rfl) (hS _ hk.size) (js hJ hx), trivial⟩ ?_
 refine qs tb hJ [0,1,1000] [_] [_,_,_] ?_
 refine hqs tb hJ [1001,1052] [_,_,.int (f.proof.length : Nat),_,_,_,_,_,.int (f.text.length : Nat),_,_,_,_,_,.int (f.hyps.length : Nat),_,_,_,_,_,.int (f.dummies.length : Nat),_,_,_,_,_,.int (f.apart.length : Nat),_,_,_,_,_,.int (f.wide.length : Nat),_,_,_,_,_,_,.bool (f.hyps.any ZgX),_,_,_,_,_,.bool (f.dummies.any ZgX),_,_,_,_,.bool (f.proof.any ZjW),_,_] [2,8,14,20,26,32,39,45,50] [_,_] rfl ⟨Yz Zw, Yz Zw, Yz ZG, Yz ZG, Yz Z6, Yz Z6, fun _ _ hk hx hl hc => YQ (XJ hJ (xs := f.hyps) (f := 31) (caps := []) (Os := []) (p := ZgX) (fun q' => (Ze9 hJ q').rr) (ZlV)) ZeT rfl (nm hS hk) (hx) Zt (Za (hl.dep 37 42 _ rfl rfl rfl hc) (Za (hl.dep 38 43 _ rfl rfl rfl hc) Ze)) (js hJ hx), fun _ _ hk hx hl hc => YQ (XJ hJ (xs := f.dummies) (f := 31) (caps := []) (Os := []) (p := ZgX) (fun q' => (Ze9 hJ q').rr) (ZlV)) ZeT rfl (nm hS hk) (hx) Zt (Za (hl.dep 43 48 _ rfl rfl rfl hc) (Za (hl.dep 44 49 _ rfl rfl rfl hc) Ze)) (js hJ hx), fun _ _ hk hx hl hc => YQ (Yw hJ (xs := f.proof) (f := 32) (caps := []) (Os := []) (p := ZjW) (fun q' => (ZjA hJ q').rr) (Zrt)) Zbg rfl (nm hS hk) (hx) Zt (Za (hl.dep 49 54 _ rfl rfl rfl hc) (Za (Qx 32) Ze)) (js hJ hx), trivial⟩ ?_
 refine ln 0 fun hl1 => ?_
 exact Zi (rtn (m := 1) rfl rfl (eB (rfl)))
theorem Zpw {J : World → Prop} (hJ : Stab J) (d : Db) (n : Int) (m : Int)  : Fn Tryz.prog J 7 [.agg (dbC d), .int n, .int m] (.bool (ZcS d n m)) := by
 refine Zx (N := 31) Tryz.func7 rfl rfl (lb rfl) fun S w0 hS hJ0 => ?_
 clear hJ0
 refine hqs tb hJ [1,1000,1001] [.ptr (dbC d),.ptr [.lit (.int .i64 m)],_] [0,1] [_,_,_] rfl ⟨fun _ _ hk hx hl _ => YX rfl (hl.env 0 0 _ rfl rfl) (hS _ hk.size) (js hJ hx), fun _ _ hk hx hl _ => Za2 rfl (hl.env 2 2 _ rfl rfl) (hS _ hk.size) (js hJ hx), trivial⟩ ?_
 refine hqs tb hJ [1001,1024] [_,_,.int (d.frames.length : Nat),_,_,_,_,_,.int (d.consts.length : Nat),_,_,_,_,_,.int (d.vars.length : Nat),_,_,_,_,_,.fn 30 [.ptr [.lit (.int .i64 m)]],.bool (d.frames.any (Zlm m)),_,_,_] [2,8,14,20,21] [_,_] rfl ⟨Yz Xw, Yz Zw, Yz Zw, fun _ _ _ hx hl _ => Xa (caps := [(Go.Operand.tmp 5)]) rfl (Za (hl.env 2 5 _ rfl rfl) Ze) hx, fun _ _ hk hx hl hc => YQ (ZcZ hJ (xs := d.frames) (f := 30) (caps := [.ptr [.lit (.int .i64 m)]]) (Os := []) (p := (Zlm m)) (fun q' => (Zml hJ q' m).rr) (Zru)) Zrv rfl (nm hS hk) (hx) Zt (Za (hl.dep 19 26 _ rfl rfl rfl hc) (Za (hl.dep 20 27 _ rfl rfl rfl hc) Ze)) (js hJ hx), trivial⟩ ?_
 refine ln 0 fun hl1 => ?_
 exact Zi (rtn (m := 1) rfl rfl (eB (rfl)))
theorem Zmk {J : World → Prop} (hJ : Stab J) (p : List ByteArray)  : Fn Tryz.prog J 33 [.rd (Zb p)] (.agg (dbC (Z1 p))) := by
 refine Zx (N := 26) Tryz.func33 rfl rfl (lb rfl) fun S w0 hS hJ0 => ?_
 refine tw Ym ?_
 refine ln 0 fun hl1 => ?_
 refine tsq ?_
 refine ZW ZcJ hJ rfl rfl rfl (lb rfl) fun b1 => ?_
 refine seK [0,1] [_,_] rfl ?_
 refine nx (tsq ?_)
 refine sq (.rd (Zb ([ZrG, phT] : List ByteArray))) rfl rfl (lb rfl) (fun a _ h => YZ (k := 2) (us := [a.eval (Go.Operand.const (Go.Value.string { data := #[119, 102, 102] })), a.eval (Go.Operand.const (Go.Value.string { data := #[112, 104] }))]) Zm Xg rfl (by simp) (Zj (Rel.of_lit (Go.Value.string { data := #[119, 102, 102] }) (lb rfl)) (Zj (Rel.of_lit (Go.Value.string { data := #[112, 104] }) (lb rfl)) ZM)) rfl (by decide) (by decide) (Zr hS _ h.keep h.x _ (Nat.le_refl _)) (jo hJ h.x)) ?_
 refine sq (.agg (hyC (ZbQ))) rfl rfl (lb rfl) (fun a _ h => X7 (us := [a.eval (Go.Operand.const (Go.Value.string { data := #[119, 112, 104] })), a.eval (Go.Operand.const (Go.Value.bool true)), a.eval (Go.Operand.tmp 6)]) Zei rfl (by simp) (Zj (Rel.of_lit (Go.Value.string { data := #[119, 112, 104] }) (lb rfl)) (Zj (Rel.of_lit (Go.Value.bool true)) (Zj (h.get 0 rfl) ZM))) rfl h.x) ?_
 refine sq (.rd (Zb ([ZrG, psT] : List ByteArray))) rfl rfl (lb rfl) (fun a _ h => YZ (k := 2) (us := [a.eval (Go.Operand.const (Go.Value.string { data := #[119, 102, 102] })), a.eval (Go.Operand.const (Go.Value.string { data := #[112, 115] }))]) Zm Xg rfl (by simp) (Zj (Rel.of_lit (Go.Value.string { data := #[119, 102, 102] }) (lb rfl)) (Zj (Rel.of_lit (Go.Value.string { data := #[112, 115] }) (lb rfl)) ZM)) rfl (by decide) (by decide) (Zr hS _ h.keep h.x _ (Nat.le_refl _)) (jo hJ h.x)) ?_
 refine sq (.agg (hyC (ZbP))) rfl rfl (lb rfl) (fun a _ h => X7 (us := [a.eval (Go.Operand.const (Go.Value.string { data := #[119, 112, 115] })), a.eval (Go.Operand.const (Go.Value.bool true)), a.eval (Go.Operand.tmp 8)]) Zei rfl (by simp) (Zj (Rel.of_lit (Go.Value.string { data := #[119, 112, 115] }) (lb rfl)) (Zj (Rel.of_lit (Go.Value.bool true)) (Zj (h.get 0 rfl) ZM))) rfl h.x) ?_
 refine ZW Ys hJ rfl rfl rfl (lb rfl) fun b2 => ?_
 refine ZW Ys hJ rfl rfl rfl (lb rfl) fun b3 => ?_
 refine kw pm1 ?_
 refine ZE (b := b2) (off := 0) (cs := [.lit (.string (⟨#[]⟩ : ByteArray)), .lit (.bool false), Zb ([] : List ByteArray)]) (es := [.lit (.string ((ZbQ).label)), .lit (.bool ((ZbQ).floating)), Zb ((ZbQ).text)]) (news := [.lit (.string ((ZbQ).label)), .lit (.bool ((ZbQ).floating)), Zb ((ZbQ).text)]) hJ hJ0 YI rfl rfl rfl (lb rfl) rfl (fun a w h => ⟨(h.get 1 rfl), (h.get 4 rfl)⟩) ?_
 refine kw pm1 ?_
 refine ZE (b := b3) (off := 0) (cs := [.lit (.string (⟨#[]⟩ : ByteArray)), .lit (.bool false), Zb ([] : List ByteArray)]) (es := [.lit (.string ((ZbP).label)), .lit (.bool ((ZbP).floating)), Zb ((ZbP).text)]) (news := [.lit (.string ((ZbP).label)), .lit (.bool ((ZbP).floating)), Zb ((ZbP).text)]) hJ hJ0 YI rfl rfl rfl (lb rfl) rfl (fun a w h => ⟨(h.get 0 rfl), (h.get 2 rfl)⟩) ?_
 refine seK [0,1,3,5,6,7] [_,_,_,_,_,_] rfl ?_
 refine nx (ln 2 fun hl2 => ?_)
 refine ln 3 fun hl3 => ?_
 refine ZP tb hJ [0,1,4,5,1000,1001] [.rd (Zb (smTx)),_] [0] [_,_,_,_,_,_] rfl ⟨fun a _ hk hx _ _ => YZ (k := 10) (us := [a.eval (Go.Operand.const (Go.Value.string { data := #[124, 45] })), a.eval (Go.Operand.const (Go.Value.string { data := #[40] })), a.eval (Go.Operand.const (Go.Value.string { data := #[112, 104] })), a.eval (Go.Operand.const (Go.Value.string { data := #[45, 62] })), a.eval (Go.Operand.const (Go.Value.string { data := #[40] })), a.eval (Go.Operand.const (Go.Value.string { data := #[112, 115] })), a.eval (Go.Operand.const (Go.Value.string { data := #[45, 62] })), a.eval (Go.Operand.const (Go.Value.string { data := #[112, 104] })), a.eval (Go.Operand.const (Go.Value.string { data := #[41] })), a.eval (Go.Operand.const (Go.Value.string { data := #[41] }))]) Zm Xg rfl (by simp) (Zj (Rel.of_lit (Go.Value.string { data := #[124, 45] }) (lb rfl)) (Zj (Rel.of_lit (Go.Value.string { data := #[40] }) (lb rfl)) (Zj (Rel.of_lit (Go.Value.string { data := #[112, 104] }) (lb rfl)) (Zj (Rel.of_lit (Go.Value.string { data := #[45, 62] }) (lb rfl)) (Zj (Rel.of_lit (Go.Value.string { data := #[40] }) (lb rfl)) (Zj (Rel.of_lit (Go.Value.string { data := #[112, 115] }) (lb rfl)) (Zj (Rel.of_lit (Go.Value.string { data := #[45, 62] }) (lb rfl)) (Zj (Rel.of_lit (Go.Value.string { data := #[112, 104] }) (lb rfl)) (Zj (Rel.of_lit (Go.Value.string { data := #[41] }) (lb rfl)) (Zj (Rel.of_lit (Go.Value.string { data := #[41] }) (lb rfl)) ZM)))))))))) rfl (by decide) (by decide) (Zr hS _ hk hx _ (Nat.le_refl _)) (jo hJ hx), trivial⟩ ?_
 refine ln 4 fun hl4 => ?_
 refine tsq ?_
 refine sq (.rd (Zb ([ZrG, tuT, opT, clT, arT] : List ByteArray))) rfl rfl (lb rfl) (fun a _ h => YZ (k := 5) (us := [a.eval (Go.Operand.const (Go.Value.string { data := #[119, 102, 102] })), a.eval (Go.Operand.const (Go.Value.string { data := #[124, 45] })), a.eval (Go.Operand.const (Go.Value.string { data := #[40] })), a.eval (Go.Operand.const (Go.Value.string { data := #[41] })), a.eval (Go.Operand.const (Go.Value.string { data := #[45, 62] }))]) Zm Xg rfl (by simp) (Zj (Rel.of_lit (Go.Value.string { data := #[119, 102, 102] }) (lb rfl)) (Zj (Rel.of_lit (Go.Value.string { data := #[124, 45] }) (lb rfl)) (Zj (Rel.of_lit (Go.Value.string { data := #[40] }) (lb rfl)) (Zj (Rel.of_lit (Go.Value.string { data := #[41] }) (lb rfl)) (Zj (Rel.of_lit (Go.Value.string { data := #[45, 62] }) (lb rfl)) ZM))))) rfl (by decide) (by decide) (Zr hS _ h.keep h.x _ (Nat.le_refl _)) (jo hJ h.x)) ?_
 refine sq (.rd (Zb ([phT, psT] : List ByteArray))) rfl rfl (lb rfl) (fun a _ h => YZ (k := 2) (us := [a.eval (Go.Operand.const (Go.Value.string { data := #[112, 104] })), a.eval (Go.Operand.const (Go.Value.string { data := #[112, 115] }))]) Zm Xg rfl (by simp) (Zj (Rel.of_lit (Go.Value.string { data := #[112, 104] }) (lb rfl)) (Zj (Rel.of_lit (Go.Value.string { data := #[112, 115] }) (lb rfl)) ZM)) rfl (by decide) (by decide) (Zr hS _ h.keep h.x _ (Nat.le_refl _)) (jo hJ h.x)) ?_
 refine sq (.agg (hyC (ZbQ))) rfl rfl (lb rfl) (fun _ _ h => Yd (cs := [.lit (.string ((ZbQ).label)), .lit (.bool ((ZbQ).floating)), Zb ((ZbQ).text)]) (ds := [.lit (.string ((ZbQ).label)), .lit (.bool ((ZbQ).floating)), Zb ((ZbQ).text)]) XZ rfl (Zd h.x (mo 1 rfl)) (h.get 3 rfl) rfl rfl h.x) ?_
 refine sq (.agg (hyC (ZbP))) rfl rfl (lb rfl) (fun _ _ h => Yd (cs := [.lit (.string ((ZbP).label)), .lit (.bool ((ZbP).floating)), Zb ((ZbP).text)]) (ds := [.lit (.string ((ZbP).label)), .lit (.bool ((ZbP).floating)), Zb ((ZbP).text)]) XZ rfl (Zd h.x (mo 0 rfl)) (h.get 3 rfl) rfl rfl h.x) ?_
 refine sq (.rd (Xp ([ZbQ, ZbP]))) rfl rfl (lb rfl) (fun a _ h => ZhE (z := #[.string ⟨#[]⟩, .bool false, .slice none 0 0]) (cs := [hyC (ZbQ), hyC (ZbP)]) (vs := [a.eval (Go.Operand.tmp 13), a.eval (Go.Operand.tmp 14)]) ZI (fun w => by kernel_rfl) rfl (by simp) (Za (h.get 1 rfl) (Za (h.get 0 rfl) Ze)) (of_decide_eq_true rfl) rfl (by decide) (by decide) (by decide) (Zr hS _ h.keep h.x _ (Nat.le_refl _)) (jo hJ h.x)) ?_
 refine snK 1 tb rfl ?_
 refine sq (.agg (frC (ZrJ))) rfl rfl (lb rfl) (fun a _ h => Yy (ps := [(0, a.eval (Go.Operand.const (Go.Value.string { data := #[97, 120, 45, 49] }))), (2, a.eval (Go.Operand.tmp 15)), (4, a.eval (Go.Operand.tmp 16))]) (us := [a.eval (Go.Operand.const (Go.Value.string { data := #[97, 120, 45, 49] })), .bool false, a.eval (Go.Operand.tmp 15), .slice none 0 0, a.eval (Go.Operand.tmp 16), .slice none 0 0, .slice none 0 0, .slice none 0 0]) Zge rfl (by simp) (ZdO (lb rfl) rfl (ZdO (lb rfl) (Rel.oneC (h.get 1 rfl)) (ZdO (lb rfl) (Rel.oneC (h.get 0 rfl)) Ze7))) rfl (Zj (Rel.of_lit (Go.Value.string { data := #[97, 120, 45, 49] }) (lb rfl)) (YG (.lit _ True.intro) (Zj (h.get 1 rfl) (YG (.nil _ _ (Nat.zero_le _)) (Zj (h.get 0 rfl) (YG (.nil _ _ (Nat.zero_le _)) (YG (.nil _ _ (Nat.zero_le _)) (YG (.nil _ _ (Nat.zero_le _)) ZM)))))))) h.x) ?_
 refine sq (.agg (hyC (ZbQ))) rfl rfl (lb rfl) (fun _ _ h => Yd (cs := [.lit (.string ((ZbQ).label)), .lit (.bool ((ZbQ).floating)), Zb ((ZbQ).text)]) (ds := [.lit (.string ((ZbQ).label)), .lit (.bool ((ZbQ).floating)), Zb ((ZbQ).text)]) XZ rfl (Zd h.x (mo 1 rfl)) (h.get 8 rfl) rfl rfl h.x) ?_
 refine sq (.agg (hyC (ZbP))) rfl rfl (lb rfl) (fun _ _ h => Yd (cs := [.lit (.string ((ZbP).label)), .lit (.bool ((ZbP).floating)), Zb ((ZbP).text)]) (ds := [.lit (.string ((ZbP).label)), .lit (.bool ((ZbP).floating)), Zb ((ZbP).text)]) XZ rfl (Zd h.x (mo 0 rfl)) (h.get 8 rfl) rfl rfl h.x) ?_
 refine sq (.rd (Xp ([ZbQ, ZbP]))) rfl rfl (lb rfl) (fun a _ h => ZhE (z := #[.string ⟨#[]⟩, .bool false, .slice none 0 0]) (cs := [hyC (ZbQ), hyC (ZbP)]) (vs := [a.eval (Go.Operand.tmp 18), a.eval (Go.Operand.tmp 19)]) ZI (fun w => by kernel_rfl) rfl (by simp) (Za (h.get 1 rfl) (Za (h.get 0 rfl) Ze)) (of_decide_eq_true rfl) rfl (by decide) (by decide) (by decide) (Zr hS _ h.keep h.x _ (Nat.le_refl _)) (jo hJ h.x)) ?_
 refine snK 2 tb rfl ?_
 refine sq (.agg (frC (ZrI p))) rfl rfl (lb rfl) (fun a _ h => Yy (ps := [(0, a.eval (Go.Operand.const (Go.Value.string { data := #[116, 104] }))), (1, a.eval (Go.Operand.const (Go.Value.bool true))), (2, a.eval (Go.Operand.tmp 20)), (4, a.eval (Go.Operand.tmp 21)), (7, a.eval (Go.Operand.tmp 22))]) (us := [a.eval (Go.Operand.const (Go.Value.string { data := #[116, 104] })), a.eval (Go.Operand.const (Go.Value.bool true)), a.eval (Go.Operand.tmp 20), .slice none 0 0, a.eval (Go.Operand.tmp 21), .slice none 0 0, .slice none 0 0, a.eval (Go.Operand.tmp 22)]) Zge rfl (by simp) (ZdO (lb rfl) rfl (ZdO (lb rfl) rfl (ZdO (lb rfl) (Rel.oneC (h.get 2 rfl)) (ZdO (lb rfl) (Rel.oneC (h.get 1 rfl)) (ZdO (lb rfl) (Rel.oneC (h.get 0 rfl)) Ze7))))) rfl (Zj (Rel.of_lit (Go.Value.string { data := #[116, 104] }) (lb rfl)) (Zj (Rel.of_lit (Go.Value.bool true)) (Zj (h.get 2 rfl) (YG (.nil _ _ (Nat.zero_le _)) (Zj (h.get 1 rfl) (YG (.nil _ _ (Nat.zero_le _)) (YG (.nil _ _ (Nat.zero_le _)) (Zj (h.get 0 rfl) ZM)))))))) h.x) ?_
 refine sq (.rd (Zbc ([ZrJ, (ZrI p)]))) rfl rfl (lb rfl) (fun a _ h => ZhE (z := #[.string ⟨#[]⟩, .bool false, .slice none 0 0, .slice none 0 0, .slice none 0 0, .slice none 0 0, .slice none 0 0, .slice none 0 0]) (cs := [frC (ZrJ), frC (ZrI p)]) (vs := [a.eval (Go.Operand.tmp 17), a.eval (Go.Operand.tmp 23)]) YD (fun w => by kernel_rfl) rfl (by simp) (Za (h.get 6 rfl) (Za (h.get 0 rfl) Ze)) (of_decide_eq_true rfl) rfl (by decide) (by decide) (by decide) (Zr hS _ h.keep h.x _ (Nat.le_refl _)) (jo hJ h.x)) ?_
 refine sq (.agg (dbC (Z1 p))) rfl rfl (lb rfl) (fun a _ h => X7 (us := [a.eval (Go.Operand.tmp 11), a.eval (Go.Operand.tmp 12), a.eval (Go.Operand.tmp 24)]) Zjp rfl (by simp) (Zj (h.get 13 rfl) (Zj (h.get 12 rfl) (Zj (h.get 0 rfl) ZM))) rfl h.x) ?_
 refine kw pm2 ?_
 refine ZE (b := b1) (off := 0) (cs := [Zb ([] : List ByteArray), Zb ([] : List ByteArray), Zbc ([] : List Fr)]) (es := [Zb ((Z1 p).consts), Zb ((Z1 p).vars), Zbc ((Z1 p).frames)]) (news := [Zb ((Z1 p).consts), Zb ((Z1 p).vars), Zbc ((Z1 p).frames)]) hJ hJ0 Zfi rfl rfl rfl (lb rfl) rfl (fun a w h => ⟨(h.get 17 rfl), (h.get 0 rfl)⟩) ?_
 refine seK [1,5,10,13,14,17] [_,_,_,_,_,_] rfl ?_
 refine nx (ln 0 fun hl5 => ?_)
 refine ln 1 fun hl6 => ?_
 refine ln 3 fun hl7 => ?_
 refine ln 4 fun hl8 => ?_
 exact Zi (fun a w h => Zae (cs := [Zb ((Z1 p).consts), Zb ((Z1 p).vars), Zbc ((Z1 p).frames)]) (m := 5) rfl ZcE h rfl rfl (show ([Zb ((Z1 p).consts), Zb ((Z1 p).vars), Zbc ((Z1 p).frames)] : List CD) = [Zb ((Z1 p).consts), Zb ((Z1 p).vars), Zbc ((Z1 p).frames)] from rfl))
theorem Zgx {J : World → Prop} (hJ : Stab J)  (hG : Q1 J) : Fn Tryz.prog J 8 [] (.bool true) := by
 refine Zx (N := 42) Tryz.func8 rfl rfl (lb rfl) fun S w0 hS hJ0 => ?_
 refine tw Ym ?_
 refine qso tb hJ [] [_] [] ?_
 refine Zo (Zo (Y3 tb hJ [1000,1003,1006,1009,1012,1015,1016,1017] [.rd (Zb ([ZbL, Zel, Zaj] : List ByteArray)),.agg (vdC (⟨0, 0⟩ : Int × Int)),.agg (exC (⟨([ZbL, Zel, Zaj] : List ByteArray), (⟨0, 0⟩ : Int × Int)⟩ : Exm)),.rd (Zb ([ZbL, Zaj] : List ByteArray)),.agg (vdC (⟨(23 : Int), (1 : Int)⟩ : Int × Int)),.agg (exC (⟨([ZbL, Zaj] : List ByteArray), (⟨(23 : Int), (1 : Int)⟩ : Int × Int)⟩ : Exm)),.rd (Zb ([opT, Zaj, clT, (⟨#[65, 66, 67]⟩ : ByteArray)] : List ByteArray)),.agg (vdC (⟨0, 0⟩ : Int × Int)),.agg (exC (⟨([opT, Zaj, clT, (⟨#[65, 66, 67]⟩ : ByteArray)] : List ByteArray), (⟨0, 0⟩ : Int × Int)⟩ : Exm)),.rd (Zb ([opT, clT, (⟨#[65, 66, 68]⟩ : ByteArray)] : List ByteArray)),.agg (vdC (⟨(21 : Int), 0⟩ : Int × Int)),.agg (exC (⟨([opT, clT, (⟨#[65, 66, 68]⟩ : ByteArray)] : List ByteArray), (⟨(21 : Int), 0⟩ : Int × Int)⟩ : Exm)),.rd (Zb ([Zel, ZbL, Zaj] : List ByteArray)),.agg (vdC (⟨(28 : Int), (3 : Int)⟩ : Int × Int)),.agg (exC (⟨([Zel, ZbL, Zaj] : List ByteArray), (⟨(28 : Int), (3 : Int)⟩ : Int × Int)⟩ : Exm)),.rd (exsC ([(⟨([ZbL, Zel, Zaj] : List ByteArray), (⟨0, 0⟩ : Int × Int)⟩ : Exm), (⟨([ZbL, Zaj] : List ByteArray), (⟨(23 : Int), (1 : Int)⟩ : Int × Int)⟩ : Exm), (⟨([opT, Zaj, clT, (⟨#[65, 66, 67]⟩ : ByteArray)] : List ByteArray), (⟨0, 0⟩ : Int × Int)⟩ : Exm), (⟨([opT, clT, (⟨#[65, 66, 68]⟩ : ByteArray)] : List ByteArray), (⟨(21 : Int), 0⟩ : Int × Int)⟩ : Exm), (⟨([Zel, ZbL, Zaj] : List ByteArray), (⟨(28 : Int), (3 : Int)⟩ : Int × Int)⟩ : Exm)])),.int (([(⟨([ZbL, Zel, Zaj] : List ByteArray), (⟨0, 0⟩ : Int × Int)⟩ : Exm), (⟨([ZbL, Zaj] : List ByteArray), (⟨(23 : Int), (1 : Int)⟩ : Int × Int)⟩ : Exm), (⟨([opT, Zaj, clT, (⟨#[65, 66, 67]⟩ : ByteArray)] : List ByteArray), (⟨0, 0⟩ : Int × Int)⟩ : Exm), (⟨([opT, clT, (⟨#[65, 66, 68]⟩ : ByteArray)] : List ByteArray), (⟨(21 : Int), 0⟩ : Int × Int)⟩ : Exm), (⟨([Zel, ZbL, Zaj] : List ByteArray), (⟨(28 : Int), (3 : Int)⟩ : Int × Int)⟩ : Exm)]).length : Nat),_] [0,1,2,3,4,5,6,7,8,9,10,11,12,13,14,15,16] [_,_,_,_,_,_,_,_] rfl ⟨fun a _ hk hx _ _ => YZ (k := 3) (us := [a.eval (Go.Operand.const (Go.Value.string { data := #[119, 112, 104] })), a.eval (Go.Operand.const (Go.Value.string { data := #[119, 112, 115] })), a.eval (Go.Operand.const (Go.Value.string { data := #[97, 120, 45, 49] }))]) Zm Xg rfl (by simp) (Zj (Rel.of_lit (Go.Value.string { data := #[119, 112, 104] }) (lb rfl)) (Zj (Rel.of_lit (Go.Value.string { data := #[119, 112, 115] }) (lb rfl)) (Zj (Rel.of_lit (Go.Value.string { data := #[97, 120, 45, 49] }) (lb rfl)) ZM))) rfl (by decide) (by decide) (Zr hS _ hk hx _ (Nat.le_refl _)) (jo hJ hx), fun _ _ _ hx _ _ => Yy (ps := []) (us := [.int .i64 0, .int .i64 0]) ZaJ rfl (by simp) Ze7 rfl (YG (.lit _ True.intro) (YG (.lit _ True.intro) ZM)) hx, fun _ _ _ hx hl _ => Zav (xs := ([ZbL, Zel, Zaj] : List ByteArray)) QZ rfl (hl.dep 0 5 _ rfl rfl rfl rfl) (hl.dep 1 6 _ rfl rfl rfl rfl) hx, fun a _ hk hx _ _ => YZ (k := 2) (us := [a.eval (Go.Operand.const (Go.Value.string { data := #[119, 112, 104] })), a.eval (Go.Operand.const (Go.Value.string { data := #[97, 120, 45, 49] }))]) Zm Xg rfl (by simp) (Zj (Rel.of_lit (Go.Value.string { data := #[119, 112, 104] }) (lb rfl)) (Zj (Rel.of_lit (Go.Value.string { data := #[97, 120, 45, 49] }) (lb rfl)) ZM)) rfl (by decide) (by decide) (Zr hS _ hk hx _ (Nat.le_refl _)) (jo hJ hx), fun a _ _ hx _ _ => X7 (us := [a.eval (Go.Operand.const (Go.Value.int Go.IntKind.i64 23)), a.eval (Go.Operand.const (Go.Value.int Go.IntKind.i64 1))]) ZbZ rfl (by simp) (Zj (Rel.of_lit (Go.Value.int Go.IntKind.i64 23)) (Zj (Rel.of_lit (Go.Value.int Go.IntKind.i64 1)) ZM)) rfl hx, fun _ _ _ hx hl _ => Zav (xs := ([ZbL, Zaj] : List ByteArray)) QZ rfl (hl.dep 3 8 _ rfl rfl rfl rfl) (hl.dep 4 9 _ rfl rfl rfl rfl) hx, fun a _ hk hx _ _ => YZ (k := 4) (us := [a.eval (Go.Operand.const (Go.Value.string { data := #[40] })), a.eval (Go.Operand.const (Go.Value.string { data := #[97, 120, 45, 49] })), a.eval (Go.Operand.const (Go.Value.string { data := #[41] })), a.eval (Go.Operand.const (Go.Value.string { data := #[65, 66, 67] }))]) Zm Xg rfl (by simp) (Zj (Rel.of_lit (Go.Value.string { data := #[40] }) (lb rfl)) (Zj (Rel.of_lit (Go.Value.string { data := #[97, 120, 45, 49] }) (lb rfl)) (Zj (Rel.of_lit (Go.Value.string { data := #[41] }) (lb rfl)) (Zj (Rel.of_lit (Go.Value.string { data := #[65, 66, 67] }) (lb rfl)) ZM)))) rfl (by decide) (by decide) (Zr hS _ hk hx _ (Nat.le_refl _)) (jo hJ hx), fun _ _ _ hx _ _ => Yy (ps := []) (us := [.int .i64 0, .int .i64 0]) ZaJ rfl (by simp) Ze7 rfl (YG (.lit _ True.intro) (YG (.lit _ True.intro) ZM)) hx, fun _ _ _ hx hl _ => Zav (xs := ([opT, Zaj, clT, (⟨#[65, 66, 67]⟩ : ByteArray)] : List ByteArray)) QZ rfl (hl.dep 6 11 _ rfl rfl rfl rfl) (hl.dep 7 12 _ rfl rfl rfl rfl) hx, fun a _ hk hx _ _ => YZ (k := 3) (us := [a.eval (Go.Operand.const (Go.Value.string { data := #[40] })), a.eval (Go.Operand.const (Go.Value.string { data := #[41] })), a.eval (Go.Operand.const (Go.Value.string { data := #[65, 66, 68] }))]) Zm Xg rfl (by simp) (Zj (Rel.of_lit (Go.Value.string { data := #[40] }) (lb rfl)) (Zj (Rel.of_lit (Go.Value.string { data := #[41] }) (lb rfl)) (Zj (Rel.of_lit (Go.Value.string { data := #[65, 66, 68] }) (lb rfl)) ZM))) rfl (by decide) (by decide) (Zr hS _ hk hx _ (Nat.le_refl _)) (jo hJ hx), fun a _ _ hx _ _ => Yy (ps := [(0, a.eval (Go.Operand.const (Go.Value.int Go.IntKind.i64 21)))]) (us := [a.eval (Go.Operand.const (Go.Value.int Go.IntKind.i64 21)), .int .i64 0]) ZaJ rfl (by simp) (ZdO (lb rfl) rfl Ze7) rfl (Zj (Rel.of_lit (Go.Value.int Go.IntKind.i64 21)) (YG (.lit _ True.intro) ZM)) hx, fun _ _ _ hx hl _ => Zav (xs := ([opT, clT, (⟨#[65, 66, 68]⟩ : ByteArray)] : List ByteArray)) QZ rfl (hl.dep 9 14 _ rfl rfl rfl rfl) (hl.dep 10 15 _ rfl rfl rfl rfl) hx, fun a _ hk hx _ _ => YZ (k := 3) (us := [a.eval (Go.Operand.const (Go.Value.string { data := #[119, 112, 115] })), a.eval (Go.Operand.const (Go.Value.string { data := #[119, 112, 104] })), a.eval (Go.Operand.const (Go.Value.string { data := #[97, 120, 45, 49] }))]) Zm Xg rfl (by simp) (Zj (Rel.of_lit (Go.Value.string { data := #[119, 112, 115] }) (lb rfl)) (Zj (Rel.of_lit (Go.Value.string { data := #[119, 112, 104] }) (lb rfl)) (Zj (Rel.of_lit (Go.Value.string { data := #[97, 120, 45, 49] }) (lb rfl)) ZM))) rfl (by decide) (by decide) (Zr hS _ hk hx _ (Nat.le_refl _)) (jo hJ hx), fun a _ _ hx _ _ => X7 (us := [a.eval (Go.Operand.const (Go.Value.int Go.IntKind.i64 28)), a.eval (Go.Operand.const (Go.Value.int Go.IntKind.i64 3))]) ZbZ rfl (by simp) (Zj (Rel.of_lit (Go.Value.int Go.IntKind.i64 28)) (Zj (Rel.of_lit (Go.Value.int Go.IntKind.i64 3)) ZM)) rfl hx, fun _ _ _ hx hl _ => Zav (xs := ([Zel, ZbL, Zaj] : List ByteArray)) QZ rfl (hl.dep 12 17 _ rfl rfl rfl rfl) (hl.dep 13 18 _ rfl rfl rfl rfl) hx, fun a w hk hx hl _ => ZhE (z := #[.slice none 0 0, .int .i64 0, .int .i64 0]) (cs := [exC (⟨([ZbL, Zel, Zaj] : List ByteArray), (⟨0, 0⟩ : Int × Int)⟩ : Exm), exC (⟨([ZbL, Zaj] : List ByteArray), (⟨(23 : Int), (1 : Int)⟩ : Int × Int)⟩ : Exm), exC (⟨([opT, Zaj, clT, (⟨#[65, 66, 67]⟩ : ByteArray)] : List ByteArray), (⟨0, 0⟩ : Int × Int)⟩ : Exm), exC (⟨([opT, clT, (⟨#[65, 66, 68]⟩ : ByteArray)] : List ByteArray), (⟨(21 : Int), 0⟩ : Int × Int)⟩ : Exm), exC (⟨([Zel, ZbL, Zaj] : List ByteArray), (⟨(28 : Int), (3 : Int)⟩ : Int × Int)⟩ : Exm)]) (vs := [a.eval (Go.Operand.tmp 7), a.eval (Go.Operand.tmp 10), a.eval (Go.Operand.tmp 13), a.eval (Go.Operand.tmp 16), a.eval (Go.Operand.tmp 19)]) Zcc (fun w => by kernel_rfl) rfl (by simp) (Za (hl.dep 2 7 _ rfl rfl rfl rfl) (Za (hl.dep 5 10 _ rfl rfl rfl rfl) (Za (hl.dep 8 13 _ rfl rfl rfl rfl) (Za (hl.dep 11 16 _ rfl rfl rfl rfl) (Za (hl.dep 14 19 _ rfl rfl rfl rfl) Ze))))) (of_decide_eq_true rfl) rfl (by decide) (by decide) (by decide) (Zr hS _ hk hx _ (Nat.le_refl _)) (jo hJ hx), Yz Ziw, trivial⟩ ?_))
 refine kw (sa 5 rfl (show (.rd (exsC ([(⟨([ZbL, Zel, Zaj] : List ByteArray), (⟨0, 0⟩ : Int × Int)⟩ : Exm), (⟨([ZbL, Zaj] : List ByteArray), (⟨(23 : Int), (1 : Int)⟩ : Int × Int)⟩ : Exm), (⟨([opT, Zaj, clT, (⟨#[65, 66, 67]⟩ : ByteArray)] : List ByteArray), (⟨0, 0⟩ : Int × Int)⟩ : Exm), (⟨([opT, clT, (⟨#[65, 66, 68]⟩ : ByteArray)] : List ByteArray), (⟨(21 : Int), 0⟩ : Int × Int)⟩ : Exm), (⟨([Zel, ZbL, Zaj] : List ByteArray), (⟨(28 : Int), (3 : Int)⟩ : Int × Int)⟩ : Exm)])) : AV) = .rd (exsC exsD) from rfl)) ?_
 refine kw (sa 6 rfl (show (.int (([(⟨([ZbL, Zel, Zaj] : List ByteArray), (⟨0, 0⟩ : Int × Int)⟩ : Exm), (⟨([ZbL, Zaj] : List ByteArray), (⟨(23 : Int), (1 : Int)⟩ : Int × Int)⟩ : Exm), (⟨([opT, Zaj, clT, (⟨#[65, 66, 67]⟩ : ByteArray)] : List ByteArray), (⟨0, 0⟩ : Int × Int)⟩ : Exm), (⟨([opT, clT, (⟨#[65, 66, 68]⟩ : ByteArray)] : List ByteArray), (⟨(21 : Int), 0⟩ : Int × Int)⟩ : Exm), (⟨([Zel, ZbL, Zaj] : List ByteArray), (⟨(28 : Int), (3 : Int)⟩ : Int × Int)⟩ : Exm)]).length : Nat) : AV) = .int (exsD.length : Nat) from rfl)) ?_
 refine nx (ln 0 fun hl1 => ?_)
 refine ln 1 fun hl2 => ?_
 refine ln 2 fun hl3 => ?_
 refine ln 3 fun hl4 => ?_
 refine ln 4 fun hl5 => ?_
 refine ln 5 fun hl6 => ?_
 refine Zh (lpo (ι := Nat) (fun k => (k ≤ exsD.length)) (fun _ => []) (fun k => [(22, .int (k : Nat))]) (fun k => exsD.length - k) [5,6,7] [_,_] 0 (show (0 ≤ exsD.length) from Nat.zero_le _) ?_)
 rintro k hF
 have f1_1 : k ≤ exsD.length := hF
 refine qso tb hJ [0,1,2,1000] [_] [_,_,_,_] ?_
 refine cjS 3 (fun hb1 => ?_) fun hb1 => ?_
 try simp at hb1
 refine Zf (nx (Zo (Zh (tsq ?_))))
 refine sq (.ptr (exC (ge exsD k))) rfl rfl (lb rfl) (fun _ _ h => Yi (i := (k : Int)) Zcc rfl (h.get 0 rfl) (h.get 2 rfl) (Int.natCast_nonneg _) (Yv (xs := exsD) (k := k) (by first | omega | (simp; omega) | grind [Zc])) rfl h.x) ?_
 refine sq (.agg (exC (ge exsD k))) rfl rfl (lb rfl) (fun _ _ h => Za8 ZoG rfl (h.get 0 rfl) (Nat.le_refl _) h.x) ?_
 refine X0 (cs := exC (ge exsD k)) Zmm rfl rfl rfl (lb rfl) rfl rfl rfl (by decide) (m := 0) rfl rfl (fun a w h => Zr hS _ h.keep h.x _ (Nat.le_refl _)) (fun a w h w' hk' => Yj hJ _ _ hk' h.x) ?_
 refine seK [0,3,4,5] [_,_,_,_] rfl ?_
 refine nx (tsq ?_)
 refine sq (.ptr (exC (ge exsD k))) rfl rfl (lb rfl) (fun _ _ h => ZU Zjd rfl (h.get 0 rfl) h.x) ?_
 refine snK 1 tb rfl ?_
 refine sq (.agg (dbC (Z1 ((ge exsD k).proof)))) rfl rfl (lb rfl) (fun _ _ h => Zez (Zmk hJ (p := ((ge exsD k).proof)) ) Zrs rfl (Zr hS _ h.keep h.x) (h.x.1) (Za (h.get 0 rfl) Ze) (jo hJ h.x)) ?_
 refine sq (.tup [.agg (vdC ((QG (Z1 ((ge exsD k).proof)) (1 : Int)).1)), .int ((QG (Z1 ((ge exsD k).proof)) (1 : Int)).2)]) rfl rfl (lb rfl) (fun _ _ h => Zez (ZcX hJ (d := (Z1 ((ge exsD k).proof))) (z := (1 : Int)) (by exact sam_hw _) (by exact hG) (by exact sam_pl (by omega))) ZlO rfl (Zr hS _ h.keep h.x) (h.x.1) (Za (h.get 0 rfl) (Za (Rel.of_lit (Go.Value.int Go.IntKind.i64 1)) Ze)) (jo hJ h.x)) ?_
 refine snK 3 tb rfl ?_
 refine X0 (cs := vdC ((QG (Z1 ((ge exsD k).proof)) (1 : Int)).1)) Zen rfl rfl rfl (lb rfl) rfl rfl rfl (by decide) (m := 1) rfl rfl (fun a w h => Zr hS _ h.keep h.x _ (Nat.le_refl _)) (fun a w h w' hk' => Yj hJ _ _ hk' h.x) ?_
 refine snK 1 tb rfl ?_
 refine seK [0,1,7,9,10,11,12] [_,_,_,_,_,_,_] rfl ?_
 refine nx (ln 2 fun hl7 => ?_)
 refine ZP tb hJ [4,5,6,1007] [_,_,_,_,.ptr [.lit (.int .i64 ((ge exsD k).v.1)), .lit (.int .i64 ((ge exsD k).v.2))],_,.bool (!(decide (((QG (Z1 ((ge exsD k).proof)) (1 : Int)).1).1 = ((ge exsD k).v.1)) && decide (((QG (Z1 ((ge exsD k).proof)) (1 : Int)).1).2 = ((ge exsD k).v.2)))),_] [4,6] [_,_,_,_] rfl ⟨fun _ _ _ hx hl _ => ZU Zjc rfl (hl.env 3 2 _ rfl rfl) hx, fun _ _ _ hx hl hc => r_neqV eqVd rfl (hl.dep 3 36 _ rfl rfl rfl hc) (hl.dep 5 38 _ rfl rfl rfl hc) hx, trivial⟩ ?_
 refine cj 3 (fun hb2 => ?_) fun hb2 => ?_
 try simp at hb2
 exact False.elim (by have h9 := ZpU (k := k) (by omega); simp [h9] at hb2)
 try simp at hb2
 refine Zf (nx (Y3 tb hJ [0,1,1001] [.int (k + 1 : Nat),_] [0] [_,_,_] rfl ⟨YE, trivial⟩ ?_))
 exact XP (k + 1) [0,1,2] (show ((k + 1) ≤ exsD.length) from by omega)
 try simp at hb1
 refine ZC (nx (qso tb hJ [1000] [_] [_] ?_))
 exact Zi (Qh (m := 0) rfl rfl rfl)
end Go.Proofs.YtgifeodnngodiaaGreatDoor
namespace Go.Proofs.YtgifeodnngodiaaGreatDoor

section
variable {fs gs : List Fr} {vars : List ByteArray} {f : Fr} {xs : List Itm} {M : List (ByteArray × Int)} {N : Nat} {d : Db} {m : Nat}
theorem ZiF (h : ∀ i, i < N → ge fs i = ge gs i) (hx : ∀ k, (ge xs k).kind = 2 → 0 ≤ (ge xs k).number ∧ (ge xs k).number < (N : Int)) (s : Ms) : ZQ fs vars f xs s = ZQ gs vars f xs s := by
  have hk : YS fs vars f s.sk s.tg (ge xs s.n) = YS gs vars f s.sk s.tg (ge xs s.n) := by
    unfold YS
    by_cases h1 : (ge xs s.n).kind = 1
    · rw [if_pos h1, if_pos h1]
    · rw [if_neg h1, if_neg h1]
      by_cases h2 : (ge xs s.n).kind = 2
      · have h3 := hx _ h2
        rw [if_pos h2, if_pos h2, h _ (by omega)]
      · rw [if_neg h2, if_neg h2]
  unfold ZQ
  rw [hk]
theorem Zfn (h : ∀ i, i < N → ge fs i = ge gs i) (hx : ∀ k, (ge xs k).kind = 2 → 0 ≤ (ge xs k).number ∧ (ge xs k).number < (N : Int)) : ∀ (j : Nat) (s : Ms), ZgJ fs vars f xs j s = ZgJ gs vars f xs j s
  | 0, _ => rfl
  | j + 1, s => by
    show ZgJ fs vars f xs j (ZQ fs vars f xs s) = ZgJ gs vars f xs j (ZQ gs vars f xs s)
    rw [ZiF h hx s, Zfn h hx j]
theorem ZjB (h : ∀ i, i < N → ge fs i = ge gs i) (hM : ZdN M N) (hf : ZeK f) (hN : N ≤ fs.length) (t : List ByteArray) : Zce fs vars f M t = Zce gs vars f M t := by
  unfold Zce
  refine congrArg Ms.v (Zfn h (fun k hk => ?_) _ _)
  unfold XD at hk ⊢
  split at hk
  · rw [show ge ([] : List Itm) k = default from by simp [ge]] at hk; cases hk
  · rename_i xs hr
    have h1 := Zkc (fs := fs.take N) (by rw [List.length_take, Nat.min_eq_left hN]; exact hM) hf hr
    change (ge xs k).kind = 2 at hk
    show 0 ≤ (ge xs k).number ∧ (ge xs k).number < (N : Int)
    by_cases hlt : k < xs.length
    · have := (h1.2 k hlt).1.2.2.1 hk
      rw [List.length_take, Nat.min_eq_left hN] at this
      exact this
    · rw [show ge xs k = default from by simp [ge, List.getD_eq_getElem?_getD, List.getElem?_eq_none (Nat.le_of_not_lt hlt)]] at hk
      cases hk
theorem ZjO {z : Int} : (QG d z).2 = Qr d z := by unfold QG; split <;> simp_all
theorem ZpI {z : Int} (h : Qr d z = 0) : QG (Zaa d (z.toNat + 1)) z = QG d z := by
  obtain ⟨hc, h0, h1⟩ := Zip h
  have hn : z.toNat < d.frames.length := by omega
  have hc2 := ZnP (m := z.toNat + 1) hc
  have hl : (Zaa d (z.toNat + 1)).frames.length = z.toNat + 1 := by
    show (d.frames.take (z.toNat + 1)).length = _
    rw [List.length_take]; omega
  have ha : Qr (Zaa d (z.toNat + 1)) z = 0 := by
    unfold Qr
    rw [if_neg (by simp [hc2]), if_neg (by rw [hl]; omega)]
  unfold QG
  rw [if_pos ha, if_pos h]
  have hg := (ZcA hc _ (Zc hn)).2.2
  have hv : ZdX (Zaa d (z.toNat + 1)) z.toNat = ZdX d z.toNat := by
    unfold ZdX
    rw [Zef (Nat.lt_succ_self _), Zcx (Nat.le_succ _)]
    split
    · exact ZjB (N := z.toNat) (fun i hi => Zef (by omega)) (Zc4 _ (by omega)) hg (by rw [hl]; omega) _
    · rfl
  rw [hv]
end
end Go.Proofs.YtgifeodnngodiaaGreatDoor
set_option maxHeartbeats 8000000
set_option maxRecDepth 100000
namespace Go.Proofs.YtgifeodnngodiaaGreatDoor
open Go.RowKit

theorem Zk4 {J : World → Prop} (hJ : Stab J) (d : Db) (ua : UInt8) (hw : ∀ f ∈ d.frames, f.wide.length * 32 ≤ 140737488351232) (hG : Q1 J) : Fn Tryz.prog J 3 [.agg (dbC d), .rd (.lit (.int .u8 (ua.toNat : Int)))] (.bool true) := by
 refine Zx (N := 60) Tryz.func3 rfl rfl (lb rfl) fun S w0 hS hJ0 => ?_
 refine tw Ym ?_
 refine ZP tb hJ [1,1000] [.ptr (dbC d),_] [0] [_,_] rfl ⟨fun _ _ hk hx hl _ => YX rfl (hl.env 0 0 _ rfl rfl) (Zr hS _ hk hx _ (Nat.le_refl _)) (jo hJ hx), trivial⟩ ?_
 refine Zo (ZP tb hJ [0,1,1008] [_,.bool (ZcS d (20 : Int) (200 : Int)),_,_,_,_,.int (d.frames.length : Nat),_,_] [1,6] [_,_,_] rfl ⟨iFo hS hJ (Zpw hJ (d := d) (n := (20 : Int)) (m := (200 : Int)) ) call_7, Yz Xw, trivial⟩ ?_)
 refine cj 2 (fun hb1 => ?_) fun hb1 => ?_
 refine ZP tb hJ [1001] [.bool true,_] [0] [_] rfl ⟨iFo hS hJ (Zgx hJ  (by exact hG)) ZlQ, trivial⟩ ?_
 exact Zi (Qh (m := 0) rfl rfl rfl)
 have e1 : ZcS d 20 200 = true ∧ ¬ d.frames.length = 0 := by simp only [Bool.or_eq_false_iff, Bool.not_eq_false', decide_eq_false_iff_not] at hb1; exact ⟨hb1.1, by omega⟩
 have hpl := Zmz e1.1 (by omega)
 have hln := Zj2 e1.1
 obtain ⟨q, hq⟩ : ∃ q : Nat, ((ua.toNat : Int) % (d.frames.length : Int)) = (q : Int) := ⟨((ua.toNat : Int) % (d.frames.length : Int)).toNat, by rw [Int.toNat_of_nonneg (Int.emod_nonneg _ (by omega))]⟩
 have hq2 : q < d.frames.length := by have := Int.emod_lt_of_pos (ua.toNat : Int) (show (0 : Int) < (d.frames.length : Int) by omega); omega
 refine Zf (nx (Zo (Y3 tb hJ [1,1003,1006] [_,.int (ua.toNat : Nat),_,_,.int (d.frames.length : Nat),.int ((ua.toNat : Int) % (d.frames.length : Int)),_] [1,4,5] [_,_,_] rfl ⟨fun _ _ _ hx hl _ => Zki Zbl XS rfl (hl.dep 0 21 _ rfl rfl rfl rfl) hx, Yz Xw, fun _ _ _ hx hl _ => r_rem rfl (hl.dep 1 22 _ rfl rfl rfl rfl) (hl.dep 4 25 _ rfl rfl rfl rfl) (by first | omega | (simp; omega) | grind [Zc]) (by first | omega | (simp; omega) | grind [Zc]) hx, trivial⟩ ?_)))
 refine kw (sa 2 rfl (show (.int ((ua.toNat : Int) % (d.frames.length : Int)) : AV) = .int (q : Nat) from congrArg AV.int hq)) ?_
 refine nx (ln 1 fun hl1 => ?_)
 refine tsq ?_
 refine snK 2 tb rfl ?_
 refine sq (.tup [.agg (vdC ((QG d (q : Int)).1)), .int ((QG d (q : Int)).2)]) rfl rfl (lb rfl) (fun _ _ h => Zez (ZcX hJ (d := d) (z := (q : Int)) (by first | exact hw | exact fun f hf => hw f (List.mem_of_mem_take hf)) (by exact hG) (by first | exact hpl | exact fun f hf => hpl f (List.mem_of_mem_take hf))) ZlO rfl (Zr hS _ h.keep h.x) (h.x.1) (Za (h.get 1 rfl) (Za (h.get 0 rfl) Ze)) (jo hJ h.x)) ?_
 refine snK 3 tb rfl ?_
 refine X0 (cs := vdC ((QG d (q : Int)).1)) Zen rfl rfl rfl (lb rfl) rfl rfl rfl (by decide) (m := 1) rfl rfl (fun a w h => Zr hS _ h.keep h.x _ (Nat.le_refl _)) (fun a w h w' hk' => Yj hJ _ _ hk' h.x) ?_
 refine snK 1 tb rfl ?_
 refine seK [0,1,8,10] [_,_,_,_] rfl ?_
 refine nx (Zo (qso tb hJ [1,2,3,1001] [_,_] [_,_,_,_] ?_))
 refine cj 3 (fun hb2 => ?_) fun hb2 => ?_
 try simp at hb2
 refine ZP tb hJ [1001] [.bool true,_] [0] [_] rfl ⟨iFo hS hJ (Zgx hJ  (by exact hG)) ZlQ, trivial⟩ ?_
 exact Zi (Qh (m := 0) rfl rfl rfl)
 try simp at hb2
 have e2 : Qr d (q : Int) = 0 := by rw [← ZjO]; exact hb2
 have e3 : QG (⟨d.consts, d.vars, d.frames.take (q + 1)⟩ : Db) (q : Int) = QG d (q : Int) := ZpI e2
 refine Zf (nx (tsq ?_))
 refine snK 1 tb rfl ?_
 refine ZW ZcJ hJ rfl rfl rfl (lb rfl) fun b1 => ?_
 refine ZE (b := b1) (off := 0) (cs := [Zb ([] : List ByteArray), Zb ([] : List ByteArray), Zbc ([] : List Fr)]) (es := [Zb d.consts, Zb d.vars, Zbc d.frames]) (news := [Zb d.consts, Zb d.vars, Zbc d.frames]) hJ hJ0 Zfi rfl rfl rfl (lb rfl) rfl (fun a w h => ⟨(h.get 0 rfl), (h.get 1 rfl)⟩) ?_
 refine seK [0,2,3,4] [_,_,_,_] rfl ?_
 refine nx (tsq ?_)
 refine snK 3 tb rfl ?_
 refine sq (.int (q + 1 : Nat)) rfl rfl (lb rfl) (fun _ _ h => ZeA (i := (q : Int)) (j := (1 : Int)) rfl (h.get 0 rfl) (Rel.of_lit (Go.Value.int Go.IntKind.i64 1)) (by first | omega | (simp; omega) | grind [Zc]) (by first | omega | (simp; omega) | grind [Zc]) h.x) ?_
 refine sq (.rd (Zbc (d.frames.take (q + 1)))) rfl rfl (lb rfl) (fun _ _ h => Zbs (ys := d.frames.take (q + 1)) (lo := 0) (hi := q + 1) List.drop_zero YD (fun _ => rfl) rfl (h.get 2 rfl) rfl (h.get 0 rfl) (by first | omega | (simp; omega) | grind [Zc]) (by first | omega | (simp; omega) | grind [Zc]) h.x) ?_
 refine Xs (O := []) (R := [OB.var b1 [Zb d.consts, Zb d.vars, Zbc d.frames]]) (Znd hJ (xs := (d.frames.take (q + 1))) (by first | omega | (simp; omega) | grind [Zc])) Zrx rfl rfl rfl (lb rfl) hS hJ0 Zt (fun a w h => (Za (h.get 0 rfl) Ze)) fun z2 => ?_
 refine sq (.at b1 2) rfl rfl (lb rfl) (fun _ _ h => Zn QX rfl (h.get 6 rfl) h.x) ?_
 refine kw pm1 ?_
 refine kw pm1 ?_
 refine kw (fun h => Yu hS h (m := 1) (s := 42) rfl) ?_
 refine ZJ (b := b1) (off := 2) (cs := [Zb d.consts, Zb d.vars, Zbc d.frames]) (es := [Zb d.consts, Zb d.vars, Zbc (d.frames.take (q + 1))]) hJ hJ0 Zj7 rfl rfl rfl (lb rfl) rfl (fun a w h => ⟨(h.get 1 rfl), (h.get 0 rfl)⟩) ?_
 refine seK [0,2,7,8,10] [_,_,_,_,_] rfl ?_
 refine nx (ln 0 fun hl2 => ?_)
 refine ln 1 fun hl3 => ?_
 refine tsq ?_
 refine sq (.agg (dbC (⟨d.consts, d.vars, (d.frames.take (q + 1))⟩ : Db))) rfl rfl (lb rfl) (fun _ _ h => Yd (cs := [Zb d.consts, Zb d.vars, Zbc (d.frames.take (q + 1))]) (ds := [Zb d.consts, Zb d.vars, Zbc (d.frames.take (q + 1))]) ZcE rfl (Zd h.x (mo 0 rfl)) (h.get 2 rfl) rfl rfl h.x) ?_
 refine snK 1 tb rfl ?_
 refine sq (.tup [.agg (vdC ((QG (⟨d.consts, d.vars, (d.frames.take (q + 1))⟩ : Db) (q : Int)).1)), .int ((QG (⟨d.consts, d.vars, (d.frames.take (q + 1))⟩ : Db) (q : Int)).2)]) rfl rfl (lb rfl) (fun _ _ h => Zez (ZcX hJ (d := (⟨d.consts, d.vars, (d.frames.take (q + 1))⟩ : Db)) (z := (q : Int)) (by first | exact hw | exact fun f hf => hw f (List.mem_of_mem_take hf)) (by exact hG) (by first | exact hpl | exact fun f hf => hpl f (List.mem_of_mem_take hf))) ZlO rfl (Zr hS _ h.keep h.x) (h.x.1) (Za (h.get 1 rfl) (Za (h.get 0 rfl) Ze)) (jo hJ h.x)) ?_
 refine snK 3 tb rfl ?_
 refine X0 (cs := vdC ((QG (⟨d.consts, d.vars, (d.frames.take (q + 1))⟩ : Db) (q : Int)).1)) Zen rfl rfl rfl (lb rfl) rfl rfl rfl (by decide) (m := 1) rfl rfl (fun a w h => Zr hS _ h.keep h.x _ (Nat.le_refl _)) (fun a w h w' hk' => Yj hJ _ _ hk' h.x) ?_
 refine snK 1 tb rfl ?_
 refine seK [0,1,11] [_,_,_] rfl ?_
 refine nx (ZP tb hJ [1010] [_,_,_,_,_,.bool (decide (((QG d (q : Int)).1).1 = ((QG (⟨d.consts, d.vars, (d.frames.take (q + 1))⟩ : Db) (q : Int)).1).1) && decide (((QG d (q : Int)).1).2 = ((QG (⟨d.consts, d.vars, (d.frames.take (q + 1))⟩ : Db) (q : Int)).1).2)),_,_,.bool true,_,_] [5,8] [_] rfl ⟨fun _ _ _ hx hl hc => r_eqlV eqVd rfl (hl.dep 3 53 _ rfl rfl rfl hc) (hl.dep 4 54 _ rfl rfl rfl hc) hx, fun _ _ hk hx _ hc => Zez (Zgx hJ  (by have hc' : (((decide ((QG (⟨d.consts, d.vars, (d.frames.take (q + 1))⟩ : Db) (q : Int)).2 = (0 : Int))) && (decide (((QG d (q : Int)).1).1 = ((QG (⟨d.consts, d.vars, (d.frames.take (q + 1))⟩ : Db) (q : Int)).1).1) && decide (((QG d (q : Int)).1).2 = ((QG (⟨d.consts, d.vars, (d.frames.take (q + 1))⟩ : Db) (q : Int)).1).2))) == true) = true := hc; (try simp at hc'); (exact hG))) ZlQ rfl (Zr hS _ hk hx) (hx.1) Ze (jo hJ hx), trivial⟩ ?_)
 exact Zi (Qh (m := 0) rfl rfl (eB (by rw [e3]; simp [ZjO, e2])))
end Go.Proofs.YtgifeodnngodiaaGreatDoor
