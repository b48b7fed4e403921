/-
  CONTRACT of the program: the machine of a proof.
  CONTRACT of the program: a verdict.
  CONTRACTS of the program: verdicts of theorems, of other proofs.
  THE ENGINE: rows of structs from given parts; a struct of a row and a verdict; verdicts compared.
  THE LAW's SAMPLE of verdicts, and its bounds (plain).
  CONTRACTS of the law of verdicts: its bounds, its sample, awake.
  THE ENGINE: whole numbers of 16 bits; an append to an own row that is data at once.
  A PROOF THAT IS CUT (plain): runs of a normal proof.
  THE LAW VerifyCuts returns true.
-/
import Derived.Test.YtgifeodnngodiaaGreatDoorLAB
import Derived.Test.YtgifeodnngodiaaGreatDoorLAC
import Derived.Test.YtgifeodnngodiaaGreatDoorLL
import Derived.Test.YtgifeodnngodiaaGreatDoorLX
set_option maxHeartbeats 8000000
set_option maxRecDepth 100000
namespace Go.Proofs.YtgifeodnngodiaaGreatDoor
open Go.RowKit
theorem Zmd : ZpH Tryz.prog 77 := fun x1 x2 x3 y1 y2 y3 y4 y5 y6 y7 y8 m => by kernel_rfl
theorem ZkM {J : World → Prop} (hJ : Stab J) (d : Db) (n : Nat) (t : List ByteArray) (hn : n < d.frames.length) (hfl : d.frames.length ≤ 400) (ht : ∀ h ∈ (ge d.frames n).hyps ++ (ge d.frames n).dummies, h.text.length ≤ 2000) (hh : (ge d.frames n).hyps.length ≤ 2000) (hl : t.length ≤ 100000) (hs : Zb0 t ≤ 1000000000) : FnM (ι := Nat × Value × Value × Value) Tryz.prog J 38 [] [.agg (dbC d), .int (n : Nat), .rd (Zb t)] [] (fun i' => .at (i'.1) 0) (fun i' => [OB.var (i'.1) (mkC d (ge d.frames n) [.lit (i'.2.1), Xq (QX d n t), .lit (i'.2.2.1), .lit (i'.2.2.2), .lit (.int .i64 (((Zap d n t).n : Nat) : Int)), .lit (.bool ((Zap d n t).kn)), .lit (.int .i64 ((Zap d n t).v.1)), .lit (.int .i64 ((Zap d n t).v.2))]), OB.row i'.2.2.1 22 1 (((Zap d n t).sk).map Zg), OB.row i'.2.2.2 22 1 (((Zap d n t).tg).map Zg)]) := by
 refine Z8 (N := 49) Tryz.func38 rfl rfl (lb rfl) fun S w0 R hS hJ0 hH => ?_
 refine Ya (B := St All (SO S (R)) w0 49 [(0, .agg (dbC d)), (1, .int (n : Nat)), (2, .rd (Zb t))] (XO J S w0.heap.size (R))) ?_ fun a w h => h
 refine ln 2 fun hl1 => ?_
 obtain ⟨ui, hui⟩ : ∃ v, v = Value.slice none 0 0 := ⟨_, rfl⟩
 obtain ⟨us, hus⟩ : ∃ v, v = Value.slice none 0 0 := ⟨_, rfl⟩
 obtain ⟨ut, hut⟩ : ∃ v, v = Value.slice none 0 0 := ⟨_, rfl⟩
 refine tsq ?_
 refine sq (.ptr (dbC d)) rfl rfl (lb rfl) (fun _ _ h => YU rfl (h.get 0 rfl) (Zr hS _ h.keep h.x _ (Nat.le_refl _)) (jo hJ h.x)) ?_
 refine Zkf (c := Zb t) hJ rfl rfl rfl (lb rfl) (fun a w h => (h.get 3 rfl)) fun b1 => ?_
 refine snK 1 tb rfl ?_
 refine seK [1,2,4] [_,_,_] rfl ?_
 refine nx (Zn (fun a w h => ZmR (γ := Nat × Value × Nat × Nat) (fun ix' => ([.agg (dbC d), .ptr [ZeN d.frames], .rd (ZeN d.frames), .int (n : Nat), .ptr (frC (ge d.frames n)), .agg (frC (ge d.frames n)), .any, .any, .any, .any, .any] : List AV).getD ix' .any) (fun _ => true) [(5, fun (g : Nat × Value × Nat × Nat) => .at b1 0), (3, fun (g : Nat × Value × Nat × Nat) => .ptr (dbC d)), (1, fun (g : Nat × Value × Nat × Nat) => .int (n : Nat)), (7, fun (g : Nat × Value × Nat × Nat) => .at g.2.2.2 0)] (fun (D : Nat → Bool) (g : Nat × Value × Nat × Nat) => (if D 2 then [OB.var g.2.2.1 (mkC d (ge d.frames n) [.lit (.map (some g.1)), .lit (.slice none 0 0), .lit (.slice none 0 0), .lit (.slice none 0 0), .lit (.int .i64 (0 : Int)), .lit (.bool false), .lit (.int .i64 (0 : Int)), .lit (.int .i64 (0 : Int))])] else if D 1 then [ZpL (mkC d (ge d.frames n) [.lit (.map (some g.1)), .lit (.slice none 0 0), .lit (.slice none 0 0), .lit (.slice none 0 0), .lit (.int .i64 (0 : Int)), .lit (.bool false), .lit (.int .i64 (0 : Int)), .lit (.int .i64 (0 : Int))]) g.2.1] else []) ++ ((if D 0 then [OB.mI g.1 []] else []) ++ ((if D 4 then [OB.var g.2.2.2 [.lit (.pointer (some ⟨g.2.2.1, 0, none⟩))]] else if D 3 then [OB.var g.2.2.2 [.lit (.pointer none)]] else []) ++ (OB.var b1 [Zb t] :: R)))) (fun (k' : Nat) (g : Nat × Value × Nat × Nat) => match k' with | 0 => .map (some g.1) | 1 => g.2.1 | 2 => .pointer (some ⟨g.2.2.1, 0, none⟩) | 3 => .pointer (some ⟨g.2.2.2, 0, none⟩) | _ => undef) [6, 7, 8, 9, 10] (0, undef, 0, 0) (fun _ => rfl) h hJ Yd rfl rfl rfl rfl (fun D g p hp => List.mem_append_right _ (List.mem_append_right _ (List.mem_append_right _ hp))) ⟨?o0, ⟨?o1, ⟨?o2, ⟨?o3, ⟨?o4, ⟨?o5, ⟨?o6, ⟨?o7, ⟨?o8, ⟨?o9, ⟨?o10, trivial⟩⟩⟩⟩⟩⟩⟩⟩⟩⟩⟩ ⟨?e0, ⟨?e1, ⟨?e2, ⟨?e3, ⟨?e4, trivial⟩⟩⟩⟩⟩ ⟨.old 0 5 _ rfl rfl, ⟨.old 1 3 _ rfl rfl, ⟨.old 2 1 _ rfl rfl, ⟨.eff 3 9 7 (fun (g : Nat × Value × Nat × Nat) => .pointer (some ⟨g.2.2.2, 0, none⟩)) rfl rfl (fun _ => rfl) (fun _ => True.intro), trivial⟩⟩⟩⟩ ?n1))
 case o0 => exact fun _ O' _ => ⟨rfl, fun _ _ _ hx hl _ => Zab ZbY rfl (hl.env 1 3 _ rfl rfl) (Nat.le_refl _) hx⟩
 case o1 => exact fun _ O' _ => ⟨rfl, fun _ _ _ hx hl _ => ZR Za3 rfl (hl.env 1 3 _ rfl rfl) hx⟩
 case o2 => exact fun _ O' _ => ⟨rfl, fun _ _ _ hx hl _ => Zy Zh7 rfl (hl.dep 1 11 _ rfl rfl rfl rfl) hx⟩
 case o3 => exact fun _ O' _ => ⟨rfl, fun _ _ _ hx hl _ => Yb rfl (hl.env 2 1 _ rfl rfl) hx⟩
 case o4 => exact fun _ O' _ => ⟨rfl, fun _ _ _ hx hl _ => Yg (i := (n : Int)) YI rfl (hl.dep 2 12 _ rfl rfl rfl rfl) (hl.dep 3 13 _ rfl rfl rfl rfl) (Int.natCast_nonneg _) (Yt (xs := d.frames) (k := n) (by first | omega | (simp; omega) | grind [Zc])) rfl hx⟩
 case o5 => exact fun _ O' _ => ⟨rfl, fun _ _ _ hx hl _ => Zab ZiJ rfl (hl.dep 4 14 _ rfl rfl rfl rfl) (Nat.le_refl _) hx⟩
 case o6 => exact Zk rfl
 case o7 => exact Zk rfl
 case o8 => exact Zk rfl
 case o9 => exact Zk rfl
 case o10 => exact Zk rfl
 case e0 =>
  refine ⟨_, rfl, rfl, rfl, rfl, fun D g a w hD hpre hcl hk hx hl hs => ?_⟩
  have d0 := hD
  have d1 : D 1 = false := by cases hq : D 1 with | false => rfl | true => exact absurd (hcl 1 0 7 6 rfl rfl hq (by decide)) (by simp [d0])
  have d2 : D 2 = false := by cases hq : D 2 with | false => rfl | true => exact absurd (hcl 2 1 8 7 rfl rfl hq (by decide)) (by simp [d1])
  have d4 : D 4 = false := by cases hq : D 4 with | false => rfl | true => exact absurd (hcl 4 2 10 8 rfl rfl hq (by decide)) (by simp [d2])
  simp only [Zev, d0, d1, d2, d4, if_true, if_false, Bool.false_eq_true, List.nil_append, Nat.reduceEqDiff, List.cons_append] at hx hl ⊢
  exact Zo (d_map keyS (fun z' : Int => AV.int z') hJ rfl hk hx) fun v w' ⟨M', hv, hp⟩ => ⟨(M', g.2), (fun k' hk' => by rcases k' with _ | _ | _ | _ | k' <;> first | rfl | simp_all), fun _ => hv, hp⟩
 case e1 =>
  refine ⟨_, rfl, rfl, rfl, rfl, fun D g a w hD hpre hcl hk hx hl hs => ?_⟩
  have d1 := hD
  have d0 : D 0 = true := hpre 0 6 rfl (by decide)
  have d2 : D 2 = false := by cases hq : D 2 with | false => rfl | true => exact absurd (hcl 2 1 8 7 rfl rfl hq (by decide)) (by simp [d1])
  have d4 : D 4 = false := by cases hq : D 4 with | false => rfl | true => exact absurd (hcl 4 2 10 8 rfl rfl hq (by decide)) (by simp [d2])
  simp only [Zev, d0, d1, d2, d4, if_true, if_false, Bool.false_eq_true, List.nil_append, Nat.reduceEqDiff, List.cons_append] at hx hl ⊢
  exact Zo (ZnU (cs := (mkC d (ge d.frames n) [.lit (.map (some g.1)), .lit (.slice none 0 0), .lit (.slice none 0 0), .lit (.slice none 0 0), .lit (.int .i64 (0 : Int)), .lit (.bool false), .lit (.int .i64 (0 : Int)), .lit (.int .i64 (0 : Int))])) hk (Zm3 (d := d) (f := (ge d.frames n)) (m := g.1) Zmd rfl (hl.dep 0 10 _ rfl rfl rfl rfl) (hl.dep 5 15 _ rfl rfl rfl rfl) (hs 0 6 _ 16 d0 rfl rfl rfl) hx)) fun v w' hp => ⟨(g.1, v, g.2.2), (fun k' hk' => by rcases k' with _ | _ | _ | _ | k' <;> first | rfl | simp_all), fun _ => rfl, hp⟩
 case e2 =>
  refine ⟨_, rfl, rfl, rfl, rfl, fun D g a w hD hpre hcl hk hx hl hs => ?_⟩
  have d2 := hD
  have d1 : D 1 = true := hpre 1 7 rfl (by decide)
  have d0 : D 0 = true := hpre 0 6 rfl (by decide)
  have d4 : D 4 = false := by cases hq : D 4 with | false => rfl | true => exact absurd (hcl 4 2 10 8 rfl rfl hq (by decide)) (by simp [d2])
  simp only [Zev, d0, d1, d2, d4, if_true, if_false, Bool.false_eq_true, List.nil_append, Nat.reduceEqDiff, List.cons_append] at hx hl ⊢
  exact Zo (d_boxW (cs := (mkC d (ge d.frames n) [.lit (.map (some g.1)), .lit (.slice none 0 0), .lit (.slice none 0 0), .lit (.slice none 0 0), .lit (.int .i64 (0 : Int)), .lit (.bool false), .lit (.int .i64 (0 : Int)), .lit (.int .i64 (0 : Int))])) hJ rfl (hs 1 7 _ 17 d1 rfl rfl rfl) hk hx) fun v w' ⟨b', hv, hp⟩ => ⟨(g.1, g.2.1, b', g.2.2.2), (fun k' hk' => by rcases k' with _ | _ | _ | _ | k' <;> first | rfl | simp_all), fun _ => hv, hp⟩
 case e3 =>
  refine ⟨_, rfl, rfl, rfl, rfl, fun D g a w hD hpre hcl hk hx hl hs => ?_⟩
  have d3 := hD
  have d4 : D 4 = false := by cases hq : D 4 with | false => rfl | true => exact absurd (hcl 4 3 10 9 rfl rfl hq (by decide)) (by simp [d3])
  simp only [Zev, d3, d4, if_true, if_false, Bool.false_eq_true, List.nil_append, Nat.reduceEqDiff, List.cons_append] at hx hl ⊢
  simp only [← List.append_assoc] at hx ⊢
  exact Zo (Zah ZjX hJ rfl hk hx) fun v w' ⟨b', hv, hp⟩ => ⟨(g.1, g.2.1, g.2.2.1, b'), (fun k' hk' => by rcases k' with _ | _ | _ | _ | k' <;> first | rfl | simp_all), fun _ => hv, Zax (.refl _) perm_mid.symm hp⟩
 case e4 =>
  refine ⟨_, rfl, rfl, rfl, rfl, fun D g a w hD hpre hcl hk hx hl hs => ?_⟩
  have d4 := hD
  have d3 : D 3 = true := hpre 3 9 rfl (by decide)
  have d2 : D 2 = true := hpre 2 8 rfl (by decide)
  have d1 : D 1 = true := hpre 1 7 rfl (by decide)
  have d0 : D 0 = true := hpre 0 6 rfl (by decide)
  simp only [Zev, d0, d1, d2, d3, d4, if_true, if_false, Bool.false_eq_true, List.nil_append, Nat.reduceEqDiff, List.cons_append] at hx hl ⊢
  refine Zo (Y4 (S' := S) (off := 0) (cs := [.lit (.pointer none)]) (news := [.lit (.pointer (some ⟨g.2.2.1, 0, none⟩))]) (es := [.lit (.pointer (some ⟨g.2.2.1, 0, none⟩))]) (us := [.pointer (some ⟨g.2.2.1, 0, none⟩)]) hJ hJ0 Zki rfl hk (Yf perm_3 hx) (ZbD (hs 3 9 _ 7 d3 rfl rfl rfl)) (by rw [hs 2 8 _ 18 d2 rfl rfl rfl]; rfl) ⟨.lit _ True.intro, trivial⟩ (lb rfl) rfl) fun v w' hp => ⟨g, fun _ _ => rfl, fun e => (by cases e), Zax perm_3.symm perm_3.symm hp⟩
 clear a w h
 rintro ⟨m3, x5, b2, b4⟩
 change ∀ a w, St All (SO S (OB.var b2 (mkC d (ge d.frames n) [.lit (.map (some m3)), .lit (.slice none 0 0), .lit (.slice none 0 0), .lit (.slice none 0 0), .lit (.int .i64 (0 : Int)), .lit (.bool false), .lit (.int .i64 (0 : Int)), .lit (.int .i64 (0 : Int))]) :: OB.mI m3 ([] : List (ByteArray × Int)) :: OB.var b4 [.lit (.pointer (some ⟨b2, 0, none⟩))] :: OB.var b1 [Zb t] :: R)) w0 49 [(5, .at b1 0), (3, .ptr (dbC d)), (1, .int (n : Nat)), (7, .at b4 0)] (XO J S w0.heap.size (OB.var b2 (mkC d (ge d.frames n) [.lit (.map (some m3)), .lit (.slice none 0 0), .lit (.slice none 0 0), .lit (.slice none 0 0), .lit (.int .i64 (0 : Int)), .lit (.bool false), .lit (.int .i64 (0 : Int)), .lit (.int .i64 (0 : Int))]) :: OB.mI m3 ([] : List (ByteArray × Int)) :: OB.var b4 [.lit (.pointer (some ⟨b2, 0, none⟩))] :: OB.var b1 [Zb t] :: R)) a w → _
 refine kw (ob0 (show OB.var b2 (mkC d (ge d.frames n) [.lit (.map (some m3)), .lit (.slice none 0 0), .lit (.slice none 0 0), .lit (.slice none 0 0), .lit (.int .i64 (0 : Int)), .lit (.bool false), .lit (.int .i64 (0 : Int)), .lit (.int .i64 (0 : Int))]) = OB.var b2 (mkC d (ge d.frames n) [.lit (.map (some m3)), .lit ui, .lit us, .lit ut, .lit (.int .i64 (0 : Int)), .lit (.bool false), .lit (.int .i64 (0 : Int)), .lit (.int .i64 (0 : Int))]) from by rw [hui, hus, hut])) ?_
 refine kw (YA 89 4 hJ) ?_
 refine kw (ob0 (show OB.row (.slice none 0 0) 89 4 [] = OB.row ui 89 4 (([] : List Itm).map itC) from by rw [hui]; rfl)) ?_
 refine kw (YA 22 1 hJ) ?_
 refine kw (ob0 (show OB.row (.slice none 0 0) 22 1 [] = OB.row us 22 1 (([] : List (List ByteArray)).map Zg) from by rw [hus]; rfl)) ?_
 refine kw (YA 22 1 hJ) ?_
 refine kw (ob0 (show OB.row (.slice none 0 0) 22 1 [] = OB.row ut 22 1 (([] : List (List ByteArray)).map Zg) from by rw [hut]; rfl)) ?_
 refine nx (Zn (qso tb hJ [0,1,3,1000,1001] [_,_] [_,_,_,_,_] ?_))
 refine Zh (lpo (ι := Nat × (List (ByteArray × Int))) (fun (k, L) => (k ≤ n) ∧ (L = Qj (d.frames.take k))) (fun (_, L) => (OB.row ut 22 1 (([] : List (List ByteArray)).map Zg) :: OB.row us 22 1 (([] : List (List ByteArray)).map Zg) :: OB.row ui 89 4 (([] : List Itm).map itC) :: OB.var b2 (mkC d (ge d.frames n) [.lit (.map (some m3)), .lit ui, .lit us, .lit ut, .lit (.int .i64 (0 : Int)), .lit (.bool false), .lit (.int .i64 (0 : Int)), .lit (.int .i64 (0 : Int))]) :: OB.mI m3 L :: OB.var b4 [.lit (.pointer (some ⟨b2, 0, none⟩))] :: OB.var b1 [Zb t] :: R)) (fun (k, _) => [(20, .int (k : Nat))]) (fun (k, _) => n - k) [0,1,2,3,4] [_,_,_,_] (0, ([] : List (ByteArray × Int))) ⟨Nat.zero_le _, namL_nil.symm⟩ ?_)
 rintro ⟨k, L⟩ ⟨f1_1, f1_2⟩
 refine qso tb hJ [0,1,2,3,4,1000] [_] [_,_,_,_,_,_] ?_
 refine cjS 5 (fun hb1 => ?_) fun hb1 => ?_
 try simp at hb1
 refine Zf (nx (Zn (Zh (qso tb hJ [0,1,2,3,4,1001] [_,_] [_,_,_,_,_,_] ?_))))
 refine tw pm4 ?_
 refine fun a w h => YE (γ := Unit) (fun ix' => ([.at b2 0, .at b2 0, .at b2 11, .lit (.map (some m3)), .ptr [ZeN d.frames], .rd (ZeN d.frames), .int (k : Nat), .ptr (frC (ge d.frames k)), .ptr (frC (ge d.frames k)), .str ((ge d.frames k).label), .int (k : Nat), .any] : List AV).getD ix' .any) (fun ix' => ([true, true, true, true, true, true, true, true, true, true, true, true] : List Bool).getD ix' true) [(5, fun (g : Unit) => .at b1 0), (3, fun (g : Unit) => .ptr (dbC d)), (7, fun (g : Unit) => .at b4 0), (19, fun (g : Unit) => .int (n : Nat)), (20, fun (g : Unit) => .int (k : Nat))] (fun (j' : Nat) (g : Unit) => match j' with | 0 => (OB.mI m3 L :: OB.row ut 22 1 (([] : List (List ByteArray)).map Zg) :: OB.row us 22 1 (([] : List (List ByteArray)).map Zg) :: OB.row ui 89 4 (([] : List Itm).map itC) :: OB.var b2 (mkC d (ge d.frames n) [.lit (.map (some m3)), .lit ui, .lit us, .lit ut, .lit (.int .i64 (0 : Int)), .lit (.bool false), .lit (.int .i64 (0 : Int)), .lit (.int .i64 (0 : Int))]) :: OB.var b4 [.lit (.pointer (some ⟨b2, 0, none⟩))] :: OB.var b1 [Zb t] :: R) | _ => (OB.mI m3 (Qq L ((ge d.frames k).label) (k : Int)) :: OB.row ut 22 1 (([] : List (List ByteArray)).map Zg) :: OB.row us 22 1 (([] : List (List ByteArray)).map Zg) :: OB.row ui 89 4 (([] : List Itm).map itC) :: OB.var b2 (mkC d (ge d.frames n) [.lit (.map (some m3)), .lit ui, .lit us, .lit ut, .lit (.int .i64 (0 : Int)), .lit (.bool false), .lit (.int .i64 (0 : Int)), .lit (.int .i64 (0 : Int))]) :: OB.var b4 [.lit (.pointer (some ⟨b2, 0, none⟩))] :: OB.var b1 [Zb t] :: R)) (fun (k' : Nat) (g : Unit) => match k' with | 0 => undef | _ => undef) [11] 0 () (fun _ => rfl) h hJ Yd rfl rfl rfl rfl rfl rfl (fun j' g hj p hp => by rcases j' with _ | _ | _ | j' <;> first | exact hp | exact List.mem_cons_of_mem _ hp | exact List.mem_cons_of_mem _ (List.mem_cons_of_mem _ hp) | (exfalso; omega)) ⟨?o5_1_0, ⟨?o5_1_1, ⟨?o5_1_2, ⟨?o5_1_3, ⟨?o5_1_4, ⟨?o5_1_5, ⟨?o5_1_6, ⟨?o5_1_7, ⟨?o5_1_8, ⟨?o5_1_9, ⟨?o5_1_10, ⟨?o5_1_11, trivial⟩⟩⟩⟩⟩⟩⟩⟩⟩⟩⟩⟩ ⟨?e5_1_0, trivial⟩ ⟨.old 0 5 _ rfl rfl, ⟨.old 1 3 _ rfl rfl, ⟨.old 2 7 _ rfl rfl, ⟨.old 3 19 _ rfl rfl, ⟨.old 4 20 _ rfl rfl, trivial⟩⟩⟩⟩⟩ ?n5_1
 case o5_1_0 => exact fun _ O' hO' => ⟨rfl, fun _ _ _ hx hl _ => Zs (cs := [.lit (.pointer (some ⟨b2, 0, none⟩))]) Z7 rfl (Ze hx (hO' _ (mo 5 rfl))) (hl.env 2 7 _ rfl rfl) rfl hx⟩
 case o5_1_1 => exact fun _ O' _ => ⟨rfl, fun _ _ _ hx hl _ => Zl rfl (hl.dep 0 23 _ rfl rfl rfl rfl) hx⟩
 case o5_1_2 => exact fun _ O' _ => ⟨rfl, fun _ _ _ hx hl _ => Zp Zdh rfl (hl.dep 1 24 _ rfl rfl rfl rfl) hx⟩
 case o5_1_3 => exact fun _ O' hO' => ⟨rfl, fun _ _ _ hx hl _ => Zs (cs := (mkC d (ge d.frames n) [.lit (.map (some m3)), .lit ui, .lit us, .lit ut, .lit (.int .i64 (0 : Int)), .lit (.bool false), .lit (.int .i64 (0 : Int)), .lit (.int .i64 (0 : Int))])) Zpk rfl (Ze hx (hO' _ (mo 4 rfl))) (hl.dep 2 25 _ rfl rfl rfl rfl) rfl hx⟩
 case o5_1_4 => exact fun _ O' _ => ⟨rfl, fun _ _ _ hx hl _ => ZR Za3 rfl (hl.env 1 3 _ rfl rfl) hx⟩
 case o5_1_5 => exact fun _ O' _ => ⟨rfl, fun _ _ _ hx hl _ => Zy Zh7 rfl (hl.dep 4 27 _ rfl rfl rfl rfl) hx⟩
 case o5_1_6 => exact fun _ O' _ => ⟨rfl, fun _ _ _ hx hl _ => Yb rfl (hl.env 5 8 _ rfl rfl) hx⟩
 case o5_1_7 => exact fun _ O' _ => ⟨rfl, fun _ _ _ hx hl _ => Yg (i := (k : Int)) YI rfl (hl.dep 5 28 _ rfl rfl rfl rfl) (hl.dep 6 29 _ rfl rfl rfl rfl) (Int.natCast_nonneg _) (Yt (xs := d.frames) (k := k) (by first | omega | (simp; omega) | grind [Zc])) rfl hx⟩
 case o5_1_8 => exact fun _ O' _ => ⟨rfl, fun _ _ _ hx hl _ => ZR Zcf rfl (hl.dep 7 30 _ rfl rfl rfl rfl) hx⟩
 case o5_1_9 => exact fun _ O' _ => ⟨rfl, fun _ _ _ hx hl _ => Zy QN rfl (hl.dep 8 31 _ rfl rfl rfl rfl) hx⟩
 case o5_1_10 => exact fun _ O' _ => ⟨rfl, fun _ _ _ hx hl _ => Yb rfl (hl.env 5 8 _ rfl rfl) hx⟩
 case o5_1_11 => exact Zk rfl
 case e5_1_0 => exact ⟨_, rfl, rfl, rfl, rfl, fun g _ w hk hx hl _ => Zo (ZlJ (f := (fun z' : Int => AV.int z')) Zc8 hJ hJ0 ((ge d.frames k).label) (k : Int) (.inl rfl) hk hx (hl.dep 3 26 _ rfl rfl rfl rfl) (hl.dep 9 32 _ rfl rfl rfl rfl) (hl.dep 10 33 _ rfl rfl rfl rfl)) fun v w' ⟨_, hp⟩ => ⟨g, rfl, fun _ _ => rfl, fun e => (by cases e), hp⟩⟩
 clear a w h
 intro _
 change ∀ a w, St All (SO S (OB.mI m3 (Qq L ((ge d.frames k).label) (k : Int)) :: OB.row ut 22 1 (([] : List (List ByteArray)).map Zg) :: OB.row us 22 1 (([] : List (List ByteArray)).map Zg) :: OB.row ui 89 4 (([] : List Itm).map itC) :: OB.var b2 (mkC d (ge d.frames n) [.lit (.map (some m3)), .lit ui, .lit us, .lit ut, .lit (.int .i64 (0 : Int)), .lit (.bool false), .lit (.int .i64 (0 : Int)), .lit (.int .i64 (0 : Int))]) :: OB.var b4 [.lit (.pointer (some ⟨b2, 0, none⟩))] :: OB.var b1 [Zb t] :: R)) w0 49 [(5, .at b1 0), (3, .ptr (dbC d)), (7, .at b4 0), (19, .int (n : Nat)), (20, .int (k : Nat))] (XO J S w0.heap.size (OB.mI m3 (Qq L ((ge d.frames k).label) (k : Int)) :: OB.row ut 22 1 (([] : List (List ByteArray)).map Zg) :: OB.row us 22 1 (([] : List (List ByteArray)).map Zg) :: OB.row ui 89 4 (([] : List Itm).map itC) :: OB.var b2 (mkC d (ge d.frames n) [.lit (.map (some m3)), .lit ui, .lit us, .lit ut, .lit (.int .i64 (0 : Int)), .lit (.bool false), .lit (.int .i64 (0 : Int)), .lit (.int .i64 (0 : Int))]) :: OB.var b4 [.lit (.pointer (some ⟨b2, 0, none⟩))] :: OB.var b1 [Zb t] :: R)) a w → _
 refine nx (Y6 tb hJ [0,1,2,3,1001] [.int (k + 1 : Nat),_] [0] [_,_,_,_,_] rfl ⟨YK, trivial⟩ ?_)
 refine kw pm6 ?_
 refine kw pm6 ?_
 refine kw pm2 ?_
 refine kw pm6 ?_
 refine kw pm6 ?_
 refine kw pm6 ?_
 refine kw pm6 ?_
 exact XR (k + 1, Qq L ((ge d.frames k).label) (k : Int)) [0,1,2,3,4] ⟨by omega, by rw [f1_2]; exact (ZfU (by omega)).symm⟩
 try simp at hb1
 have hL : L = Qj (d.frames.take n) := by rw [f1_2, show k = n by omega]
 refine ZC (nx (Zn (tsq ?_)))
 refine sq (.lit (.func (.func 48) #[] #[.pointer (some ⟨b4, 0, none⟩), .pointer (some ⟨b1, 0, none⟩)])) rfl rfl (lb rfl) (fun _ _ h => ZfB (caps := [(Go.Operand.tmp 7), (Go.Operand.tmp 5)]) rfl (map_cons (h.get 2 rfl).lit (map_cons (h.get 0 rfl).lit map_nil)) h.x) ?_
 refine kw pm1 ?_
 refine kw pm1 ?_
 refine kw pm4 ?_
 refine kw pm3 ?_
 refine kw pm4 ?_
 refine kw pm6 ?_
 refine kw pm6 ?_
 refine XH (O := [OB.var b4 [.lit (.pointer (some ⟨b2, 0, none⟩))], OB.var b1 [Zb t], OB.var b2 (mkC d (ge d.frames n) [.lit (.map (some m3)), .lit ui, .lit us, .lit ut, .lit (.int .i64 (0 : Int)), .lit (.bool false), .lit (.int .i64 (0 : Int)), .lit (.int .i64 (0 : Int))]), OB.row ui 89 4 (([] : List Itm).map itC), OB.mI m3 L]) (R := (OB.row ut 22 1 (([] : List (List ByteArray)).map Zg) :: OB.row us 22 1 (([] : List (List ByteArray)).map Zg) :: R)) (Zqy hJ (bm := b4) (bt := b1) (b := b2) (d := d) (f := (ge d.frames n)) (M := m3) (L := L) (vi := ui) (vs := us) (vt := ut) (n := 0) (kn := false) (y1 := (0 : Int)) (y2 := (0 : Int)) (t := t) (by exact ht) (by exact hh) (by exact hl) (by exact hs)) Zl6 rfl rfl rfl (lb rfl) hS hJ0 Zt (fun a w h => (Za (h.get 0 rfl) Zd)) fun z6 => ?_
 refine snK 1 tb rfl ?_
 refine seK [0,5] [_,_] rfl ?_
 refine nx (qso tb hJ [0,1,1001] [_,_] [_,_,_] ?_)
 refine cj 2 (fun hb2 => ?_) fun hb2 => ?_
 try simp at hb2
 have e5 := ZqO (d := d) (n := n) (t := t) (c := z6.1.1) (by rcases z6.2 with h9 | h9; exact absurd h9.1 hb2; rw [← hL]; exact h9.2)
 refine tsq ?_
 refine sq (.at b2 0) rfl rfl (lb rfl) (fun _ _ h => Zs (cs := [.lit (.pointer (some ⟨b2, 0, none⟩))]) Z7 rfl (Ze h.x (mo 0 rfl)) (h.get 1 rfl) rfl h.x) ?_
 refine sq (.at b2 0) rfl rfl (lb rfl) (fun _ _ h => Zl rfl (h.get 0 rfl) h.x) ?_
 refine sq (.at b2 12) rfl rfl (lb rfl) (fun _ _ h => Zp ZM rfl (h.get 0 rfl) h.x) ?_
 refine kw pm2 ?_
 refine ZN (b := b2) (off := 12) (cs := (mkC d (ge d.frames n) [.lit (.map (some m3)), .lit z6.1.2.1, .lit us, .lit ut, .lit (.int .i64 ((0 : Nat) : Int)), .lit (.bool false), .lit (.int .i64 (0 : Int)), .lit (.int .i64 (0 : Int))])) (es := (mkC d (ge d.frames n) [.lit (.map (some m3)), Xq ([] : List Itm), .lit us, .lit ut, .lit (.int .i64 ((0 : Nat) : Int)), .lit (.bool false), .lit (.int .i64 (0 : Int)), .lit (.int .i64 (0 : Int))])) hJ hJ0 Xl rfl rfl rfl (lb rfl) rfl (fun a w h => ⟨(h.get 0 rfl), (Zh9 (Rel.of_lit (Go.Value.slice none 0 0)))⟩) ?_
 refine seK [3,4] [_,_] rfl ?_
 refine nx (tsq ?_)
 refine sq (.at b2 0) rfl rfl (lb rfl) (fun _ _ h => Zs (cs := [.lit (.pointer (some ⟨b2, 0, none⟩))]) Z7 rfl (Ze h.x (mo 1 rfl)) (h.get 1 rfl) rfl h.x) ?_
 refine snK 1 tb rfl ?_
 refine XH (O := [OB.var b2 (mkC d (ge d.frames n) [.lit (.map (some m3)), Xq ([] : List Itm), .lit us, .lit ut, .lit (.int .i64 ((0 : Nat) : Int)), .lit (.bool false), .lit (.int .i64 (0 : Int)), .lit (.int .i64 (0 : Int))])]) (R := (OB.var b4 [.lit (.pointer (some ⟨b2, 0, none⟩))] :: OB.var b1 [Zb t] :: OB.row z6.1.2.1 89 4 (z6.1.2.2.map itC) :: OB.mI m3 L :: OB.row ut 22 1 (([] : List (List ByteArray)).map Zg) :: OB.row us 22 1 (([] : List (List ByteArray)).map Zg) :: R)) (ZfG hJ (b := b2) (d := d) (f := (ge d.frames n)) (nm := (.map (some m3))) (xs := ([] : List Itm)) (n := 0) (vs := us) (vt := ut) (kn := false) (y1 := (0 : Int)) (y2 := (0 : Int)) (e := z6.1.1) (p := (0 : Int)) ) Zdw rfl rfl rfl (lb rfl) hS hJ0 Zt (fun a w h => (Za (h.get 1 rfl) (Za (h.get 0 rfl) (Za (Rel.of_lit (Go.Value.int Go.IntKind.i64 0)) Zd)))) fun _ => ?_
 refine seK [4] [_] rfl ?_
 refine nx (ZO tb hJ [1001] [.at b2 0,_] [0] [_] rfl ⟨fun _ _ _ hx hl _ => Zs (cs := [.lit (.pointer (some ⟨b2, 0, none⟩))]) Z7 rfl (Ze hx (mo 1 rfl)) (hl.env 0 7 _ rfl rfl) rfl hx, trivial⟩ ?_)
 refine tw pm1 ?_
 refine tw ZB ?_
 refine tw pm1 ?_
 refine tw ZB ?_
 refine tw pm1 ?_
 refine tw ZB ?_
 refine tw pm1 ?_
 refine tw ZB ?_
 refine tw pm1 ?_
 refine tw pm2 ?_
 refine tw pm2 ?_
 refine tw (ob0 (show OB.var b2 (mkC d (ge d.frames n) [.lit (.map (some m3)), Xq ([] : List Itm), .lit us, .lit ut, .lit (.int .i64 ((0 : Nat) : Int)), .lit (.bool true), .lit (.int .i64 z6.1.1), .lit (.int .i64 (0 : Int))]) = OB.var b2 (mkC d (ge d.frames n) [.lit (.map (some m3)), Xq (QX d n t), .lit us, .lit ut, .lit (.int .i64 (((Zap d n t).n : Nat) : Int)), .lit (.bool ((Zap d n t).kn)), .lit (.int .i64 ((Zap d n t).v.1)), .lit (.int .i64 ((Zap d n t).v.2))]) from by first | (rw [e5.1, e5.2.2.2.1, e5.2.2.2.2.1, e5.2.2.2.2.2.1, e5.2.2.2.2.2.2]; done) | (rw [e5.1, e5.2.2.2.1, e5.2.2.2.2.1, e5.2.2.2.2.2.1, e5.2.2.2.2.2.2]; rfl) | (rw [e5.2.1]) | (rw [e5.2.2.1]))) ?_
 refine tw (ob1 (congrArg (fun z' => OB.row us 22 1 ((z').map Zg)) (show ([] : List (List ByteArray)) = ((Zap d n t).sk) from by first | (rw [e5.1, e5.2.2.2.1, e5.2.2.2.2.1, e5.2.2.2.2.2.1, e5.2.2.2.2.2.2]; done) | (rw [e5.1, e5.2.2.2.1, e5.2.2.2.2.1, e5.2.2.2.2.2.1, e5.2.2.2.2.2.2]; rfl) | (rw [e5.2.1]) | (rw [e5.2.2.1])))) ?_
 refine tw (ob2 (congrArg (fun z' => OB.row ut 22 1 ((z').map Zg)) (show ([] : List (List ByteArray)) = ((Zap d n t).tg) from by first | (rw [e5.1, e5.2.2.2.1, e5.2.2.2.2.1, e5.2.2.2.2.2.1, e5.2.2.2.2.2.2]; done) | (rw [e5.1, e5.2.2.2.1, e5.2.2.2.2.1, e5.2.2.2.2.2.1, e5.2.2.2.2.2.2]; rfl) | (rw [e5.2.1]) | (rw [e5.2.2.1])))) ?_
 exact Zi (fun a w h => ZS  (m := 0) (b2, (.map (some m3)), us, ut) rfl h rfl rfl)
 try simp at hb2
 have e5 := mch_ok (d := d) (n := n) (t := t) (xs := z6.1.2.2) (by rcases z6.2 with h9 | h9; rw [← hL]; exact h9.2; exact absurd hb2 h9.1)
 refine Zf (nx (tw pm2 ?_))
 refine tw pm3 ?_
 refine tw (fun h => Zes (j := 12) (cs' := (mkC d (ge d.frames n) [.lit (.map (some m3)), Xq z6.1.2.2, .lit us, .lit ut, .lit (.int .i64 ((0 : Nat) : Int)), .lit (.bool false), .lit (.int .i64 (0 : Int)), .lit (.int .i64 (0 : Int))])) hS rfl rfl h) ?_
 refine tsq ?_
 refine sq (.at b2 0) rfl rfl (lb rfl) (fun _ _ h => Zs (cs := [.lit (.pointer (some ⟨b2, 0, none⟩))]) Z7 rfl (Ze h.x (mo 1 rfl)) (h.get 1 rfl) rfl h.x) ?_
 refine kw pm4 ?_
 refine kw pm4 ?_
 refine kw pm4 ?_
 refine kw pm4 ?_
 refine kw pm5 ?_
 refine kw pm5 ?_
 refine XH (O := [OB.var b2 (mkC d (ge d.frames n) [.lit (.map (some m3)), Xq z6.1.2.2, .lit us, .lit ut, .lit (.int .i64 ((0 : Nat) : Int)), .lit (.bool false), .lit (.int .i64 (0 : Int)), .lit (.int .i64 (0 : Int))]), OB.row us 22 1 (([] : List (List ByteArray)).map Zg)]) (R := (OB.var b4 [.lit (.pointer (some ⟨b2, 0, none⟩))] :: OB.var b1 [Zb t] :: OB.mI m3 L :: OB.row ut 22 1 (([] : List (List ByteArray)).map Zg) :: R)) (ZqA hJ (b := b2) (d := d) (f := (ge d.frames n)) (nm := (.map (some m3))) (xs := z6.1.2.2) (vs := us) (vt := ut) (n := 0) (kn := false) (y1 := (0 : Int)) (y2 := (0 : Int)) (sk := ([] : List (List ByteArray))) ) Zhp rfl rfl rfl (lb rfl) hS hJ0 Zt (fun a w h => (Za (h.get 0 rfl) Zd)) fun _ => ?_
 refine seK [3] [_] rfl ?_
 refine nx (ZO tb hJ [1001] [.at b2 0,_] [0] [_] rfl ⟨fun _ _ _ hx hl _ => Zs (cs := [.lit (.pointer (some ⟨b2, 0, none⟩))]) Z7 rfl (Ze hx (mo 2 rfl)) (hl.env 0 7 _ rfl rfl) rfl hx, trivial⟩ ?_)
 refine tw pm2 ?_
 refine tw ZB ?_
 refine tw pm2 ?_
 refine tw ZB ?_
 refine tw pm2 ?_
 refine tw ZB ?_
 refine tw (ob0 (show OB.var b2 (mkC d (ge d.frames n) [.lit (.map (some m3)), Xq z6.1.2.2, .lit us, .lit ut, .lit (.int .i64 ((0 : Nat) : Int)), .lit (.bool (false || !decide (0 < z6.1.2.2.length))), .lit (.int .i64 (if 0 < z6.1.2.2.length then (0 : Int) else (ZbP (ge d.frames n) ([] : List (List ByteArray)) 0).1)), .lit (.int .i64 (if 0 < z6.1.2.2.length then (0 : Int) else (ZbP (ge d.frames n) ([] : List (List ByteArray)) 0).2))]) = OB.var b2 (mkC d (ge d.frames n) [.lit (.map (some m3)), Xq (QX d n t), .lit us, .lit ut, .lit (.int .i64 (((Zap d n t).n : Nat) : Int)), .lit (.bool ((Zap d n t).kn)), .lit (.int .i64 ((Zap d n t).v.1)), .lit (.int .i64 ((Zap d n t).v.2))]) from by first | (rw [e5.1, e5.2.2.2.1, e5.2.2.2.2.1, e5.2.2.2.2.2.1, e5.2.2.2.2.2.2]; done) | (rw [e5.1, e5.2.2.2.1, e5.2.2.2.2.1, e5.2.2.2.2.2.1, e5.2.2.2.2.2.2]; rfl) | (rw [e5.2.1]) | (rw [e5.2.2.1]))) ?_
 refine tw (ob1 (congrArg (fun z' => OB.row us 22 1 ((z').map Zg)) (show ([] : List (List ByteArray)) = ((Zap d n t).sk) from by first | (rw [e5.1, e5.2.2.2.1, e5.2.2.2.2.1, e5.2.2.2.2.2.1, e5.2.2.2.2.2.2]; done) | (rw [e5.1, e5.2.2.2.1, e5.2.2.2.2.1, e5.2.2.2.2.2.1, e5.2.2.2.2.2.2]; rfl) | (rw [e5.2.1]) | (rw [e5.2.2.1])))) ?_
 refine tw (ob2 (congrArg (fun z' => OB.row ut 22 1 ((z').map Zg)) (show ([] : List (List ByteArray)) = ((Zap d n t).tg) from by first | (rw [e5.1, e5.2.2.2.1, e5.2.2.2.2.1, e5.2.2.2.2.2.1, e5.2.2.2.2.2.2]; done) | (rw [e5.1, e5.2.2.2.1, e5.2.2.2.2.1, e5.2.2.2.2.2.1, e5.2.2.2.2.2.2]; rfl) | (rw [e5.2.1]) | (rw [e5.2.2.1])))) ?_
 exact Zi (fun a w h => ZS  (m := 0) (b2, (.map (some m3)), us, ut) rfl h rfl rfl)
end Go.Proofs.YtgifeodnngodiaaGreatDoor
set_option maxHeartbeats 8000000
set_option maxRecDepth 100000
namespace Go.Proofs.YtgifeodnngodiaaGreatDoor
open Go.RowKit

theorem ZfD {J : World → Prop} (hJ : Stab J) (d : Db) (n : Nat) (t : List ByteArray) (hn : n < d.frames.length) (hfl : d.frames.length ≤ 400) (hfr : ∀ g ∈ d.frames, okF g ∧ okT g) (hM : ZeM (Qj (d.frames.take n)) d.frames.length) (hf : Zf9 (ge d.frames n)) (hw : ∀ g ∈ d.frames, g.wide.length * 32 ≤ 140737488351232) (hl : t.length ≤ 100000) (hs : Zb0 t ≤ 1000000000) : Fn Tryz.prog J 37 [.agg (dbC d), .int (n : Nat), .rd (Zb t)] (.agg (vdC (Zat d.frames d.vars (ge d.frames n) (Qj (d.frames.take n)) t))) := by
 refine Zx (N := 19) Tryz.func37 rfl rfl (lb rfl) fun S w0 hS hJ0 => ?_
 refine tw Yn ?_
 refine ln 2 fun hl1 => ?_
 obtain ⟨h0, h00⟩ := startV (t := t) hM hf
 refine tsq ?_
 refine sq (.ptr (dbC d)) rfl rfl (lb rfl) (fun _ _ h => YU rfl (h.get 0 rfl) (Zr hS _ h.keep h.x _ (Nat.le_refl _)) (jo hJ h.x)) ?_
 refine ZX Qf hJ rfl rfl rfl (lb rfl) fun b1 => ?_
 refine seK [0,1,3,4] [_,_,_,_] rfl ?_
 refine nx (ZhH (tsq ?_))
 refine snK 3 tb rfl ?_
 refine XH (O := []) (R := [OB.var b1 [.lit (.int .i64 0), .lit (.int .i64 0)]]) (ZkM hJ (d := d) (n := n) (t := t) (by first | omega | (simp; omega) | grind [Zc]) (by first | omega | (simp; omega) | grind [Zc]) (by exact fun h hh => (hf h hh).2) (by exact (hfr _ (Zc hn)).1.1) (by exact hl) (by exact hs)) ZrE rfl rfl rfl (lb rfl) hS hJ0 Zt (fun a w h => (Za (h.get 2 rfl) (Za (h.get 1 rfl) (Za (h.get 0 rfl) Zd)))) fun z2 => ?_
 refine snK 1 tb rfl ?_
 refine seK [0,5] [_,_] rfl ?_
 refine nx (Zn (ZhI (nx (Zn (Zh (lpo (ι := Ms × Value × Value) (fun (m9, _, _) => (InvM (QX d n t) m9) ∧ ((ZhQ d.frames d.vars (ge d.frames n) (QX d n t) ((QX d n t).length + 1) (Zap d n t)).v = (ZhQ d.frames d.vars (ge d.frames n) (QX d n t) ((QX d n t).length + 1 - m9.n) m9).v)) (fun (m9, vs, vt) => [OB.var z2.1 (mkC d (ge d.frames n) [.lit z2.2.1, Xq (QX d n t), .lit vs, .lit vt, .lit (.int .i64 (m9.n : Int)), .lit (.bool m9.kn), .lit (.int .i64 m9.v.1), .lit (.int .i64 m9.v.2)]), OB.row vs 22 1 (m9.sk.map Zg), OB.row vt 22 1 (m9.tg.map Zg), OB.var b1 [.lit (.int .i64 0), .lit (.int .i64 0)]]) (fun (_, _, _) => []) (fun (m9, _, _) => (QX d n t).length - m9.n) [0,1] [_,_] ((Zap d n t), z2.2.2.1, z2.2.2.2) ⟨h00, by rw [show (Zap d n t).n = 0 from Zp3]; rfl⟩ ?_))))))
 rintro ⟨m9, vs, vt⟩ ⟨f1_1, f1_2⟩
 refine Zh (tsq ?_)
 refine snK 1 tb rfl ?_
 refine XH (O := [OB.var z2.1 (mkC d (ge d.frames n) [.lit z2.2.1, Xq (QX d n t), .lit vs, .lit vt, .lit (.int .i64 (m9.n : Int)), .lit (.bool m9.kn), .lit (.int .i64 m9.v.1), .lit (.int .i64 m9.v.2)]), OB.row vs 22 1 (m9.sk.map Zg), OB.row vt 22 1 (m9.tg.map Zg)]) (R := [OB.var b1 [.lit (.int .i64 0), .lit (.int .i64 0)]]) (p_step hJ (b := z2.1) (d := d) (f := (ge d.frames n)) (nm := z2.2.1) (xs := (QX d n t)) (vs := vs) (vt := vt) (n := m9.n) (kn := m9.kn) (y1 := m9.v.1) (y2 := m9.v.2) (sk := m9.sk) (tg := m9.tg) (by exact inv_i h0 f1_1) (by exact f1_1.sk) (by exact (ZqZ h0 f1_1).1) (by exact (ZqZ h0 f1_1).2.1) (by exact (ZqZ h0 f1_1).2.2) (by exact fun g hg => (hfr g hg).1) (by exact hw _ (Zc hn))) ZrD rfl rfl rfl (lb rfl) hS hJ0 Zt (fun a w h => (Za (h.get 0 rfl) Zd)) fun z3 => ?_
 refine snK 1 tb rfl ?_
 refine seK [0,3,4] [_,_,_] rfl ?_
 refine nx (cj 0 (fun hb1 => ?_) fun hb1 => ?_)
 try simp at hb1
 have e5 := f1_2.trans (ZmO (fs := d.frames) (vars := d.vars) (f := ge d.frames n) f1_1 (by rw [← ZhK]; exact hb1))
 refine ZC (nx (tsq ?_))
 refine snK 1 tb rfl ?_
 refine sq (.at z2.1 0) rfl rfl (lb rfl) (fun _ _ h => Zl rfl (h.get 0 rfl) h.x) ?_
 refine sq (.at z2.1 17) rfl rfl (lb rfl) (fun _ _ h => Zp Zdf rfl (h.get 0 rfl) h.x) ?_
 refine sq (.agg [.lit (.int .i64 ((ZQ d.frames d.vars (ge d.frames n) (QX d n t) ⟨m9.sk, m9.tg, m9.n, m9.kn, (m9.v.1, m9.v.2), false⟩).v.1)), .lit (.int .i64 ((ZQ d.frames d.vars (ge d.frames n) (QX d n t) ⟨m9.sk, m9.tg, m9.n, m9.kn, (m9.v.1, m9.v.2), false⟩).v.2))]) rfl rfl (lb rfl) (fun _ _ h => Yk (cs := (mkC d (ge d.frames n) [.lit z2.2.1, Xq (QX d n t), .lit z3.1, .lit z3.2, .lit (.int .i64 (((ZQ d.frames d.vars (ge d.frames n) (QX d n t) ⟨m9.sk, m9.tg, m9.n, m9.kn, (m9.v.1, m9.v.2), false⟩).n : Nat) : Int)), .lit (.bool ((ZQ d.frames d.vars (ge d.frames n) (QX d n t) ⟨m9.sk, m9.tg, m9.n, m9.kn, (m9.v.1, m9.v.2), false⟩).kn)), .lit (.int .i64 ((ZQ d.frames d.vars (ge d.frames n) (QX d n t) ⟨m9.sk, m9.tg, m9.n, m9.kn, (m9.v.1, m9.v.2), false⟩).v.1)), .lit (.int .i64 ((ZQ d.frames d.vars (ge d.frames n) (QX d n t) ⟨m9.sk, m9.tg, m9.n, m9.kn, (m9.v.1, m9.v.2), false⟩).v.2))])) (ds := [.lit (.int .i64 ((ZQ d.frames d.vars (ge d.frames n) (QX d n t) ⟨m9.sk, m9.tg, m9.n, m9.kn, (m9.v.1, m9.v.2), false⟩).v.1)), .lit (.int .i64 ((ZQ d.frames d.vars (ge d.frames n) (QX d n t) ⟨m9.sk, m9.tg, m9.n, m9.kn, (m9.v.1, m9.v.2), false⟩).v.2))]) QK rfl (Ze h.x (mo 0 rfl)) (h.get 0 rfl) rfl rfl h.x) ?_
 refine kw pm3 ?_
 refine ZD (b := b1) (off := 0) (cs := [.lit (.int .i64 0), .lit (.int .i64 0)]) (es := [.lit (.int .i64 ((ZQ d.frames d.vars (ge d.frames n) (QX d n t) ⟨m9.sk, m9.tg, m9.n, m9.kn, (m9.v.1, m9.v.2), false⟩).v.1)), .lit (.int .i64 ((ZQ d.frames d.vars (ge d.frames n) (QX d n t) ⟨m9.sk, m9.tg, m9.n, m9.kn, (m9.v.1, m9.v.2), false⟩).v.2))]) (news := [.lit (.int .i64 ((ZQ d.frames d.vars (ge d.frames n) (QX d n t) ⟨m9.sk, m9.tg, m9.n, m9.kn, (m9.v.1, m9.v.2), false⟩).v.1)), .lit (.int .i64 ((ZQ d.frames d.vars (ge d.frames n) (QX d n t) ⟨m9.sk, m9.tg, m9.n, m9.kn, (m9.v.1, m9.v.2), false⟩).v.2))]) hJ hJ0 Xn rfl rfl rfl (lb rfl) rfl (fun a w h => ⟨(h.get 6 rfl), (h.get 0 rfl)⟩) ?_
 refine seK [6] [_] rfl ?_
 exact nx (Zi (fun a w h => Zam (cs := [.lit (.int .i64 ((ZQ d.frames d.vars (ge d.frames n) (QX d n t) ⟨m9.sk, m9.tg, m9.n, m9.kn, (m9.v.1, m9.v.2), false⟩).v.1)), .lit (.int .i64 ((ZQ d.frames d.vars (ge d.frames n) (QX d n t) ⟨m9.sk, m9.tg, m9.n, m9.kn, (m9.v.1, m9.v.2), false⟩).v.2))]) (m := 0) rfl QK h rfl rfl (show ([.lit (.int .i64 ((ZQ d.frames d.vars (ge d.frames n) (QX d n t) ⟨m9.sk, m9.tg, m9.n, m9.kn, (m9.v.1, m9.v.2), false⟩).v.1)), .lit (.int .i64 ((ZQ d.frames d.vars (ge d.frames n) (QX d n t) ⟨m9.sk, m9.tg, m9.n, m9.kn, (m9.v.1, m9.v.2), false⟩).v.2))] : List CD) = [.lit (.int .i64 ((Zat d.frames d.vars (ge d.frames n) (Qj (d.frames.take n)) t).1)), .lit (.int .i64 ((Zat d.frames d.vars (ge d.frames n) (Qj (d.frames.take n)) t).2))] from by rw [verV, e5]; rfl)))
 try simp at hb1
 have e6 := ZmN (fs := d.frames) (vars := d.vars) (f := ge d.frames n) f1_1 (by rw [← ZhK]; exact hb1)
 exact Zf (XR ((ZQ d.frames d.vars (ge d.frames n) (QX d n t) m9), z3.1, z3.2) [1,2] ⟨ZmK (fun g hg => (hfr g hg).2) h0 f1_1, f1_2.trans e6.1⟩ (hm := (show (QX d n t).length - (ZQ d.frames d.vars (ge d.frames n) (QX d n t) m9).n < (QX d n t).length - m9.n from by rw [e6.2.1]; omega)))
end Go.Proofs.YtgifeodnngodiaaGreatDoor
set_option maxHeartbeats 8000000
set_option maxRecDepth 100000
namespace Go.Proofs.YtgifeodnngodiaaGreatDoor
open Go.RowKit
theorem Q6 : ZdC Tryz.prog 30 [.int .i64 0, .int .i64 0] := ⟨fun i => (#[(0, 1), (1, 1)] : Array (Nat × Nat))[i]?, fun j hj => by rcases j with _ | _ | j <;> first | rfl | (simp at hj; omega), fun parts => by kernel_rfl⟩
theorem ZkJ {J : World → Prop} (hJ : Stab J) (d : Db) (n : Nat) (hn : n < d.frames.length) (hck : ZdP d = 0) (hw : ∀ f ∈ d.frames, f.wide.length * 32 ≤ 140737488351232) (hpl : ∀ g ∈ d.frames, g.proof.length ≤ 100000 ∧ Zb0 g.proof ≤ 1000000000) : Fn Tryz.prog J 35 [.agg (dbC d), .int (n : Nat)] (.agg (vdC (Zfl d n))) := by
 refine Zx (N := 22) Tryz.func35 rfl rfl (lb rfl) fun S w0 hS hJ0 => ?_
 refine tw Yn ?_
 refine tsq ?_
 refine sq (.ptr (dbC d)) rfl rfl (lb rfl) (fun _ _ h => YU rfl (h.get 0 rfl) (Zr hS _ h.keep h.x _ (Nat.le_refl _)) (jo hJ h.x)) ?_
 refine ZX Qf hJ rfl rfl rfl (lb rfl) fun b1 => ?_
 refine seK [0,1,3] [_,_,_] rfl ?_
 refine nx (Zn (ZO tb hJ [0,1,2,1001,1006] [_,_,_,.ptr (frC (ge d.frames n)),_,_,_] [3] [_,_,_,_,_] rfl ⟨iIx YI, trivial⟩ ?_))
 refine ln 3 fun hl1 => ?_
 refine cj 4 (fun hb1 => ?_) fun hb1 => ?_
 try simp at hb1
 refine tsq ?_
 refine sq (.agg (vdC (⟨0, 0⟩ : Int × Int))) rfl rfl (lb rfl) (fun _ _ h => Yu (ps := []) (us := [.int .i64 0, .int .i64 0]) Q6 rfl (by simp) Zfa rfl (YF (.lit _ True.intro) (YF (.lit _ True.intro) ZI)) h.x) ?_
 refine ZD (b := b1) (off := 0) (cs := [.lit (.int .i64 0), .lit (.int .i64 0)]) (es := [.lit (.int .i64 ((⟨0, 0⟩ : Int × Int).1)), .lit (.int .i64 ((⟨0, 0⟩ : Int × Int).2))]) (news := [.lit (.int .i64 ((⟨0, 0⟩ : Int × Int).1)), .lit (.int .i64 ((⟨0, 0⟩ : Int × Int).2))]) hJ hJ0 Xn rfl rfl rfl (lb rfl) rfl (fun a w h => ⟨(h.get 1 rfl), (h.get 0 rfl)⟩) ?_
 refine seK [1] [_] rfl ?_
 exact nx (Zi (fun a w h => Zam (cs := [.lit (.int .i64 ((⟨0, 0⟩ : Int × Int).1)), .lit (.int .i64 ((⟨0, 0⟩ : Int × Int).2))]) (m := 0) rfl QK h rfl rfl (show ([.lit (.int .i64 ((⟨0, 0⟩ : Int × Int).1)), .lit (.int .i64 ((⟨0, 0⟩ : Int × Int).2))] : List CD) = [.lit (.int .i64 ((Zfl d n).1)), .lit (.int .i64 ((Zfl d n).2))] from by simp [Zfl, hb1])))
 try simp at hb1
 refine Zf (nx (Zn (fun a w h => YE (γ := Unit) (fun ix' => ([.agg (dbC d), .int (n : Nat), .ptr [ZeN d.frames], .rd (ZeN d.frames), .int (n : Nat), .ptr (frC (ge d.frames n)), .ptr [Zb ((ge d.frames n).proof)], .rd (Zb ((ge d.frames n).proof)), .agg (vdC (Zat d.frames d.vars (ge d.frames n) (Qj (d.frames.take n)) ((ge d.frames n).proof))), .any] : List AV).getD ix' .any) (fun ix' => ([true, true, true, true, true, true, true, true, true, true] : List Bool).getD ix' true) [(4, fun (g : Unit) => .at b1 0)] (fun (j' : Nat) (g : Unit) => match j' with | 0 => [OB.var b1 [.lit (.int .i64 0), .lit (.int .i64 0)]] | _ => [OB.var b1 [.lit (.int .i64 ((Zat d.frames d.vars (ge d.frames n) (Qj (d.frames.take n)) ((ge d.frames n).proof)).1)), .lit (.int .i64 ((Zat d.frames d.vars (ge d.frames n) (Qj (d.frames.take n)) ((ge d.frames n).proof)).2))]]) (fun (k' : Nat) (g : Unit) => match k' with | 0 => undef | _ => undef) [9] 0 () (fun _ => rfl) h hJ Yd rfl rfl rfl rfl rfl rfl (fun j' g hj p hp => by rcases j' with _ | _ | _ | j' <;> first | exact hp | exact List.mem_cons_of_mem _ hp | exact List.mem_cons_of_mem _ (List.mem_cons_of_mem _ hp) | (exfalso; omega)) ⟨?o3_1_0, ⟨?o3_1_1, ⟨?o3_1_2, ⟨?o3_1_3, ⟨?o3_1_4, ⟨?o3_1_5, ⟨?o3_1_6, ⟨?o3_1_7, ⟨?o3_1_8, ⟨?o3_1_9, trivial⟩⟩⟩⟩⟩⟩⟩⟩⟩⟩ ⟨?e3_1_0, trivial⟩ ⟨.old 0 4 _ rfl rfl, trivial⟩ ?n3_1)))
 case o3_1_0 => exact fun _ O' _ => ⟨rfl, fun _ _ _ hx hl _ => Zab ZbY rfl (hl.env 1 2 _ rfl rfl) (Nat.le_refl _) hx⟩
 case o3_1_1 => exact fun _ O' _ => ⟨rfl, fun _ _ _ hx hl _ => Yb rfl (hl.env 2 1 _ rfl rfl) hx⟩
 case o3_1_2 => exact fun _ O' _ => ⟨rfl, fun _ _ _ hx hl _ => ZR Za3 rfl (hl.env 1 2 _ rfl rfl) hx⟩
 case o3_1_3 => exact fun _ O' _ => ⟨rfl, fun _ _ _ hx hl _ => Zy Zh7 rfl (hl.dep 2 15 _ rfl rfl rfl rfl) hx⟩
 case o3_1_4 => exact fun _ O' _ => ⟨rfl, fun _ _ _ hx hl _ => Yb rfl (hl.env 2 1 _ rfl rfl) hx⟩
 case o3_1_5 => exact fun _ O' _ => ⟨rfl, fun _ _ _ hx hl _ => Yg (i := (n : Int)) YI rfl (hl.dep 3 16 _ rfl rfl rfl rfl) (hl.dep 4 17 _ rfl rfl rfl rfl) (Int.natCast_nonneg _) (Yt (xs := d.frames) (k := n) (by first | omega | (simp; omega) | grind [Zc])) rfl hx⟩
 case o3_1_6 => exact fun _ O' _ => ⟨rfl, fun _ _ _ hx hl _ => ZR Zjw rfl (hl.dep 5 18 _ rfl rfl rfl rfl) hx⟩
 case o3_1_7 => exact fun _ O' _ => ⟨rfl, fun _ _ _ hx hl _ => Zy XT rfl (hl.dep 6 19 _ rfl rfl rfl rfl) hx⟩
 case o3_1_8 => exact fun _ O' _ => ⟨rfl, fun _ _ hk hx hl _ => ZdE (ZfD hJ (d := d) (n := n) (t := ((ge d.frames n).proof)) (by first | omega | (simp; omega) | grind [Zc]) (by exact ZlU hck) (by exact fun g hg => ⟨(Za5 hck g hg).1, (Za5 hck g hg).2.1⟩) (by exact Zea (Zc6 _ (by omega)) (by omega)) (by exact (Za5 hck _ (Zc (by omega))).2.2) (by exact hw) (by exact (hpl _ (Zc hn)).1) (by exact (hpl _ (Zc hn)).2)) Zl8 rfl (Zr hS _ hk hx) (hx.1) (Za (hl.dep 0 13 _ rfl rfl rfl rfl) (Za (hl.dep 1 14 _ rfl rfl rfl rfl) (Za (hl.dep 7 20 _ rfl rfl rfl rfl) Zd))) (jo hJ hx)⟩
 case o3_1_9 => exact Zk rfl
 case e3_1_0 => exact ⟨_, rfl, rfl, rfl, rfl, fun g _ w hk hx hl _ => (by obtain ⟨us2, hv2, hr3⟩ := Qn (cs := [.lit (.int .i64 ((Zat d.frames d.vars (ge d.frames n) (Qj (d.frames.take n)) ((ge d.frames n).proof)).1)), .lit (.int .i64 ((Zat d.frames d.vars (ge d.frames n) (Qj (d.frames.take n)) ((ge d.frames n).proof)).2))]) (hl.dep 8 21 _ rfl rfl rfl rfl); exact Zo (Y4 (off := 0) (cs := [.lit (.int .i64 0), .lit (.int .i64 0)]) (news := [.lit (.int .i64 ((Zat d.frames d.vars (ge d.frames n) (Qj (d.frames.take n)) ((ge d.frames n).proof)).1)), .lit (.int .i64 ((Zat d.frames d.vars (ge d.frames n) (Qj (d.frames.take n)) ((ge d.frames n).proof)).2))]) (es := [.lit (.int .i64 ((Zat d.frames d.vars (ge d.frames n) (Qj (d.frames.take n)) ((ge d.frames n).proof)).1)), .lit (.int .i64 ((Zat d.frames d.vars (ge d.frames n) (Qj (d.frames.take n)) ((ge d.frames n).proof)).2))]) (us := us2) hJ hJ0 Xn rfl hk hx (hl.env 0 4 _ rfl rfl) (by rw [hv2]; rfl) hr3 (lb rfl) rfl) fun v w' hp => ⟨g, rfl, fun _ _ => rfl, fun e => (by cases e), hp⟩)⟩
 clear a w h
 intro _
 change ∀ a w, St All (SO S [OB.var b1 [.lit (.int .i64 ((Zat d.frames d.vars (ge d.frames n) (Qj (d.frames.take n)) ((ge d.frames n).proof)).1)), .lit (.int .i64 ((Zat d.frames d.vars (ge d.frames n) (Qj (d.frames.take n)) ((ge d.frames n).proof)).2))]]) w0 22 [(4, .at b1 0)] (XO J S w0.heap.size [OB.var b1 [.lit (.int .i64 ((Zat d.frames d.vars (ge d.frames n) (Qj (d.frames.take n)) ((ge d.frames n).proof)).1)), .lit (.int .i64 ((Zat d.frames d.vars (ge d.frames n) (Qj (d.frames.take n)) ((ge d.frames n).proof)).2))]]) a w → _
 exact nx (Zi (fun a w h => Zam (cs := [.lit (.int .i64 ((Zat d.frames d.vars (ge d.frames n) (Qj (d.frames.take n)) ((ge d.frames n).proof)).1)), .lit (.int .i64 ((Zat d.frames d.vars (ge d.frames n) (Qj (d.frames.take n)) ((ge d.frames n).proof)).2))]) (m := 0) rfl QK h rfl rfl (show ([.lit (.int .i64 ((Zat d.frames d.vars (ge d.frames n) (Qj (d.frames.take n)) ((ge d.frames n).proof)).1)), .lit (.int .i64 ((Zat d.frames d.vars (ge d.frames n) (Qj (d.frames.take n)) ((ge d.frames n).proof)).2))] : List CD) = [.lit (.int .i64 ((Zfl d n).1)), .lit (.int .i64 ((Zfl d n).2))] from by simp [Zfl, hb1])))
theorem ZkT {J : World → Prop} (hJ : Stab J) (d : Db) (z : Int) (hw : ∀ f ∈ d.frames, f.wide.length * 32 ≤ 140737488351232) (hG : QL J) (hpl : ∀ g ∈ d.frames, g.proof.length ≤ 100000 ∧ Zb0 g.proof ≤ 1000000000) : Fn Tryz.prog J 9 [.agg (dbC d), .int z] (.tup [.agg (vdC ((ZdF d z).1)), .int ((ZdF d z).2)]) := by
 refine Zx (N := 17) Tryz.func9 rfl rfl (lb rfl) fun S w0 hS hJ0 => ?_
 refine tw Yn ?_
 refine tsq ?_
 refine sq (.ptr (dbC d)) rfl rfl (lb rfl) (fun _ _ h => YU rfl (h.get 0 rfl) (Zr hS _ h.keep h.x _ (Nat.le_refl _)) (jo hJ h.x)) ?_
 refine ZX Qf hJ rfl rfl rfl (lb rfl) fun b1 => ?_
 refine snK 1 tb rfl ?_
 refine seK [1,2,4] [_,_,_] rfl ?_
 refine nx (Zn (ZO tb hJ [0,1,2,1003] [_,_,.int (XF d z),_] [2] [_,_,_,_] rfl ⟨iFo hS hJ (ZfK hJ (d := d) (z := z) (by exact hw) (by exact hG)) Zl9, trivial⟩ ?_))
 refine qso tb hJ [0,1,2,3,1001] [_,_] [_,_,_,_,_] ?_
 refine cj 4 (fun hb1 => ?_) fun hb1 => ?_
 try simp at hb1
 refine tsq ?_
 refine sq (.agg (vdC (⟨0, 0⟩ : Int × Int))) rfl rfl (lb rfl) (fun _ _ h => Yu (ps := []) (us := [.int .i64 0, .int .i64 0]) Q6 rfl (by simp) Zfa rfl (YF (.lit _ True.intro) (YF (.lit _ True.intro) ZI)) h.x) ?_
 refine snK 1 tb rfl ?_
 refine ZD (b := b1) (off := 0) (cs := [.lit (.int .i64 0), .lit (.int .i64 0)]) (es := [.lit (.int .i64 ((⟨0, 0⟩ : Int × Int).1)), .lit (.int .i64 ((⟨0, 0⟩ : Int × Int).2))]) (news := [.lit (.int .i64 ((⟨0, 0⟩ : Int × Int).1)), .lit (.int .i64 ((⟨0, 0⟩ : Int × Int).2))]) hJ hJ0 Xn rfl rfl rfl (lb rfl) rfl (fun a w h => ⟨(h.get 2 rfl), (h.get 1 rfl)⟩) ?_
 refine snK 1 tb rfl ?_
 refine seK [0,3] [_,_] rfl ?_
 exact nx (Zi (fun a w h => Zcb (cs := [.lit (.int .i64 ((⟨0, 0⟩ : Int × Int).1)), .lit (.int .i64 ((⟨0, 0⟩ : Int × Int).2))]) (m := 1) (q := 0) rfl QK h rfl rfl (show ([.lit (.int .i64 ((⟨0, 0⟩ : Int × Int).1)), .lit (.int .i64 ((⟨0, 0⟩ : Int × Int).2))] : List CD) = [.lit (.int .i64 (((ZdF d z).1).1)), .lit (.int .i64 (((ZdF d z).1).2))] from by simp [ZdF, hb1]) rfl (eI (by simp [ZdF, hb1]))))
 try simp at hb1
 have ha : XF d z = 0 := by simpa using hb1
 obtain ⟨hck, hz0, hz1⟩ := ZbW ha
 refine tw (sa 2 rfl (show (.int z : AV) = .int (z.toNat : Nat) from congrArg AV.int (by omega))) ?_
 refine Zf (nx (tsq ?_))
 refine snK 2 tb rfl ?_
 refine sq (.agg (vdC (Zfl d z.toNat))) rfl rfl (lb rfl) (fun _ _ h => ZdE (ZkJ hJ (d := d) (n := z.toNat) (by first | omega | (simp; omega) | grind [Zc]) (by exact hck) (by exact hw) (by exact hpl)) ZrG rfl (Zr hS _ h.keep h.x) (h.x.1) (Za (h.get 1 rfl) (Za (h.get 0 rfl) Zd)) (jo hJ h.x)) ?_
 refine ZD (b := b1) (off := 0) (cs := [.lit (.int .i64 0), .lit (.int .i64 0)]) (es := [.lit (.int .i64 ((Zfl d z.toNat).1)), .lit (.int .i64 ((Zfl d z.toNat).2))]) (news := [.lit (.int .i64 ((Zfl d z.toNat).1)), .lit (.int .i64 ((Zfl d z.toNat).2))]) hJ hJ0 Xn rfl rfl rfl (lb rfl) rfl (fun a w h => ⟨(h.get 3 rfl), (h.get 0 rfl)⟩) ?_
 refine snK 1 tb rfl ?_
 refine seK [0,4] [_,_] rfl ?_
 exact nx (Zi (fun a w h => Zcb (cs := [.lit (.int .i64 ((Zfl d z.toNat).1)), .lit (.int .i64 ((Zfl d z.toNat).2))]) (m := 1) (q := 0) rfl QK h rfl rfl (show ([.lit (.int .i64 ((Zfl d z.toNat).1)), .lit (.int .i64 ((Zfl d z.toNat).2))] : List CD) = [.lit (.int .i64 (((ZdF d z).1).1)), .lit (.int .i64 (((ZdF d z).1).2))] from by simp [ZdF, hb1]) rfl (eI (by simp [ZdF, hb1]))))
theorem Zg0 {J : World → Prop} (hJ : Stab J) (d : Db) (z : Int) (t : List ByteArray) (hw : ∀ f ∈ d.frames, f.wide.length * 32 ≤ 140737488351232) (hG : QL J) (hl : t.length ≤ 100000) (hs : Zb0 t ≤ 1000000000) : Fn Tryz.prog J 13 [.agg (dbC d), .int z, .rd (Zb t)] (.tup [.agg (vdC ((Yo d z t).1)), .int ((Yo d z t).2)]) := by
 refine Zx (N := 20) Tryz.func13 rfl rfl (lb rfl) fun S w0 hS hJ0 => ?_
 refine tw Yn ?_
 refine ln 2 fun hl1 => ?_
 refine tsq ?_
 refine sq (.ptr (dbC d)) rfl rfl (lb rfl) (fun _ _ h => YU rfl (h.get 0 rfl) (Zr hS _ h.keep h.x _ (Nat.le_refl _)) (jo hJ h.x)) ?_
 refine ZX Qf hJ rfl rfl rfl (lb rfl) fun b1 => ?_
 refine snK 1 tb rfl ?_
 refine seK [1,2,4,5] [_,_,_,_] rfl ?_
 refine nx (Zn (ZO tb hJ [0,1,2,3,1003] [_,_,.int (XF d z),_] [2] [_,_,_,_,_] rfl ⟨iFo hS hJ (ZfK hJ (d := d) (z := z) (by exact hw) (by exact hG)) Zl9, trivial⟩ ?_))
 refine qso tb hJ [0,1,2,3,4,1001] [_,_] [_,_,_,_,_,_] ?_
 refine cj 5 (fun hb1 => ?_) fun hb1 => ?_
 try simp at hb1
 refine tsq ?_
 refine sq (.agg (vdC (⟨0, 0⟩ : Int × Int))) rfl rfl (lb rfl) (fun _ _ h => Yu (ps := []) (us := [.int .i64 0, .int .i64 0]) Q6 rfl (by simp) Zfa rfl (YF (.lit _ True.intro) (YF (.lit _ True.intro) ZI)) h.x) ?_
 refine snK 1 tb rfl ?_
 refine ZD (b := b1) (off := 0) (cs := [.lit (.int .i64 0), .lit (.int .i64 0)]) (es := [.lit (.int .i64 ((⟨0, 0⟩ : Int × Int).1)), .lit (.int .i64 ((⟨0, 0⟩ : Int × Int).2))]) (news := [.lit (.int .i64 ((⟨0, 0⟩ : Int × Int).1)), .lit (.int .i64 ((⟨0, 0⟩ : Int × Int).2))]) hJ hJ0 Xn rfl rfl rfl (lb rfl) rfl (fun a w h => ⟨(h.get 2 rfl), (h.get 1 rfl)⟩) ?_
 refine snK 1 tb rfl ?_
 refine seK [0,3] [_,_] rfl ?_
 exact nx (Zi (fun a w h => Zcb (cs := [.lit (.int .i64 ((⟨0, 0⟩ : Int × Int).1)), .lit (.int .i64 ((⟨0, 0⟩ : Int × Int).2))]) (m := 1) (q := 0) rfl QK h rfl rfl (show ([.lit (.int .i64 ((⟨0, 0⟩ : Int × Int).1)), .lit (.int .i64 ((⟨0, 0⟩ : Int × Int).2))] : List CD) = [.lit (.int .i64 (((Yo d z t).1).1)), .lit (.int .i64 (((Yo d z t).1).2))] from by simp [Yo, hb1]) rfl (eI (by simp [Yo, hb1]))))
 try simp at hb1
 have ha : XF d z = 0 := by simpa using hb1
 obtain ⟨hck, hz0, hz1⟩ := ZbW ha
 refine tw (sa 2 rfl (show (.int z : AV) = .int (z.toNat : Nat) from congrArg AV.int (by omega))) ?_
 refine Zf (nx (tsq ?_))
 refine snK 3 tb rfl ?_
 refine sq (.agg (vdC (Zat d.frames d.vars (ge d.frames z.toNat) (Qj (d.frames.take z.toNat)) t))) rfl rfl (lb rfl) (fun _ _ h => ZdE (ZfD hJ (d := d) (n := z.toNat) (t := t) (by first | omega | (simp; omega) | grind [Zc]) (by exact ZlU hck) (by exact fun g hg => ⟨(Za5 hck g hg).1, (Za5 hck g hg).2.1⟩) (by exact Zea (Zc6 _ (by omega)) (by omega)) (by exact (Za5 hck _ (Zc (by omega))).2.2) (by exact hw) (by exact hl) (by exact hs)) Zl8 rfl (Zr hS _ h.keep h.x) (h.x.1) (Za (h.get 2 rfl) (Za (h.get 1 rfl) (Za (h.get 0 rfl) Zd))) (jo hJ h.x)) ?_
 refine ZD (b := b1) (off := 0) (cs := [.lit (.int .i64 0), .lit (.int .i64 0)]) (es := [.lit (.int .i64 ((Zat d.frames d.vars (ge d.frames z.toNat) (Qj (d.frames.take z.toNat)) t).1)), .lit (.int .i64 ((Zat d.frames d.vars (ge d.frames z.toNat) (Qj (d.frames.take z.toNat)) t).2))]) (news := [.lit (.int .i64 ((Zat d.frames d.vars (ge d.frames z.toNat) (Qj (d.frames.take z.toNat)) t).1)), .lit (.int .i64 ((Zat d.frames d.vars (ge d.frames z.toNat) (Qj (d.frames.take z.toNat)) t).2))]) hJ hJ0 Xn rfl rfl rfl (lb rfl) rfl (fun a w h => ⟨(h.get 4 rfl), (h.get 0 rfl)⟩) ?_
 refine snK 1 tb rfl ?_
 refine seK [0,5] [_,_] rfl ?_
 exact nx (Zi (fun a w h => Zcb (cs := [.lit (.int .i64 ((Zat d.frames d.vars (ge d.frames z.toNat) (Qj (d.frames.take z.toNat)) t).1)), .lit (.int .i64 ((Zat d.frames d.vars (ge d.frames z.toNat) (Qj (d.frames.take z.toNat)) t).2))]) (m := 1) (q := 0) rfl QK h rfl rfl (show ([.lit (.int .i64 ((Zat d.frames d.vars (ge d.frames z.toNat) (Qj (d.frames.take z.toNat)) t).1)), .lit (.int .i64 ((Zat d.frames d.vars (ge d.frames z.toNat) (Qj (d.frames.take z.toNat)) t).2))] : List CD) = [.lit (.int .i64 (((Yo d z t).1).1)), .lit (.int .i64 (((Yo d z t).1).2))] from by simp [Yo, hb1]) rfl (eI (by simp [Yo, hb1]))))
end Go.Proofs.YtgifeodnngodiaaGreatDoor
namespace Go.Proofs.YtgifeodnngodiaaGreatDoor
open Go.RowKit

theorem Zky : ∀ (r : List Value) (s off : Nat) (pre old post : List Value), pre.length = off + s → old.length = r.length →
    (r.zipIdx s).foldl (fun (cs : Array Value) (x : Value × Nat) => cs.setIfInBounds (off + x.2) x.1) (pre ++ old ++ post).toArray = (pre ++ r ++ post).toArray
  | [], s, off, pre, old, post, _, h2 => by
    have : old = [] := List.length_eq_zero_iff.1 (by simpa using h2)
    subst this
    rfl
  | v :: r, s, off, pre, old, post, h1, h2 => by
    match old, h2 with
    | u :: old, h2 =>
      rw [List.zipIdx_cons, List.foldl_cons]
      have e : ((pre ++ u :: old ++ post).toArray.setIfInBounds (off + s) v) = ((pre ++ [v]) ++ old ++ post).toArray := by
        rw [List.setIfInBounds_toArray]
        congr 1
        rw [List.append_assoc, List.set_append_right _ _ (by omega), h1.symm, Nat.sub_self]
        simp
      rw [e, Zky r (s + 1) off (pre ++ [v]) old post (by simp; omega) (by simpa using h2)]
      simp
theorem Zgg {k : Nat} : ∀ (rows : List (List Value)) (i : Nat) (pre z : List Value), pre.length = i * k → z.length = rows.length * k → (∀ r ∈ rows, r.length = k) →
    Instr.fill (fun i => some (i * k, k)) (pre ++ z).toArray ((rows.zipIdx i).map fun p => (p.2, Value.agg p.1.toArray)) = some (pre ++ rows.flatten).toArray
  | [], i, pre, z, _, h2, _ => by
    have : z = [] := List.length_eq_zero_iff.1 (by simpa using h2)
    subst this
    simp [Instr.fill]
  | r :: rows, i, pre, z, h1, h2, h3 => by
    have hr := h3 r (by simp)
    have hz : z.length = k + rows.length * k := by rw [h2, List.length_cons, Nat.succ_mul, Nat.add_comm]
    have hcell : (Value.agg r.toArray).cells = r.toArray := rfl
    simp only [List.zipIdx_cons, List.map_cons, Instr.fill, hcell]
    rw [if_neg (by simp [hr]; omega)]
    have e : (Array.foldl (fun cs (x : Value × Nat) => cs.setIfInBounds (i * k + x.snd) x.fst) (pre ++ z).toArray r.toArray.zipIdx) = ((pre ++ r) ++ z.drop k).toArray := by
      have := Zky r 0 (i * k) pre (z.take k) (z.drop k) h1 (by rw [List.length_take]; omega)
      rw [List.append_assoc pre, List.take_append_drop] at this
      rw [← this]
      simp
    rw [e, Zgg rows (i + 1) (pre ++ r) (z.drop k) (by rw [List.length_append, h1, hr, Nat.succ_mul]) (by rw [List.length_drop]; omega) fun q hq => h3 q (by simp [hq])]
    simp
section
variable {n : Rn} {N : Nat} {P : Program} {J X : World → Prop} {S S' S'' : Nat → Prop} {O : List OB} {w0 : World} {env : List (Nat × AV)} {Q : Exit → Act → World → Prop}
variable {o : Oper} {a : Act} {w : World} {t e u : TypeId} {x y : Operand}
theorem Zkm {k : Nat} : ∀ {cs : List (List CD)} {vs : List Value}, RelL S w (cs.map AV.agg) vs → (∀ r ∈ cs, r.length = k) →
    ∃ us : List (List Value), vs = us.map (fun r => Value.agg r.toArray) ∧ us.length = cs.length ∧ (∀ r ∈ us, r.length = k) ∧ RdL S w cs.flatten us.flatten
  | [], vs, h, _ => by
    simp only [List.map_nil, RelL] at h
    subst h
    exact ⟨[], rfl, rfl, by simp, trivial⟩
  | c :: cs, vs, h, hk => by
    simp only [List.map_cons, RelL] at h
    obtain ⟨v, vs', rfl, h1, h2⟩ := h
    simp only [Rel] at h1
    obtain ⟨u, rfl, hr⟩ := h1
    obtain ⟨us, rfl, hl, hk2, hr2⟩ := Zkm (cs := cs) h2 fun r hr => hk r (by simp [hr])
    refine ⟨u :: us, rfl, by simp [hl], fun r hr3 => ?_, ?_⟩
    · rcases List.mem_cons.1 hr3 with rfl | hr3
      · rw [hr.length]; exact hk c (by simp)
      · exact hk2 r hr3
    · rw [List.flatten_cons, List.flatten_cons]
      exact hr.append hr2
theorem ZhW {k m : Nat} {cs : List (List CD)} {vs : List Value} {z : Array Value} {parts : Array (Nat × Operand)} (ht : Ye P t e k) (hz : ∀ w, (zeroValue e).run P w = .ok (.agg z) w) (hop : o.op = .buildSlice t m parts) (hp : (parts.map fun (i, x) => (i, a.eval x)).toList = vs.zipIdx.map fun p => (p.2, p.1)) (h : RelL S w (cs.map AV.agg) vs) (hk : ∀ r ∈ cs, r.length = k) (hl : cs.length = m) (h1 : 1 ≤ k) (hm : 1 ≤ m * k) (hm2 : m * k ≤ 16777216)
    (hS : S w.heap.size) (hx : ∀ w', Keeps All w w' → X w') : Z3 n P o a w (Ym S X (.rd (.sl cs)) w) := by
  obtain ⟨us, rfl, hul, huk, hall⟩ := Zkm h hk
  have hfl : us.flatten.length = m * k := by
    have : ∀ us : List (List Value), (∀ r ∈ us, r.length = k) → us.flatten.length = us.length * k := by
      intro us
      induction us with
      | nil => simp
      | cons r us ih => intro h; rw [List.flatten_cons, List.length_append, h r (by simp), ih fun q hq => h q (by simp [hq]), List.length_cons, Nat.succ_mul, Nat.add_comm]
    rw [this us huk, hul, hl]
  have hf := Zgg us 0 [] ((List.range (m * k)).map (z[· % z.size]!)) (by simp) (by simp [hul, hl]) huk
  have hf2 : Instr.fill (fun i => some (i * k, k)) ((Array.range (m * k)).map (z[· % z.size]!)) (parts.map fun (i, x) => (i, a.eval x)).toList = some us.flatten.toArray := by
    rw [hp, List.zipIdx_map, List.map_map]
    have e : (Array.range (m * k)).map (z[· % z.size]!) = ([] ++ (List.range (m * k)).map (z[· % z.size]!)).toArray := by
      apply Array.ext'
      simp [Array.toList_range]
    rw [e]
    exact hf
  have hk' : Keeps All w (w.alloc (.cells us.flatten.toArray e)) := (Keeps.refl _ _).alloc _
  refine ZP (v := .slice (some ⟨w.heap.size, 0, none⟩) m m) (w' := w.alloc (.cells us.flatten.toArray e)) ?_ ⟨?_, hk', hx _ hk'⟩
  · have hcz : (Value.agg z).cells = z := rfl
    rw [execOp, hop]
    simp only [Sem.run_bind, Instr.buildSlice, run_underlying ht.1, Result.andThen_ok, ht.2 w]
    simp [newRow, newObj]
    rw [hz w]
    simp only [Result.andThen_ok, hcz]
    have hf3 := hf2
    simp only [Array.toList_map] at hf3
    simp only [hf3]
    rw [if_neg (by omega), if_neg (by omega)]
    rfl
  · simp only [Rel]
    rw [show (m : Nat) = cs.length from hl.symm]
    refine Rd.of_cells (n := k) (us := us.flatten) (Nat.le_refl _) (by rw [hl]; exact Nat.le_trans (Nat.le_mul_of_pos_right m h1) (Nat.le_trans hm2 (by decide))) (by simp) hS hk (hall.keep hk' fun _ _ _ => trivial) fun j u hj => QI j u hj
def Zmn (P : Program) (t : TypeId) : Prop := ∀ (ad : Option Addr) (k c : Nat) (p q : Int), P.built t [(0, .slice ad k c), (1, .agg #[.int .i64 p, .int .i64 q])] = some #[.slice ad k c, .int .i64 p, .int .i64 q]
theorem ZbX {c d : Int} {v : Value} (h : Rel S w (.agg [.lit (.int .i64 c), .lit (.int .i64 d)]) v) : v = .agg #[.int .i64 c, .int .i64 d] := by
  simp only [Rel] at h
  obtain ⟨us, rfl, hr⟩ := h
  match us, hr with
  | [p, q], hr =>
    obtain rfl := hr.1.of_lit
    obtain rfl := hr.2.1.of_lit
    rfl
theorem ZaD {xs : List ByteArray} {p q : Int} (ht : Zmn P t) (hop : o.op = .build t #[(0, x), (1, y)]) (h1 : Rel S w (.rd (Zb xs)) (a.eval x)) (h2 : Rel S w (.agg [.lit (.int .i64 p), .lit (.int .i64 q)]) (a.eval y)) (hx : X w) :
    Z3 n P o a w (Ym S X (.agg [Zb xs, .lit (.int .i64 p), .lit (.int .i64 q)]) w) := by
  have v2 := ZbX h2
  simp only [Rel] at h1
  have g1 := h1
  obtain ⟨ad, cap, e1, _, _⟩ := g1.form
  have hrun := run_build (P := P) w t #[(0, a.eval x), (1, a.eval y)] #[a.eval x, .int .i64 p, .int .i64 q] (by rw [v2, e1]; exact ht ad _ cap p q)
  refine Zv (v := .agg #[a.eval x, .int .i64 p, .int .i64 q]) ?_ ?_ hx
  · rw [execOp, hop]
    simp only [List.map_toArray, List.map_cons, List.map_nil, Sem.run_bind, hrun]
    rfl
  · simp only [Rel]
    exact ⟨[a.eval x, .int .i64 p, .int .i64 q], rfl, h1, .lit _ True.intro, .lit _ True.intro, trivial⟩
def EqVd (P : Program) (t : TypeId) : Prop := ∀ (a b c d : Int) (w : World) (x y : Operand), (eqGuard .eql t x y (.agg #[.int .i64 a, .int .i64 b]) (.agg #[.int .i64 c, .int .i64 d])).run P w = .ok () w ∧ (eqGuard .neq t x y (.agg #[.int .i64 a, .int .i64 b]) (.agg #[.int .i64 c, .int .i64 d])).run P w = .ok () w ∧
  (Op.equal t (.agg #[.int .i64 a, .int .i64 b]) (.agg #[.int .i64 c, .int .i64 d])).run P w = .ok (decide (a = c) && decide (b = d)) w
theorem Zpd {c d c' d' : Int} (ht : EqVd P t) (hop : o.op = .binOp .eql t x y u) (h1 : Rel S w (.agg [.lit (.int .i64 c), .lit (.int .i64 d)]) (a.eval x)) (h2 : Rel S w (.agg [.lit (.int .i64 c'), .lit (.int .i64 d')]) (a.eval y)) (hx : X w) :
    Z3 n P o a w (Ym S X (.bool (decide (c = c') && decide (d = d'))) w) := by
  obtain ⟨g1, _, g3⟩ := ht c d c' d' w x y
  refine Zv (v := .bool (decide (c = c') && decide (d = d'))) ?_ (Rel.of_lit _) hx
  rw [execOp, hop]
  simp only [ZbX h1, ZbX h2, Sem.run_bind, g1, Result.andThen_ok, binOp, g3]
  rfl
theorem Zpb {c d c' d' : Int} (ht : EqVd P t) (hop : o.op = .binOp .neq t x y u) (h1 : Rel S w (.agg [.lit (.int .i64 c), .lit (.int .i64 d)]) (a.eval x)) (h2 : Rel S w (.agg [.lit (.int .i64 c'), .lit (.int .i64 d')]) (a.eval y)) (hx : X w) :
    Z3 n P o a w (Ym S X (.bool (!(decide (c = c') && decide (d = d')))) w) := by
  obtain ⟨_, g1, g3⟩ := ht c d c' d' w x y
  refine Zv (v := .bool (!(decide (c = c') && decide (d = d')))) ?_ (Rel.of_lit _) hx
  rw [execOp, hop]
  simp only [ZbX h1, ZbX h2, Sem.run_bind, g1, Result.andThen_ok, binOp, g3]
  rfl
end
end Go.Proofs.YtgifeodnngodiaaGreatDoor
namespace Go.Proofs.YtgifeodnngodiaaGreatDoor

structure Exm where
  proof : List ByteArray
  v : Int × Int
instance instInhExm : Inhabited Exm := ⟨⟨[], (0, 0)⟩⟩
def exC (e : Exm) : List CD := [Zb e.proof, .lit (.int .i64 e.v.1), .lit (.int .i64 e.v.2)]
def exsC (l : List Exm) : CD := .sl (l.map exC)

def ZbZ : ByteArray := ⟨#[119, 112, 104]⟩
def Zel : ByteArray := ⟨#[119, 112, 115]⟩
def Zaq : ByteArray := ⟨#[97, 120, 45, 49]⟩
def ZrT : ByteArray := ⟨#[119, 102, 102]⟩
def phT : ByteArray := ⟨#[112, 104]⟩
def psT : ByteArray := ⟨#[112, 115]⟩
def opT : ByteArray := ⟨#[40]⟩
def clT : ByteArray := ⟨#[41]⟩
def arT : ByteArray := ⟨#[45, 62]⟩
def tuT : ByteArray := ⟨#[124, 45]⟩
def exsD : List Exm := [⟨[ZbZ, Zel, Zaq], (0, 0)⟩, ⟨[ZbZ, Zaq], (23, 1)⟩, ⟨[opT, Zaq, clT, ⟨#[65, 66, 67]⟩], (0, 0)⟩, ⟨[opT, clT, ⟨#[65, 66, 68]⟩], (21, 0)⟩, ⟨[Zel, ZbZ, Zaq], (28, 3)⟩]
def Zb4 : Hy := ⟨ZbZ, true, [ZrT, phT]⟩
def Zb3 : Hy := ⟨Zel, true, [ZrT, psT]⟩
def smTx : List ByteArray := [tuT, opT, phT, arT, opT, psT, arT, phT, clT, clT]
def ZrW : Fr := ⟨Zaq, false, [Zb4, Zb3], [], smTx, [], [], []⟩
def ZrV (p : List ByteArray) : Fr := ⟨⟨#[116, 104]⟩, true, [Zb4, Zb3], [], smTx, [], [], p⟩
def Z1 (p : List ByteArray) : Db := ⟨[ZrT, tuT, opT, clT, arT], [phT, psT], [ZrW, ZrV p]⟩
theorem sam0 : ZdF (Z1 (ge exsD 0).proof) 1 = ((ge exsD 0).v, 0) := by kernel_rfl
theorem sam1 : ZdF (Z1 (ge exsD 1).proof) 1 = ((ge exsD 1).v, 0) := by kernel_rfl
theorem sam2 : ZdF (Z1 (ge exsD 2).proof) 1 = ((ge exsD 2).v, 0) := by kernel_rfl
theorem sam3 : ZdF (Z1 (ge exsD 3).proof) 1 = ((ge exsD 3).v, 0) := by kernel_rfl
theorem sam4 : ZdF (Z1 (ge exsD 4).proof) 1 = ((ge exsD 4).v, 0) := by kernel_rfl
theorem Zqb {k : Nat} (h : k < exsD.length) : ZdF (Z1 (ge exsD k).proof) 1 = ((ge exsD k).v, 0) := by
  have : k = 0 ∨ k = 1 ∨ k = 2 ∨ k = 3 ∨ k = 4 := by
    have : exsD.length = 5 := rfl
    omega
  rcases this with rfl | rfl | rfl | rfl | rfl
  · exact sam0
  · exact sam1
  · exact sam2
  · exact sam3
  · exact sam4

def Zhb (h : Hy) : Bool := decide ((60 : Int) < ((h.text.length : Nat) : Int))
def ZmL (s : ByteArray) : Bool := decide ((400 : Int) < ((s.size : Nat) : Int))
def ZnP (m : Int) (f : Fr) : Bool := decide (m < ((f.proof.length : Nat) : Int)) || decide ((60 : Int) < ((f.text.length : Nat) : Int)) || decide ((60 : Int) < ((f.hyps.length : Nat) : Int)) || decide ((60 : Int) < ((f.dummies.length : Nat) : Int)) || decide ((200 : Int) < ((f.apart.length : Nat) : Int)) || decide ((300 : Int) < ((f.wide.length : Nat) : Int)) || f.hyps.any Zhb || f.dummies.any Zhb || f.proof.any ZmL
def Zfo (d : Db) (n m : Int) : Bool := decide (((d.frames.length : Nat) : Int) ≤ n) && decide (((d.consts.length : Nat) : Int) ≤ (200 : Int)) && decide (((d.vars.length : Nat) : Int) ≤ (60 : Int)) && !(d.frames.any (ZnP m))
theorem sum_le {l : List ByteArray} {m : Nat} (h : ∀ s ∈ l, s.size ≤ m) : Zb0 l ≤ l.length * m := by
  induction l with
  | nil => simp [Zb0]
  | cons s l ih =>
    have h1 := h s (by simp)
    have h2 := ih fun x hx => h x (by simp [hx])
    simp only [Zb0, List.map_cons, List.sum_cons, List.length_cons, Nat.succ_mul] at h2 ⊢
    omega
theorem sam_hw (p : List ByteArray) : ∀ f ∈ (Z1 p).frames, f.wide.length * 32 ≤ 140737488351232 := fun f hf => by
  have : f = ZrW ∨ f = ZrV p := by simpa [Z1] using hf
  rcases this with rfl | rfl <;> exact Nat.zero_le _
theorem sam_pl {k : Nat} (hk : k < exsD.length) : ∀ g ∈ (Z1 (ge exsD k).proof).frames, g.proof.length ≤ 100000 ∧ Zb0 g.proof ≤ 1000000000 := fun g hg => by
  have : g = ZrW ∨ g = ZrV (ge exsD k).proof := by simpa [Z1] using hg
  have hk2 : k = 0 ∨ k = 1 ∨ k = 2 ∨ k = 3 ∨ k = 4 := by
    have : exsD.length = 5 := rfl
    omega
  rcases this with rfl | rfl
  · exact ⟨Nat.zero_le _, Nat.zero_le _⟩
  · rcases hk2 with rfl | rfl | rfl | rfl | rfl <;> exact ⟨of_decide_eq_true (by kernel_rfl), of_decide_eq_true (by kernel_rfl)⟩
end Go.Proofs.YtgifeodnngodiaaGreatDoor
set_option maxHeartbeats 8000000
set_option maxRecDepth 100000
namespace Go.Proofs.YtgifeodnngodiaaGreatDoor
open Go.RowKit
theorem Zgp : ZdC Tryz.prog 37 [.string ⟨#[]⟩, .bool false, .slice none 0 0, .slice none 0 0, .slice none 0 0, .slice none 0 0, .slice none 0 0, .slice none 0 0] := ⟨fun i => (#[(0, 1), (1, 1), (2, 1), (3, 1), (4, 1), (5, 1), (6, 1), (7, 1)] : Array (Nat × Nat))[i]?, fun j hj => by rcases j with _ | _ | _ | _ | _ | _ | _ | _ | j <;> first | rfl | (simp at hj; omega), fun parts => by kernel_rfl⟩
theorem Q7 : Zmn Tryz.prog 65 := fun ad k c p q => by kernel_rfl
theorem ZpX : Tryz.prog.underlying 3 = some (.int .i64) := by kernel_rfl
theorem ZpY : Tryz.prog.underlying 28 = some (.int .i64) := by kernel_rfl
theorem ZjT : (Tryz.prog.fieldsOf 30).toList = [{ name := "Code", type := 28, offset := 0, embedded := false, tag := "", pkgPath := "", byteOffset := 0 }, { name := "Step", type := 3, offset := 1, embedded := false, tag := "", pkgPath := "", byteOffset := 8 }] := by kernel_rfl
theorem ZjS : Tryz.prog.underlying 30 = some (.struct (Tryz.prog.fieldsOf 30)) := by kernel_rfl
theorem Zfr (c : Array Value) (i : Nat) (v : Value) (h : c[i]? = some v) (w : World) : (part 3 c i).run Tryz.prog w = .ok v w := by
  simp [part, Tryz.isAgg3, h]
theorem Zfs (c : Array Value) (i : Nat) (v : Value) (h : c[i]? = some v) (w : World) : (part 28 c i).run Tryz.prog w = .ok v w := by
  simp [part, Tryz.isAgg28, h]
theorem eqVd : EqVd Tryz.prog 30 := by
  intro a b c d w x y
  refine ⟨by simp [eqGuard], by simp [eqGuard], ?_⟩
  unfold Op.equal Op.maxDepth
  rw [run_equalIn_struct w 9999 30 _ _ ZjS (by kernel_rfl), ZjT]
  have e1 := fun (c : Array Value) (v : Value) (i : Nat) (h : c[i]? = some v) => Zfs c i v h
  have e2 := fun (c : Array Value) (v : Value) (i : Nat) (h : c[i]? = some v) => Zfr c i v h
  have q1 : (Op.equalIn 9999 28 (.int .i64 a) (.int .i64 c)).run Tryz.prog w = .ok (decide (a = c)) w := run_equalIn_int w 9998 28 .i64 .i64 a c ZpY
  have q2 : (Op.equalIn 9999 3 (.int .i64 b) (.int .i64 d)).run Tryz.prog w = .ok (decide (b = d)) w := run_equalIn_int w 9998 3 .i64 .i64 b d ZpX
  simp only [Op.eqFields]
  rw [if_pos (by decide), if_pos (by decide)]
  simp only [Sem.run_bind]
  rw [e1 _ (.int .i64 a) 0 rfl w, Result.andThen_ok, e1 _ (.int .i64 c) 0 rfl w, Result.andThen_ok, q1, Result.andThen_ok]
  by_cases h1 : a = c
  · simp only [h1, decide_true, Bool.not_true, Bool.false_eq_true, if_false, Sem.run_bind]
    rw [e2 _ (.int .i64 b) 1 rfl w, Result.andThen_ok, e2 _ (.int .i64 d) 1 rfl w, Result.andThen_ok, q2, Result.andThen_ok]
    by_cases h2 : b = d
    · simp [h2, Sem.run_pure]
    · simp [h2, Sem.run_pure]
  · simp [h1, Sem.run_pure]

theorem Zfe {J : World → Prop} (hJ : Stab J) (h0 : Hy)  : Fn Tryz.prog J 31 [.agg (hyC h0)] (.bool (Zhb h0)) := by
 refine Zx (N := 7) Tryz.func31 rfl rfl (lb rfl) fun S w0 hS hJ0 => ?_
 clear hJ0
 refine hqs tb hJ [1000] [.ptr (hyC h0),_] [0] [_] rfl ⟨fun _ _ hk hx hl _ => YU rfl (hl.env 0 0 _ rfl rfl) (hS _ hk.size) (js hJ hx), trivial⟩ ?_
 refine hqs tb hJ [1001,1004] [_,_,.int (h0.text.length : Nat),_,_] [2] [_,_] rfl ⟨Yz Zw, trivial⟩ ?_
 refine ln 0 fun hl1 => ?_
 exact Zi (rtn (m := 1) rfl rfl (eB (rfl)))
theorem ZjR {J : World → Prop} (hJ : Stab J) (s : ByteArray)  : Fn Tryz.prog J 32 [.str s] (.bool (ZmL s)) := by
 refine Zx (N := 6) Tryz.func32 rfl rfl (lb rfl) fun S w0 hS hJ0 => ?_
 clear hJ0
 refine qs tb hJ [0] [_] [_] ?_
 refine hqs tb hJ [1003] [_,.int (s.size : Nat),_,_] [1] [_] rfl ⟨ZrY YB, trivial⟩ ?_
 exact Zi (rtn (m := 0) rfl rfl (eB (rfl)))
theorem Zmx {J : World → Prop} (hJ : Stab J) (f : Fr) (m : Int)  : Fn Tryz.prog J 30 [.agg (frC f), .ptr [.lit (.int .i64 m)]] (.bool (ZnP m f)) := by
 refine Zx (N := 57) Tryz.func30 rfl rfl (lb rfl) fun S w0 hS hJ0 => ?_
 clear hJ0
 refine hqs tb hJ [1,1000] [.ptr (frC f),_] [0] [_,_] rfl ⟨fun _ _ hk hx hl _ => YU rfl (hl.env 0 0 _ rfl rfl) (hS _ hk.size) (js hJ hx), trivial⟩ ?_
 refine qs tb hJ [0,1,1000] [_] [_,_,_] ?_
 refine hqs tb hJ [1001,1052] [_,_,.int (f.proof.length : Nat),_,_,_,_,_,.int (f.text.length : Nat),_,_,_,_,_,.int (f.hyps.length : Nat),_,_,_,_,_,.int (f.dummies.length : Nat),_,_,_,_,_,.int (f.apart.length : Nat),_,_,_,_,_,.int (f.wide.length : Nat),_,_,_,_,_,_,.bool (f.hyps.any Zhb),_,_,_,_,_,.bool (f.dummies.any Zhb),_,_,_,_,.bool (f.proof.any ZmL),_,_] [2,8,14,20,26,32,39,45,50] [_,_] rfl ⟨Yz Zw, Yz Zw, Yz ZF, Yz ZF, Yz Z6, Yz Z6, fun _ _ hk hx hl hc => YS (XM hJ (xs := f.hyps) (f := 31) (caps := []) (Os := []) (p := Zhb) (fun q' => (Zfe hJ q').rr) (Zma)) ZeX rfl (nm hS hk) (hx) Zt (Za (hl.dep 37 42 _ rfl rfl rfl hc) (Za (hl.dep 38 43 _ rfl rfl rfl hc) Zd)) (js hJ hx), fun _ _ hk hx hl hc => YS (XM hJ (xs := f.dummies) (f := 31) (caps := []) (Os := []) (p := Zhb) (fun q' => (Zfe hJ q').rr) (Zma)) ZeX rfl (nm hS hk) (hx) Zt (Za (hl.dep 43 48 _ rfl rfl rfl hc) (Za (hl.dep 44 49 _ rfl rfl rfl hc) Zd)) (js hJ hx), fun _ _ hk hx hl hc => YS (Yl hJ (xs := f.proof) (f := 32) (caps := []) (Os := []) (p := ZmL) (fun q' => (ZjR hJ q').rr) (ZrI)) ZaR rfl (nm hS hk) (hx) Zt (Za (hl.dep 49 54 _ rfl rfl rfl hc) (Za (Qc 32) Zd)) (js hJ hx), trivial⟩ ?_
 refine ln 0 fun hl1 => ?_
 exact Zi (rtn (m := 1) rfl rfl (eB (rfl)))
theorem ZpM {J : World → Prop} (hJ : Stab J) (d : Db) (n : Int) (m : Int)  : Fn Tryz.prog J 7 [.agg (dbC d), .int n, .int m] (.bool (Zfo d n m)) := by
 refine Zx (N := 31) Tryz.func7 rfl rfl (lb rfl) fun S w0 hS hJ0 => ?_
 clear hJ0
 refine hqs tb hJ [1,1000,1001] [.ptr (dbC d),.ptr [.lit (.int .i64 m)],_] [0,1] [_,_,_] rfl ⟨fun _ _ hk hx hl _ => YU rfl (hl.env 0 0 _ rfl rfl) (hS _ hk.size) (js hJ hx), fun _ _ hk hx hl _ => Zbc rfl (hl.env 2 2 _ rfl rfl) (hS _ hk.size) (js hJ hx), trivial⟩ ?_
 refine hqs tb hJ [1001,1024] [_,_,.int (d.frames.length : Nat),_,_,_,_,_,.int (d.consts.length : Nat),_,_,_,_,_,.int (d.vars.length : Nat),_,_,_,_,_,.fn 30 [.ptr [.lit (.int .i64 m)]],.bool (d.frames.any (ZnP m)),_,_,_] [2,8,14,20,21] [_,_] rfl ⟨Yz QT, Yz Zw, Yz Zw, fun _ _ _ hx hl _ => Xd (caps := [(Go.Operand.tmp 5)]) rfl (Za (hl.env 2 5 _ rfl rfl) Zd) hx, fun _ _ hk hx hl hc => YS (Zc1 hJ (xs := d.frames) (f := 30) (caps := [.ptr [.lit (.int .i64 m)]]) (Os := []) (p := (ZnP m)) (fun q' => (Zmx hJ q' m).rr) (ZrJ)) ZrK rfl (nm hS hk) (hx) Zt (Za (hl.dep 19 26 _ rfl rfl rfl hc) (Za (hl.dep 20 27 _ rfl rfl rfl hc) Zd)) (js hJ hx), trivial⟩ ?_
 refine ln 0 fun hl1 => ?_
 exact Zi (rtn (m := 1) rfl rfl (eB (rfl)))
theorem Zmw {J : World → Prop} (hJ : Stab J) (p : List ByteArray)  : Fn Tryz.prog J 33 [.rd (Zb p)] (.agg (dbC (Z1 p))) := by
 refine Zx (N := 26) Tryz.func33 rfl rfl (lb rfl) fun S w0 hS hJ0 => ?_
 refine tw Yn ?_
 refine ln 0 fun hl1 => ?_
 refine tsq ?_
 refine ZX ZgI hJ rfl rfl rfl (lb rfl) fun b1 => ?_
 refine seK [0,1] [_,_] rfl ?_
 refine nx (tsq ?_)
 refine sq (.rd (Zb ([ZrT, phT] : List ByteArray))) rfl rfl (lb rfl) (fun a _ h => Y0 (k := 2) (us := [a.eval (Go.Operand.const (Go.Value.string { data := #[119, 102, 102] })), a.eval (Go.Operand.const (Go.Value.string { data := #[112, 104] }))]) Zm Xj rfl (by simp) (Zj (Rel.of_lit (Go.Value.string { data := #[119, 102, 102] }) (lb rfl)) (Zj (Rel.of_lit (Go.Value.string { data := #[112, 104] }) (lb rfl)) ZI)) rfl (by decide) (by decide) (Zr hS _ h.keep h.x _ (Nat.le_refl _)) (jo hJ h.x)) ?_
 refine sq (.agg (hyC (Zb4))) rfl rfl (lb rfl) (fun a _ h => XX (us := [a.eval (Go.Operand.const (Go.Value.string { data := #[119, 112, 104] })), a.eval (Go.Operand.const (Go.Value.bool true)), a.eval (Go.Operand.tmp 6)]) Zei rfl (by simp) (Zj (Rel.of_lit (Go.Value.string { data := #[119, 112, 104] }) (lb rfl)) (Zj (Rel.of_lit (Go.Value.bool true)) (Zj (h.get 0 rfl) ZI))) rfl h.x) ?_
 refine sq (.rd (Zb ([ZrT, psT] : List ByteArray))) rfl rfl (lb rfl) (fun a _ h => Y0 (k := 2) (us := [a.eval (Go.Operand.const (Go.Value.string { data := #[119, 102, 102] })), a.eval (Go.Operand.const (Go.Value.string { data := #[112, 115] }))]) Zm Xj rfl (by simp) (Zj (Rel.of_lit (Go.Value.string { data := #[119, 102, 102] }) (lb rfl)) (Zj (Rel.of_lit (Go.Value.string { data := #[112, 115] }) (lb rfl)) ZI)) rfl (by decide) (by decide) (Zr hS _ h.keep h.x _ (Nat.le_refl _)) (jo hJ h.x)) ?_
 refine sq (.agg (hyC (Zb3))) rfl rfl (lb rfl) (fun a _ h => XX (us := [a.eval (Go.Operand.const (Go.Value.string { data := #[119, 112, 115] })), a.eval (Go.Operand.const (Go.Value.bool true)), a.eval (Go.Operand.tmp 8)]) Zei rfl (by simp) (Zj (Rel.of_lit (Go.Value.string { data := #[119, 112, 115] }) (lb rfl)) (Zj (Rel.of_lit (Go.Value.bool true)) (Zj (h.get 0 rfl) ZI))) rfl h.x) ?_
 refine ZX Yw hJ rfl rfl rfl (lb rfl) fun b2 => ?_
 refine ZX Yw hJ rfl rfl rfl (lb rfl) fun b3 => ?_
 refine kw pm1 ?_
 refine ZD (b := b2) (off := 0) (cs := [.lit (.string (⟨#[]⟩ : ByteArray)), .lit (.bool false), Zb ([] : List ByteArray)]) (es := [.lit (.string ((Zb4).label)), .lit (.bool ((Zb4).floating)), Zb ((Zb4).text)]) (news := [.lit (.string ((Zb4).label)), .lit (.bool ((Zb4).floating)), Zb ((Zb4).text)]) hJ hJ0 YM rfl rfl rfl (lb rfl) rfl (fun a w h => ⟨(h.get 1 rfl), (h.get 4 rfl)⟩) ?_
 refine kw pm1 ?_
 refine ZD (b := b3) (off := 0) (cs := [.lit (.string (⟨#[]⟩ : ByteArray)), .lit (.bool false), Zb ([] : List ByteArray)]) (es := [.lit (.string ((Zb3).label)), .lit (.bool ((Zb3).floating)), Zb ((Zb3).text)]) (news := [.lit (.string ((Zb3).label)), .lit (.bool ((Zb3).floating)), Zb ((Zb3).text)]) hJ hJ0 YM rfl rfl rfl (lb rfl) rfl (fun a w h => ⟨(h.get 0 rfl), (h.get 2 rfl)⟩) ?_
 refine seK [0,1,3,5,6,7] [_,_,_,_,_,_] rfl ?_
 refine nx (ln 2 fun hl2 => ?_)
 refine ln 3 fun hl3 => ?_
 refine ZO tb hJ [0,1,4,5,1000,1001] [.rd (Zb (smTx)),_] [0] [_,_,_,_,_,_] rfl ⟨fun a _ hk hx _ _ => Y0 (k := 10) (us := [a.eval (Go.Operand.const (Go.Value.string { data := #[124, 45] })), a.eval (Go.Operand.const (Go.Value.string { data := #[40] })), a.eval (Go.Operand.const (Go.Value.string { data := #[112, 104] })), a.eval (Go.Operand.const (Go.Value.string { data := #[45, 62] })), a.eval (Go.Operand.const (Go.Value.string { data := #[40] })), a.eval (Go.Operand.const (Go.Value.string { data := #[112, 115] })), a.eval (Go.Operand.const (Go.Value.string { data := #[45, 62] })), a.eval (Go.Operand.const (Go.Value.string { data := #[112, 104] })), a.eval (Go.Operand.const (Go.Value.string { data := #[41] })), a.eval (Go.Operand.const (Go.Value.string { data := #[41] }))]) Zm Xj rfl (by simp) (Zj (Rel.of_lit (Go.Value.string { data := #[124, 45] }) (lb rfl)) (Zj (Rel.of_lit (Go.Value.string { data := #[40] }) (lb rfl)) (Zj (Rel.of_lit (Go.Value.string { data := #[112, 104] }) (lb rfl)) (Zj (Rel.of_lit (Go.Value.string { data := #[45, 62] }) (lb rfl)) (Zj (Rel.of_lit (Go.Value.string { data := #[40] }) (lb rfl)) (Zj (Rel.of_lit (Go.Value.string { data := #[112, 115] }) (lb rfl)) (Zj (Rel.of_lit (Go.Value.string { data := #[45, 62] }) (lb rfl)) (Zj (Rel.of_lit (Go.Value.string { data := #[112, 104] }) (lb rfl)) (Zj (Rel.of_lit (Go.Value.string { data := #[41] }) (lb rfl)) (Zj (Rel.of_lit (Go.Value.string { data := #[41] }) (lb rfl)) ZI)))))))))) rfl (by decide) (by decide) (Zr hS _ hk hx _ (Nat.le_refl _)) (jo hJ hx), trivial⟩ ?_
 refine ln 4 fun hl4 => ?_
 refine tsq ?_
 refine sq (.rd (Zb ([ZrT, tuT, opT, clT, arT] : List ByteArray))) rfl rfl (lb rfl) (fun a _ h => Y0 (k := 5) (us := [a.eval (Go.Operand.const (Go.Value.string { data := #[119, 102, 102] })), a.eval (Go.Operand.const (Go.Value.string { data := #[124, 45] })), a.eval (Go.Operand.const (Go.Value.string { data := #[40] })), a.eval (Go.Operand.const (Go.Value.string { data := #[41] })), a.eval (Go.Operand.const (Go.Value.string { data := #[45, 62] }))]) Zm Xj rfl (by simp) (Zj (Rel.of_lit (Go.Value.string { data := #[119, 102, 102] }) (lb rfl)) (Zj (Rel.of_lit (Go.Value.string { data := #[124, 45] }) (lb rfl)) (Zj (Rel.of_lit (Go.Value.string { data := #[40] }) (lb rfl)) (Zj (Rel.of_lit (Go.Value.string { data := #[41] }) (lb rfl)) (Zj (Rel.of_lit (Go.Value.string { data := #[45, 62] }) (lb rfl)) ZI))))) rfl (by decide) (by decide) (Zr hS _ h.keep h.x _ (Nat.le_refl _)) (jo hJ h.x)) ?_
 refine sq (.rd (Zb ([phT, psT] : List ByteArray))) rfl rfl (lb rfl) (fun a _ h => Y0 (k := 2) (us := [a.eval (Go.Operand.const (Go.Value.string { data := #[112, 104] })), a.eval (Go.Operand.const (Go.Value.string { data := #[112, 115] }))]) Zm Xj rfl (by simp) (Zj (Rel.of_lit (Go.Value.string { data := #[112, 104] }) (lb rfl)) (Zj (Rel.of_lit (Go.Value.string { data := #[112, 115] }) (lb rfl)) ZI)) rfl (by decide) (by decide) (Zr hS _ h.keep h.x _ (Nat.le_refl _)) (jo hJ h.x)) ?_
 refine sq (.agg (hyC (Zb4))) rfl rfl (lb rfl) (fun _ _ h => Yk (cs := [.lit (.string ((Zb4).label)), .lit (.bool ((Zb4).floating)), Zb ((Zb4).text)]) (ds := [.lit (.string ((Zb4).label)), .lit (.bool ((Zb4).floating)), Zb ((Zb4).text)]) X2 rfl (Ze h.x (mo 1 rfl)) (h.get 3 rfl) rfl rfl h.x) ?_
 refine sq (.agg (hyC (Zb3))) rfl rfl (lb rfl) (fun _ _ h => Yk (cs := [.lit (.string ((Zb3).label)), .lit (.bool ((Zb3).floating)), Zb ((Zb3).text)]) (ds := [.lit (.string ((Zb3).label)), .lit (.bool ((Zb3).floating)), Zb ((Zb3).text)]) X2 rfl (Ze h.x (mo 0 rfl)) (h.get 3 rfl) rfl rfl h.x) ?_
 refine sq (.rd (Xr ([Zb4, Zb3]))) rfl rfl (lb rfl) (fun a _ h => ZhW (z := #[.string ⟨#[]⟩, .bool false, .slice none 0 0]) (cs := [hyC (Zb4), hyC (Zb3)]) (vs := [a.eval (Go.Operand.tmp 13), a.eval (Go.Operand.tmp 14)]) ZH (fun w => by kernel_rfl) rfl (by simp) (Za (h.get 1 rfl) (Za (h.get 0 rfl) Zd)) (of_decide_eq_true rfl) rfl (by decide) (by decide) (by decide) (Zr hS _ h.keep h.x _ (Nat.le_refl _)) (jo hJ h.x)) ?_
 refine snK 1 tb rfl ?_
 refine sq (.agg (frC (ZrW))) rfl rfl (lb rfl) (fun a _ h => Yu (ps := [(0, a.eval (Go.Operand.const (Go.Value.string { data := #[97, 120, 45, 49] }))), (2, a.eval (Go.Operand.tmp 15)), (4, a.eval (Go.Operand.tmp 16))]) (us := [a.eval (Go.Operand.const (Go.Value.string { data := #[97, 120, 45, 49] })), .bool false, a.eval (Go.Operand.tmp 15), .slice none 0 0, a.eval (Go.Operand.tmp 16), .slice none 0 0, .slice none 0 0, .slice none 0 0]) Zgp rfl (by simp) (ZdQ (lb rfl) rfl (ZdQ (lb rfl) (Rel.oneC (h.get 1 rfl)) (ZdQ (lb rfl) (Rel.oneC (h.get 0 rfl)) Zfa))) rfl (Zj (Rel.of_lit (Go.Value.string { data := #[97, 120, 45, 49] }) (lb rfl)) (YF (.lit _ True.intro) (Zj (h.get 1 rfl) (YF (.nil _ _ (Nat.zero_le _)) (Zj (h.get 0 rfl) (YF (.nil _ _ (Nat.zero_le _)) (YF (.nil _ _ (Nat.zero_le _)) (YF (.nil _ _ (Nat.zero_le _)) ZI)))))))) h.x) ?_
 refine sq (.agg (hyC (Zb4))) rfl rfl (lb rfl) (fun _ _ h => Yk (cs := [.lit (.string ((Zb4).label)), .lit (.bool ((Zb4).floating)), Zb ((Zb4).text)]) (ds := [.lit (.string ((Zb4).label)), .lit (.bool ((Zb4).floating)), Zb ((Zb4).text)]) X2 rfl (Ze h.x (mo 1 rfl)) (h.get 8 rfl) rfl rfl h.x) ?_
 refine sq (.agg (hyC (Zb3))) rfl rfl (lb rfl) (fun _ _ h => Yk (cs := [.lit (.string ((Zb3).label)), .lit (.bool ((Zb3).floating)), Zb ((Zb3).text)]) (ds := [.lit (.string ((Zb3).label)), .lit (.bool ((Zb3).floating)), Zb ((Zb3).text)]) X2 rfl (Ze h.x (mo 0 rfl)) (h.get 8 rfl) rfl rfl h.x) ?_
 refine sq (.rd (Xr ([Zb4, Zb3]))) rfl rfl (lb rfl) (fun a _ h => ZhW (z := #[.string ⟨#[]⟩, .bool false, .slice none 0 0]) (cs := [hyC (Zb4), hyC (Zb3)]) (vs := [a.eval (Go.Operand.tmp 18), a.eval (Go.Operand.tmp 19)]) ZH (fun w => by kernel_rfl) rfl (by simp) (Za (h.get 1 rfl) (Za (h.get 0 rfl) Zd)) (of_decide_eq_true rfl) rfl (by decide) (by decide) (by decide) (Zr hS _ h.keep h.x _ (Nat.le_refl _)) (jo hJ h.x)) ?_
 refine snK 2 tb rfl ?_
 refine sq (.agg (frC (ZrV p))) rfl rfl (lb rfl) (fun a _ h => Yu (ps := [(0, a.eval (Go.Operand.const (Go.Value.string { data := #[116, 104] }))), (1, a.eval (Go.Operand.const (Go.Value.bool true))), (2, a.eval (Go.Operand.tmp 20)), (4, a.eval (Go.Operand.tmp 21)), (7, a.eval (Go.Operand.tmp 22))]) (us := [a.eval (Go.Operand.const (Go.Value.string { data := #[116, 104] })), a.eval (Go.Operand.const (Go.Value.bool true)), a.eval (Go.Operand.tmp 20), .slice none 0 0, a.eval (Go.Operand.tmp 21), .slice none 0 0, .slice none 0 0, a.eval (Go.Operand.tmp 22)]) Zgp rfl (by simp) (ZdQ (lb rfl) rfl (ZdQ (lb rfl) rfl (ZdQ (lb rfl) (Rel.oneC (h.get 2 rfl)) (ZdQ (lb rfl) (Rel.oneC (h.get 1 rfl)) (ZdQ (lb rfl) (Rel.oneC (h.get 0 rfl)) Zfa))))) rfl (Zj (Rel.of_lit (Go.Value.string { data := #[116, 104] }) (lb rfl)) (Zj (Rel.of_lit (Go.Value.bool true)) (Zj (h.get 2 rfl) (YF (.nil _ _ (Nat.zero_le _)) (Zj (h.get 1 rfl) (YF (.nil _ _ (Nat.zero_le _)) (YF (.nil _ _ (Nat.zero_le _)) (Zj (h.get 0 rfl) ZI)))))))) h.x) ?_
 refine sq (.rd (ZeN ([ZrW, (ZrV p)]))) rfl rfl (lb rfl) (fun a _ h => ZhW (z := #[.string ⟨#[]⟩, .bool false, .slice none 0 0, .slice none 0 0, .slice none 0 0, .slice none 0 0, .slice none 0 0, .slice none 0 0]) (cs := [frC (ZrW), frC (ZrV p)]) (vs := [a.eval (Go.Operand.tmp 17), a.eval (Go.Operand.tmp 23)]) YI (fun w => by kernel_rfl) rfl (by simp) (Za (h.get 6 rfl) (Za (h.get 0 rfl) Zd)) (of_decide_eq_true rfl) rfl (by decide) (by decide) (by decide) (Zr hS _ h.keep h.x _ (Nat.le_refl _)) (jo hJ h.x)) ?_
 refine sq (.agg (dbC (Z1 p))) rfl rfl (lb rfl) (fun a _ h => XX (us := [a.eval (Go.Operand.tmp 11), a.eval (Go.Operand.tmp 12), a.eval (Go.Operand.tmp 24)]) ZjH rfl (by simp) (Zj (h.get 13 rfl) (Zj (h.get 12 rfl) (Zj (h.get 0 rfl) ZI))) rfl h.x) ?_
 refine kw pm2 ?_
 refine ZD (b := b1) (off := 0) (cs := [Zb ([] : List ByteArray), Zb ([] : List ByteArray), ZeN ([] : List Fr)]) (es := [Zb ((Z1 p).consts), Zb ((Z1 p).vars), ZeN ((Z1 p).frames)]) (news := [Zb ((Z1 p).consts), Zb ((Z1 p).vars), ZeN ((Z1 p).frames)]) hJ hJ0 Zkl rfl rfl rfl (lb rfl) rfl (fun a w h => ⟨(h.get 17 rfl), (h.get 0 rfl)⟩) ?_
 refine seK [1,5,10,13,14,17] [_,_,_,_,_,_] rfl ?_
 refine nx (ln 0 fun hl5 => ?_)
 refine ln 1 fun hl6 => ?_
 refine ln 3 fun hl7 => ?_
 refine ln 4 fun hl8 => ?_
 exact Zi (fun a w h => Zam (cs := [Zb ((Z1 p).consts), Zb ((Z1 p).vars), ZeN ((Z1 p).frames)]) (m := 5) rfl ZbY h rfl rfl (show ([Zb ((Z1 p).consts), Zb ((Z1 p).vars), ZeN ((Z1 p).frames)] : List CD) = [Zb ((Z1 p).consts), Zb ((Z1 p).vars), ZeN ((Z1 p).frames)] from rfl))
theorem Zem {J : World → Prop} (hJ : Stab J)  (hG : QL J) : Fn Tryz.prog J 8 [] (.bool true) := by
 refine Zx (N := 42) Tryz.func8 rfl rfl (lb rfl) fun S w0 hS hJ0 => ?_
 refine tw Yn ?_
 refine qso tb hJ [] [_] [] ?_
 refine Zn (Zn (Y6 tb hJ [1000,1003,1006,1009,1012,1015,1016,1017] [.rd (Zb ([ZbZ, Zel, Zaq] : List ByteArray)),.agg (vdC (⟨0, 0⟩ : Int × Int)),.agg (exC (⟨([ZbZ, Zel, Zaq] : List ByteArray), (⟨0, 0⟩ : Int × Int)⟩ : Exm)),.rd (Zb ([ZbZ, Zaq] : List ByteArray)),.agg (vdC (⟨(23 : Int), (1 : Int)⟩ : Int × Int)),.agg (exC (⟨([ZbZ, Zaq] : List ByteArray), (⟨(23 : Int), (1 : Int)⟩ : Int × Int)⟩ : Exm)),.rd (Zb ([opT, Zaq, clT, (⟨#[65, 66, 67]⟩ : ByteArray)] : List ByteArray)),.agg (vdC (⟨0, 0⟩ : Int × Int)),.agg (exC (⟨([opT, Zaq, clT, (⟨#[65, 66, 67]⟩ : ByteArray)] : List ByteArray), (⟨0, 0⟩ : Int × Int)⟩ : Exm)),.rd (Zb ([opT, clT, (⟨#[65, 66, 68]⟩ : ByteArray)] : List ByteArray)),.agg (vdC (⟨(21 : Int), 0⟩ : Int × Int)),.agg (exC (⟨([opT, clT, (⟨#[65, 66, 68]⟩ : ByteArray)] : List ByteArray), (⟨(21 : Int), 0⟩ : Int × Int)⟩ : Exm)),.rd (Zb ([Zel, ZbZ, Zaq] : List ByteArray)),.agg (vdC (⟨(28 : Int), (3 : Int)⟩ : Int × Int)),.agg (exC (⟨([Zel, ZbZ, Zaq] : List ByteArray), (⟨(28 : Int), (3 : Int)⟩ : Int × Int)⟩ : Exm)),.rd (exsC ([(⟨([ZbZ, Zel, Zaq] : List ByteArray), (⟨0, 0⟩ : Int × Int)⟩ : Exm), (⟨([ZbZ, Zaq] : List ByteArray), (⟨(23 : Int), (1 : Int)⟩ : Int × Int)⟩ : Exm), (⟨([opT, Zaq, clT, (⟨#[65, 66, 67]⟩ : ByteArray)] : List ByteArray), (⟨0, 0⟩ : Int × Int)⟩ : Exm), (⟨([opT, clT, (⟨#[65, 66, 68]⟩ : ByteArray)] : List ByteArray), (⟨(21 : Int), 0⟩ : Int × Int)⟩ : Exm), (⟨([Zel, ZbZ, Zaq] : List ByteArray), (⟨(28 : Int), (3 : Int)⟩ : Int × Int)⟩ : Exm)])),.int (([(⟨([ZbZ, Zel, Zaq] : List ByteArray), (⟨0, 0⟩ : Int × Int)⟩ : Exm), (⟨([ZbZ, Zaq] : List ByteArray), (⟨(23 : Int), (1 : Int)⟩ : Int × Int)⟩ : Exm), (⟨([opT, Zaq, clT, (⟨#[65, 66, 67]⟩ : ByteArray)] : List ByteArray), (⟨0, 0⟩ : Int × Int)⟩ : Exm), (⟨([opT, clT, (⟨#[65, 66, 68]⟩ : ByteArray)] : List ByteArray), (⟨(21 : Int), 0⟩ : Int × Int)⟩ : Exm), (⟨([Zel, ZbZ, Zaq] : List ByteArray), (⟨(28 : Int), (3 : Int)⟩ : Int × Int)⟩ : Exm)]).length : Nat),_] [0,1,2,3,4,5,6,7,8,9,10,11,12,13,14,15,16] [_,_,_,_,_,_,_,_] rfl ⟨fun a _ hk hx _ _ => Y0 (k := 3) (us := [a.eval (Go.Operand.const (Go.Value.string { data := #[119, 112, 104] })), a.eval (Go.Operand.const (Go.Value.string { data := #[119, 112, 115] })), a.eval (Go.Operand.const (Go.Value.string { data := #[97, 120, 45, 49] }))]) Zm Xj rfl (by simp) (Zj (Rel.of_lit (Go.Value.string { data := #[119, 112, 104] }) (lb rfl)) (Zj (Rel.of_lit (Go.Value.string { data := #[119, 112, 115] }) (lb rfl)) (Zj (Rel.of_lit (Go.Value.string { data := #[97, 120, 45, 49] }) (lb rfl)) ZI))) rfl (by decide) (by decide) (Zr hS _ hk hx _ (Nat.le_refl _)) (jo hJ hx), fun _ _ _ hx _ _ => Yu (ps := []) (us := [.int .i64 0, .int .i64 0]) Q6 rfl (by simp) Zfa rfl (YF (.lit _ True.intro) (YF (.lit _ True.intro) ZI)) hx, fun _ _ _ hx hl _ => ZaD (xs := ([ZbZ, Zel, Zaq] : List ByteArray)) Q7 rfl (hl.dep 0 5 _ rfl rfl rfl rfl) (hl.dep 1 6 _ rfl rfl rfl rfl) hx, fun a _ hk hx _ _ => Y0 (k := 2) (us := [a.eval (Go.Operand.const (Go.Value.string { data := #[119, 112, 104] })), a.eval (Go.Operand.const (Go.Value.string { data := #[97, 120, 45, 49] }))]) Zm Xj rfl (by simp) (Zj (Rel.of_lit (Go.Value.string { data := #[119, 112, 104] }) (lb rfl)) (Zj (Rel.of_lit (Go.Value.string { data := #[97, 120, 45, 49] }) (lb rfl)) ZI)) rfl (by decide) (by decide) (Zr hS _ hk hx _ (Nat.le_refl _)) (jo hJ hx), fun a _ _ hx _ _ => XX (us := [a.eval (Go.Operand.const (Go.Value.int Go.IntKind.i64 23)), a.eval (Go.Operand.const (Go.Value.int Go.IntKind.i64 1))]) Za6 rfl (by simp) (Zj (Rel.of_lit (Go.Value.int Go.IntKind.i64 23)) (Zj (Rel.of_lit (Go.Value.int Go.IntKind.i64 1)) ZI)) rfl hx, fun _ _ _ hx hl _ => ZaD (xs := ([ZbZ, Zaq] : List ByteArray)) Q7 rfl (hl.dep 3 8 _ rfl rfl rfl rfl) (hl.dep 4 9 _ rfl rfl rfl rfl) hx, fun a _ hk hx _ _ => Y0 (k := 4) (us := [a.eval (Go.Operand.const (Go.Value.string { data := #[40] })), a.eval (Go.Operand.const (Go.Value.string { data := #[97, 120, 45, 49] })), a.eval (Go.Operand.const (Go.Value.string { data := #[41] })), a.eval (Go.Operand.const (Go.Value.string { data := #[65, 66, 67] }))]) Zm Xj rfl (by simp) (Zj (Rel.of_lit (Go.Value.string { data := #[40] }) (lb rfl)) (Zj (Rel.of_lit (Go.Value.string { data := #[97, 120, 45, 49] }) (lb rfl)) (Zj (Rel.of_lit (Go.Value.string { data := #[41] }) (lb rfl)) (Zj (Rel.of_lit (Go.Value.string { data := #[65, 66, 67] }) (lb rfl)) ZI)))) rfl (by decide) (by decide) (Zr hS _ hk hx _ (Nat.le_refl _)) (jo hJ hx), fun _ _ _ hx _ _ => Yu (ps := []) (us := [.int .i64 0, .int .i64 0]) Q6 rfl (by simp) Zfa rfl (YF (.lit _ True.intro) (YF (.lit _ True.intro) ZI)) hx, fun _ _ _ hx hl _ => ZaD (xs := ([opT, Zaq, clT, (⟨#[65, 66, 67]⟩ : ByteArray)] : List ByteArray)) Q7 rfl (hl.dep 6 11 _ rfl rfl rfl rfl) (hl.dep 7 12 _ rfl rfl rfl rfl) hx, fun a _ hk hx _ _ => Y0 (k := 3) (us := [a.eval (Go.Operand.const (Go.Value.string { data := #[40] })), a.eval (Go.Operand.const (Go.Value.string { data := #[41] })), a.eval (Go.Operand.const (Go.Value.string { data := #[65, 66, 68] }))]) Zm Xj rfl (by simp) (Zj (Rel.of_lit (Go.Value.string { data := #[40] }) (lb rfl)) (Zj (Rel.of_lit (Go.Value.string { data := #[41] }) (lb rfl)) (Zj (Rel.of_lit (Go.Value.string { data := #[65, 66, 68] }) (lb rfl)) ZI))) rfl (by decide) (by decide) (Zr hS _ hk hx _ (Nat.le_refl _)) (jo hJ hx), fun a _ _ hx _ _ => Yu (ps := [(0, a.eval (Go.Operand.const (Go.Value.int Go.IntKind.i64 21)))]) (us := [a.eval (Go.Operand.const (Go.Value.int Go.IntKind.i64 21)), .int .i64 0]) Q6 rfl (by simp) (ZdQ (lb rfl) rfl Zfa) rfl (Zj (Rel.of_lit (Go.Value.int Go.IntKind.i64 21)) (YF (.lit _ True.intro) ZI)) hx, fun _ _ _ hx hl _ => ZaD (xs := ([opT, clT, (⟨#[65, 66, 68]⟩ : ByteArray)] : List ByteArray)) Q7 rfl (hl.dep 9 14 _ rfl rfl rfl rfl) (hl.dep 10 15 _ rfl rfl rfl rfl) hx, fun a _ hk hx _ _ => Y0 (k := 3) (us := [a.eval (Go.Operand.const (Go.Value.string { data := #[119, 112, 115] })), a.eval (Go.Operand.const (Go.Value.string { data := #[119, 112, 104] })), a.eval (Go.Operand.const (Go.Value.string { data := #[97, 120, 45, 49] }))]) Zm Xj rfl (by simp) (Zj (Rel.of_lit (Go.Value.string { data := #[119, 112, 115] }) (lb rfl)) (Zj (Rel.of_lit (Go.Value.string { data := #[119, 112, 104] }) (lb rfl)) (Zj (Rel.of_lit (Go.Value.string { data := #[97, 120, 45, 49] }) (lb rfl)) ZI))) rfl (by decide) (by decide) (Zr hS _ hk hx _ (Nat.le_refl _)) (jo hJ hx), fun a _ _ hx _ _ => XX (us := [a.eval (Go.Operand.const (Go.Value.int Go.IntKind.i64 28)), a.eval (Go.Operand.const (Go.Value.int Go.IntKind.i64 3))]) Za6 rfl (by simp) (Zj (Rel.of_lit (Go.Value.int Go.IntKind.i64 28)) (Zj (Rel.of_lit (Go.Value.int Go.IntKind.i64 3)) ZI)) rfl hx, fun _ _ _ hx hl _ => ZaD (xs := ([Zel, ZbZ, Zaq] : List ByteArray)) Q7 rfl (hl.dep 12 17 _ rfl rfl rfl rfl) (hl.dep 13 18 _ rfl rfl rfl rfl) hx, fun a w hk hx hl _ => ZhW (z := #[.slice none 0 0, .int .i64 0, .int .i64 0]) (cs := [exC (⟨([ZbZ, Zel, Zaq] : List ByteArray), (⟨0, 0⟩ : Int × Int)⟩ : Exm), exC (⟨([ZbZ, Zaq] : List ByteArray), (⟨(23 : Int), (1 : Int)⟩ : Int × Int)⟩ : Exm), exC (⟨([opT, Zaq, clT, (⟨#[65, 66, 67]⟩ : ByteArray)] : List ByteArray), (⟨0, 0⟩ : Int × Int)⟩ : Exm), exC (⟨([opT, clT, (⟨#[65, 66, 68]⟩ : ByteArray)] : List ByteArray), (⟨(21 : Int), 0⟩ : Int × Int)⟩ : Exm), exC (⟨([Zel, ZbZ, Zaq] : List ByteArray), (⟨(28 : Int), (3 : Int)⟩ : Int × Int)⟩ : Exm)]) (vs := [a.eval (Go.Operand.tmp 7), a.eval (Go.Operand.tmp 10), a.eval (Go.Operand.tmp 13), a.eval (Go.Operand.tmp 16), a.eval (Go.Operand.tmp 19)]) Zcp (fun w => by kernel_rfl) rfl (by simp) (Za (hl.dep 2 7 _ rfl rfl rfl rfl) (Za (hl.dep 5 10 _ rfl rfl rfl rfl) (Za (hl.dep 8 13 _ rfl rfl rfl rfl) (Za (hl.dep 11 16 _ rfl rfl rfl rfl) (Za (hl.dep 14 19 _ rfl rfl rfl rfl) Zd))))) (of_decide_eq_true rfl) rfl (by decide) (by decide) (by decide) (Zr hS _ hk hx _ (Nat.le_refl _)) (jo hJ hx), Yz ZiQ, trivial⟩ ?_))
 refine kw (sa 5 rfl (show (.rd (exsC ([(⟨([ZbZ, Zel, Zaq] : List ByteArray), (⟨0, 0⟩ : Int × Int)⟩ : Exm), (⟨([ZbZ, Zaq] : List ByteArray), (⟨(23 : Int), (1 : Int)⟩ : Int × Int)⟩ : Exm), (⟨([opT, Zaq, clT, (⟨#[65, 66, 67]⟩ : ByteArray)] : List ByteArray), (⟨0, 0⟩ : Int × Int)⟩ : Exm), (⟨([opT, clT, (⟨#[65, 66, 68]⟩ : ByteArray)] : List ByteArray), (⟨(21 : Int), 0⟩ : Int × Int)⟩ : Exm), (⟨([Zel, ZbZ, Zaq] : List ByteArray), (⟨(28 : Int), (3 : Int)⟩ : Int × Int)⟩ : Exm)])) : AV) = .rd (exsC exsD) from rfl)) ?_
 refine kw (sa 6 rfl (show (.int (([(⟨([ZbZ, Zel, Zaq] : List ByteArray), (⟨0, 0⟩ : Int × Int)⟩ : Exm), (⟨([ZbZ, Zaq] : List ByteArray), (⟨(23 : Int), (1 : Int)⟩ : Int × Int)⟩ : Exm), (⟨([opT, Zaq, clT, (⟨#[65, 66, 67]⟩ : ByteArray)] : List ByteArray), (⟨0, 0⟩ : Int × Int)⟩ : Exm), (⟨([opT, clT, (⟨#[65, 66, 68]⟩ : ByteArray)] : List ByteArray), (⟨(21 : Int), 0⟩ : Int × Int)⟩ : Exm), (⟨([Zel, ZbZ, Zaq] : List ByteArray), (⟨(28 : Int), (3 : Int)⟩ : Int × Int)⟩ : Exm)]).length : Nat) : AV) = .int (exsD.length : Nat) from rfl)) ?_
 refine nx (ln 0 fun hl1 => ?_)
 refine ln 1 fun hl2 => ?_
 refine ln 2 fun hl3 => ?_
 refine ln 3 fun hl4 => ?_
 refine ln 4 fun hl5 => ?_
 refine ln 5 fun hl6 => ?_
 refine Zh (lpo (ι := Nat) (fun k => (k ≤ exsD.length)) (fun _ => []) (fun k => [(22, .int (k : Nat))]) (fun k => exsD.length - k) [5,6,7] [_,_] 0 (show (0 ≤ exsD.length) from Nat.zero_le _) ?_)
 rintro k hF
 have f1_1 : k ≤ exsD.length := hF
 refine qso tb hJ [0,1,2,1000] [_] [_,_,_,_] ?_
 refine cjS 3 (fun hb1 => ?_) fun hb1 => ?_
 try simp at hb1
 refine Zf (nx (Zn (Zh (tsq ?_))))
 refine sq (.ptr (exC (ge exsD k))) rfl rfl (lb rfl) (fun _ _ h => Yg (i := (k : Int)) Zcp rfl (h.get 0 rfl) (h.get 2 rfl) (Int.natCast_nonneg _) (Yt (xs := exsD) (k := k) (by first | omega | (simp; omega) | grind [Zc])) rfl h.x) ?_
 refine sq (.agg (exC (ge exsD k))) rfl rfl (lb rfl) (fun _ _ h => Zab ZoT rfl (h.get 0 rfl) (Nat.le_refl _) h.x) ?_
 refine Qa (cs := exC (ge exsD k)) Zmz rfl rfl rfl (lb rfl) rfl rfl rfl (by decide) (m := 0) rfl rfl (fun a w h => Zr hS _ h.keep h.x _ (Nat.le_refl _)) (fun a w h w' hk' => Yp hJ _ _ hk' h.x) ?_
 refine seK [0,3,4,5] [_,_,_,_] rfl ?_
 refine nx (tsq ?_)
 refine sq (.ptr (exC (ge exsD k))) rfl rfl (lb rfl) (fun _ _ h => ZR Zjv rfl (h.get 0 rfl) h.x) ?_
 refine snK 1 tb rfl ?_
 refine sq (.agg (dbC (Z1 ((ge exsD k).proof)))) rfl rfl (lb rfl) (fun _ _ h => ZdE (Zmw hJ (p := ((ge exsD k).proof)) ) ZrH rfl (Zr hS _ h.keep h.x) (h.x.1) (Za (h.get 0 rfl) Zd) (jo hJ h.x)) ?_
 refine sq (.tup [.agg (vdC ((ZdF (Z1 ((ge exsD k).proof)) (1 : Int)).1)), .int ((ZdF (Z1 ((ge exsD k).proof)) (1 : Int)).2)]) rfl rfl (lb rfl) (fun _ _ h => ZdE (ZkT hJ (d := (Z1 ((ge exsD k).proof))) (z := (1 : Int)) (by exact sam_hw _) (by exact hG) (by exact sam_pl (by omega))) call_9 rfl (Zr hS _ h.keep h.x) (h.x.1) (Za (h.get 0 rfl) (Za (Rel.of_lit (Go.Value.int Go.IntKind.i64 1)) Zd)) (jo hJ h.x)) ?_
 refine snK 3 tb rfl ?_
 refine Qa (cs := vdC ((ZdF (Z1 ((ge exsD k).proof)) (1 : Int)).1)) ZhE rfl rfl rfl (lb rfl) rfl rfl rfl (by decide) (m := 1) rfl rfl (fun a w h => Zr hS _ h.keep h.x _ (Nat.le_refl _)) (fun a w h w' hk' => Yp hJ _ _ hk' h.x) ?_
 refine snK 1 tb rfl ?_
 refine seK [0,1,7,9,10,11,12] [_,_,_,_,_,_,_] rfl ?_
 refine nx (ln 2 fun hl7 => ?_)
 refine ZO tb hJ [4,5,6,1007] [_,_,_,_,.ptr [.lit (.int .i64 ((ge exsD k).v.1)), .lit (.int .i64 ((ge exsD k).v.2))],_,.bool (!(decide (((ZdF (Z1 ((ge exsD k).proof)) (1 : Int)).1).1 = ((ge exsD k).v.1)) && decide (((ZdF (Z1 ((ge exsD k).proof)) (1 : Int)).1).2 = ((ge exsD k).v.2)))),_] [4,6] [_,_,_,_] rfl ⟨fun _ _ _ hx hl _ => ZR Zju rfl (hl.env 3 2 _ rfl rfl) hx, fun _ _ _ hx hl hc => Zpb eqVd rfl (hl.dep 3 36 _ rfl rfl rfl hc) (hl.dep 5 38 _ rfl rfl rfl hc) hx, trivial⟩ ?_
 refine cj 3 (fun hb2 => ?_) fun hb2 => ?_
 try simp at hb2
 exact False.elim (by have h9 := Zqb (k := k) (by omega); simp [h9] at hb2)
 try simp at hb2
 refine Zf (nx (Y6 tb hJ [0,1,1001] [.int (k + 1 : Nat),_] [0] [_,_,_] rfl ⟨YK, trivial⟩ ?_))
 exact XR (k + 1) [0,1,2] (show ((k + 1) ≤ exsD.length) from by omega)
 try simp at hb1
 refine ZC (nx (qso tb hJ [1000] [_] [_] ?_))
 exact Zi (Qg (m := 0) rfl rfl rfl)
end Go.Proofs.YtgifeodnngodiaaGreatDoor
namespace Go.Proofs.YtgifeodnngodiaaGreatDoor
open Go.RowKit

section
variable {n : Rn} {P : Program} {X : World → Prop} {S S' : Nat → Prop} {o : Oper} {a : Act} {w : World} {s d : TypeId} {x : Operand}
theorem r_of16 {k : Nat} (hs : P.underlying s = some (.int .u16)) (hd : P.underlying d = some (.int .i64)) (hop : o.op = .convert s d x) (h : Rel S' w (.lit (.int .u16 (k : Int))) (a.eval x)) (hk : k ≤ 9223372036854775807) (hx : X w) : Z3 n P o a w (Ym S X (.int (k : Int)) w) := by
  refine Zv (v := .int .i64 (k : Int)) ?_ (Rel.of_lit _) hx
  have hw : IntKind.i64.wrap (k : Int) = k := IntWalk.i64_in (k : Int) ⟨by omega, by omega⟩
  simp [execOp, hop, h.lit, convert, Conv.intToInt, Sem.run_bind, run_underlying hs, run_underlying hd, hw]
end
section
variable {n : Rn} {P : Program} {J : World → Prop} {S : Nat → Prop} {O : List OB} {w0 : World}
theorem Zj7 {w w' : World} {v : Value} {e : TypeId} {size : Nat} {rows : List (List CD)} {O1 : List OB} (hS : ∀ b, w0.heap.size ≤ b → S b) (h : Zaj J S w0 O1 w (OB.row v e size rows :: O) w') : Rel (SO S O) w' (.rd (.sl rows)) v ∧ Zaj J S w0 O1 w O w' := by
  obtain ⟨hk, hx, hr⟩ := h
  have hi := hx.2.1 (OB.row v e size rows) (by simp)
  have hfree : ∀ k, (OB.row v e size rows).blk k → SO S O k := fun k hk => ⟨hS k ((OB.row v e size rows).lt hi k hk).1, fun p hp => (List.pairwise_cons.1 hx.2.2).1 p hp k hk⟩
  refine ⟨Zfu (fun k hk => hfree k hk) (OB.sub hi fun k _ hk => hk.drop), hk, ⟨hx.1, fun p hp => OB.sub (hx.2.1 p (by simp [hp])) fun _ _ hk => hk.drop, (List.pairwise_cons.1 hx.2.2).2⟩, fun av u hu => (hr av u hu).sub fun k _ hk => hk.drop⟩
theorem Zgj {α : Type} {f : α → List CD} {o : Oper} {a : Act} {w : World} {t e : TypeId} {size bytes : Nat} {x y : Operand} {v : Value} (xs ys : List α) (hf : ∀ x, (f x).length = size) (ht : ZgD P t e size bytes) (hS : ∀ b, w0.heap.size ≤ b → S b) (hJ : Stab J) (hJ0 : J w0)
    (hop : o.op = .call { callee := .builtin .append, args := #[x, y], argTypes := #[t, t] }) (hk : Keeps All w0 w) (hx : XO J S w0.heap.size (OB.row v e size (xs.map f) :: O) w)
    (hv : a.eval x = v) (hy : Rel (SO S (OB.row v e size (xs.map f) :: O)) w (.rd (.sl (ys.map f))) (a.eval y)) (hb : (xs.length + ys.length) * bytes ≤ 140737488355328) (h63 : xs.length + ys.length ≤ 9223372036854775807) :
    Z3 n P o a w fun v' w' => Rel (SO S O) w' (.rd (.sl ((xs ++ ys).map f))) v' ∧ Zaj J S w0 (OB.row v e size (xs.map f) :: O) w O w' :=
  Zo (YL xs ys hf ht hJ hJ0 hop hk hx hv hy hb h63) fun _ _ h => Zj7 hS h
end
end Go.Proofs.YtgifeodnngodiaaGreatDoor
namespace Go.Proofs.YtgifeodnngodiaaGreatDoor

section
variable {fs : List Fr} {vars : List ByteArray} {f : Fr} {xs ys : List Itm} {M : List (ByteArray × Int)}
def skN (fs : List Fr) (vars : List ByteArray) (f : Fr) (xs : List Itm) : Nat → Except (Int × Int) (List (List ByteArray))
  | 0 => .ok []
  | k + 1 => match skN fs vars f xs k with
    | .error e => .error e
    | .ok s => match YQ fs vars f s [] (ge xs k) with
      | .error c => .error (c, (k : Int))
      | .ok s' => .ok s'
def ZdD (fs : List Fr) (vars : List ByteArray) (f : Fr) (xs : List Itm) : Int × Int :=
  match skN fs vars f xs xs.length with
  | .error e => e
  | .ok s => ZbP f s xs.length
theorem ZgP {e : Int × Int} {a : Nat} (h : skN fs vars f xs a = .error e) : ∀ b, skN fs vars f xs (a + b) = .error e
  | 0 => h
  | b + 1 => by
    show skN fs vars f xs ((a + b) + 1) = _
    rw [skN, ZgP h b]
theorem ZcA {s : List (List ByteArray)} {k : Nat} (h : skN fs vars f xs k = .ok s) : skN fs vars f xs (k + 1) = match YQ fs vars f s [] (ge xs k) with | .error c => .error (c, (k : Int)) | .ok s' => .ok s' := by
  rw [skN, h]
theorem Zo5 (hu : ∀ k, (ge xs k).tagged = false) : ∀ (i k : Nat) (s : List (List ByteArray)) (b : Bool), xs.length - k = i → k < xs.length → skN fs vars f xs k = .ok s →
    (ZhQ fs vars f xs (i + 1) ⟨s, [], k, false, (0, 0), b⟩).v = ZdD fs vars f xs
  | 0, k, s, b, h1, h2, _ => by omega
  | i + 1, k, s, b, h1, h2, h3 => by
    show (ZhQ fs vars f xs (i + 1) (ZQ fs vars f xs ⟨s, [], k, false, (0, 0), b⟩)).v = _
    have h4 := ZcA h3
    cases hk : YQ fs vars f s [] (ge xs k) with
    | error c =>
      rw [hk] at h4
      have h5 := ZgP h4 (xs.length - (k + 1))
      rw [show k + 1 + (xs.length - (k + 1)) = xs.length by omega] at h5
      rw [Zbz rfl hk, Zft _ _ rfl, ZdD, h5]
    | ok s' =>
      rw [hk] at h4
      rw [Zby rfl hk, if_neg (by simp [hu k])]
      unfold ZbO
      split
      · rename_i hl
        exact Zo5 hu i (k + 1) s' true (by omega) hl h4
      · rename_i hl
        have e : k + 1 = xs.length := by simp only at hl; omega
        rw [Zft _ _ rfl, ZdD, ← e, h4]
theorem ver_sk (hu : ∀ k, (ge xs k).tagged = false) {t : List ByteArray} (hr : YJ f M t = .ok xs) : Zat fs vars f M t = ZdD fs vars f xs := by
  unfold Zat
  rw [hr]
  show (ZhQ fs vars f xs (xs.length + 1) (ZbO f xs.length ⟨[], [], 0, false, (0, 0), true⟩)).v = _
  unfold ZbO
  split
  · rename_i hl
    exact Zo5 hu xs.length 0 [] true (by omega) hl rfl
  · rename_i hl
    have e : xs.length = 0 := by simp only at hl; omega
    rw [Zft _ _ rfl, ZdD, e]
    rfl
theorem ZcW {c : Nat} (h : ∀ k, k < c → ge xs k = ge ys k) : ∀ k, k ≤ c → skN fs vars f xs k = skN fs vars f ys k
  | 0, _ => rfl
  | k + 1, hk => by rw [skN, skN, ZcW h k (by omega), h k (by omega)]
theorem ZhO {e : Int × Int} : ∀ (k : Nat), skN fs vars f xs k = .error e → 0 ≤ e.2 ∧ e.2 < (k : Int) ∧ skN fs vars f xs (e.2.toNat + 1) = .error e
  | 0, h => by cases h
  | k + 1, h => by
    rw [skN] at h
    split at h
    · rename_i e' he
      injection h with h
      subst h
      obtain ⟨h1, h2, h3⟩ := ZhO k he
      exact ⟨h1, by omega, h3⟩
    · rename_i s hs
      split at h
      · rename_i c hc
        injection h with h
        subst h
        refine ⟨by simp, by simp only; omega, ?_⟩
        simp only [Int.toNat_natCast]
        rw [ZcA hs, hc]
      · cases h
theorem ZpO {c : Nat} (hc : c < xs.length) (h1 : ¬ (ZdD fs vars f xs).1 = 0) (h2 : (ZdD fs vars f xs).2 < (c : Int)) : ZdD fs vars f (xs.take c) = ZdD fs vars f xs := by
  have hl : (xs.take c).length = c := by rw [List.length_take]; omega
  have ha : ∀ k, k < c → ge (xs.take c) k = ge xs k := fun k hk => by
    simp only [ge, List.getD_eq_getElem?_getD, List.getElem?_take]; rw [if_pos hk]
  cases h3 : skN fs vars f xs xs.length with
  | ok s =>
    have e : ZdD fs vars f xs = ZbP f s xs.length := by rw [ZdD, h3]
    rw [e] at h1 h2
    unfold ZbP at h1 h2
    split at h2
    · simp only at h2; omega
    · split at h2
      · simp only at h2; omega
      · rename_i h4 h5
        rw [if_neg h4, if_neg h5] at h1
        exact absurd rfl h1
  | error e =>
    have e1 : ZdD fs vars f xs = e := by rw [ZdD, h3]
    rw [e1] at h2 ⊢
    obtain ⟨h4, h5, h6⟩ := ZhO _ h3
    have h7 : skN fs vars f (xs.take c) c = .error e := by
      have h8 : skN fs vars f (xs.take c) (e.2.toNat + 1) = .error e := by rw [ZcW ha _ (by omega)]; exact h6
      have := ZgP h8 (c - (e.2.toNat + 1))
      rwa [show e.2.toNat + 1 + (c - (e.2.toNat + 1)) = c by omega] at this
    rw [ZdD, hl, h7]
theorem Zmy {x : Itm} (h1 : (ZdD fs vars f xs).1 = 0) (hx : x.kind = 1) : ZdD fs vars f (xs ++ [x]) = (23, ((xs.length + 1 : Nat) : Int)) := by
  have ha : ∀ k, k < xs.length → ge (xs ++ [x]) k = ge xs k := fun k hk => by
    simp only [ge, List.getD_eq_getElem?_getD, List.getElem?_append_left hk]
  have hg : ge (xs ++ [x]) xs.length = x := by simp [ge]
  cases h3 : skN fs vars f xs xs.length with
  | error e =>
    have e1 : ZdD fs vars f xs = e := by rw [ZdD, h3]
    rw [e1] at h1
    obtain ⟨h4, h5, h6⟩ := ZhO _ h3
    exfalso
    have h7 : ∃ s, YQ fs vars f s [] (ge xs e.2.toNat) = .error e.1 := by
      cases h8 : skN fs vars f xs e.2.toNat with
      | error e' =>
        obtain ⟨h9, h10, _⟩ := ZhO _ h8
        rw [skN, h8] at h6
        injection h6 with h6
        subst h6
        omega
      | ok s =>
        refine ⟨s, ?_⟩
        rw [ZcA h8] at h6
        split at h6
        · rename_i c hc
          injection h6 with h6
          rw [hc, ← h6]
        · cases h6
    obtain ⟨s, h8⟩ := h7
    exact Zid h8 h1
  | ok s =>
    have e : ZdD fs vars f xs = ZbP f s xs.length := by rw [ZdD, h3]
    rw [e] at h1
    have hs : s.length = 1 := by
      unfold ZbP at h1
      split at h1
      · simp at h1
      · rename_i h4; omega
    have h5 : skN fs vars f (xs ++ [x]) (xs.length + 1) = .ok (s ++ [x.text]) := by
      rw [ZcA (s := s) (by rw [ZcW ha _ (Nat.le_refl _)]; exact h3), hg]
      unfold YQ
      rw [if_pos hx]
    rw [ZdD, List.length_append, List.length_singleton, h5]
    show ZbP f (s ++ [x.text]) (xs.length + 1) = _
    unfold ZbP
    rw [if_pos (by rw [List.length_append, hs]; simp)]
end

section
variable {d : Db} {z : Int} {t : List ByteArray}
theorem Zlq {k : Nat} (h : frE d k = 0) {y : Hy} (hy : y ∈ (ge d.frames k).hyps) : Zcc y.label = true := by
  unfold frE ZrZ at h
  split at h
  · cases h
  split at h
  · cases h
  split at h
  · cases h
  split at h
  · rename_i h2
    rw [h] at h2
    simp at h2
  rename_i h3
  have h3 : Zpq d k = 0 := by simpa using h3
  obtain ⟨j, hj, e⟩ := XC (List.mem_append_left (ge d.frames k).dummies hy)
  have h4 := ZaK (Ql h3 j hj)
  have h5 : Zcc (ge ((ge d.frames k).hyps ++ (ge d.frames k).dummies) j).label = true := by
    unfold QO at h4
    simp only [Bool.or_eq_false_iff, Bool.not_eq_false'] at h4
    simp_all
  rw [← e]
  exact h5
theorem lab_q {s : ByteArray} (h : Zcc s = true) : ¬ s = ⟨#[63]⟩ := fun e => by
  subst e
  revert h
  decide
theorem ZlQ {c : Nat} (h : Qu t = false) : Qu (t.take c) = false := by
  cases t with
  | nil => simpa using h
  | cons x t =>
    cases c with
    | zero => rfl
    | succ c =>
      unfold Qu at h ⊢
      simpa [ge] using h
theorem ZlR {x : ByteArray} (h : Qu t = false) (h0 : 0 < t.length) : Qu (t ++ [x]) = false := by
  cases t with
  | nil => cases h0
  | cons y t =>
    unfold Qu at h ⊢
    simpa [ge] using h
theorem Zk3 (f : Fr) (M : List (ByteArray × Int)) (s : ByteArray) : (ZV f M s).tagged = false := by
  unfold ZV
  split
  · rfl
  split
  · rfl
  split <;> rfl
theorem Zjo (f : Fr) (M : List (ByteArray × Int)) (t : List ByteArray) (k : Nat) : (ge (t.map (ZV f M)) k).tagged = false := by
  simp only [ge, List.getD_eq_getElem?_getD, List.getElem?_map]
  cases t[k]? with
  | none => rfl
  | some s => exact Zk3 f M s
theorem Zbs {fs : List Fr} {vars : List ByteArray} {f : Fr} {M : List (ByteArray × Int)} (h : Qu t = false) (hl : t.length ≤ 2000) : Zat fs vars f M t = ZdD fs vars f (t.map (ZV f M)) :=
  ver_sk (Zjo f M t) (Zb5 h (by omega))
theorem ZgX : (Yo d z t).2 = XF d z := by unfold Yo; split <;> simp_all
theorem Zql {c : Nat} (ha : XF d z = 0) (h : Qu t = false) (hl : t.length ≤ 2000) (hc : c < t.length) (h1 : ¬ (Yo d z t).1.1 = 0) (h2 : (Yo d z t).1.2 < (c : Int)) : (Yo d z (t.take c)).1 = (Yo d z t).1 := by
  unfold Yo at h1 h2 ⊢
  rw [if_pos ha] at h1 h2
  rw [if_pos ha, if_pos ha]
  simp only at h1 h2 ⊢
  rw [Zbs h hl] at h1 h2 ⊢
  rw [Zbs (ZlQ h) (by rw [List.length_take]; omega), List.map_take]
  exact ZpO (by simpa using hc) h1 h2
theorem Zm5 (ha : XF d z = 0) (h : Qu t = false) (hl : t.length ≤ 1999) (h0 : 0 < t.length) (hy : 0 < (ge d.frames z.toNat).hyps.length) (h1 : (Yo d z t).1.1 = 0) : (Yo d z (t ++ [(ge (ge d.frames z.toNat).hyps 0).label])).1 = (23, ((t.length + 1 : Nat) : Int)) := by
  obtain ⟨hck, hz0, hz1⟩ := ZbW ha
  unfold Yo at h1 ⊢
  rw [if_pos ha] at h1 ⊢
  simp only at h1 ⊢
  rw [Zbs h (by omega)] at h1
  rw [Zbs (ZlR h h0) (by simp; omega), List.map_append, List.map_cons, List.map_nil]
  have hlab := Zlq (ZlV hck z.toNat (by omega)) (Zc (xs := (ge d.frames z.toNat).hyps) hy)
  have hsome : (Zcd (ge d.frames z.toNat) (ge (ge d.frames z.toNat).hyps 0).label).isSome = true := by
    unfold Zcd
    rw [List.find?_isSome]
    exact ⟨_, List.mem_append_left _ (Zc hy), by simp⟩
  have := Zmy (x := ZV (ge d.frames z.toNat) (Qj (d.frames.take z.toNat)) (ge (ge d.frames z.toNat).hyps 0).label) h1 (by rw [Zg4 (lab_q hlab) hsome])
  rw [this, List.length_map]
theorem cuts_c {q : Nat} (h : 0 < t.length) : ∃ c : Nat, ((q : Nat) : Int) % ((t.length : Nat) : Int) = (c : Int) ∧ c < t.length :=
  ⟨q % t.length, by simp, Nat.mod_lt _ h⟩
theorem Zrh (h : (((((!Zfo d 20 200) || decide ((200 : Int) < ((t.length : Nat) : Int))) || decide (((t.length : Nat) : Int) = (0 : Int))) || decide (ge t 0 = (⟨#[40]⟩ : ByteArray))) || t.any (fun s' => decide ((200 : Int) < ((s'.size : Nat) : Int)))) = false) :
    Zfo d 20 200 = true ∧ t.length ≤ 200 ∧ 0 < t.length ∧ Qu t = false ∧ ∀ s ∈ t, s.size ≤ 200 := by
  simp only [Bool.or_eq_false_iff, Bool.not_eq_false', decide_eq_false_iff_not, List.any_eq_false, decide_eq_true_eq] at h
  obtain ⟨⟨⟨⟨h1, h2⟩, h3⟩, h4⟩, h5⟩ := h
  refine ⟨h1, by omega, by omega, ?_, fun s hs => by have := h5 s hs; omega⟩
  unfold Qu
  simp [h4]
theorem Zbn {l : List ByteArray} (h : ∀ s ∈ l, s.size ≤ 200) (hl : l.length ≤ 201) : Zb0 l ≤ 1000000000 := by
  have h1 := sum_le h
  have h2 : l.length * 200 ≤ 201 * 200 := Nat.mul_le_mul_right 200 hl
  omega
theorem ZnV (ha : XF d z = 0) (hy : 0 < (ge d.frames z.toNat).hyps.length) : (ge (ge d.frames z.toNat).hyps 0).label.size ≤ 200 := by
  obtain ⟨hck, hz0, hz1⟩ := ZbW ha
  have hlab := Zlq (ZlV hck z.toNat (by omega)) (Zc (xs := (ge d.frames z.toNat).hyps) hy)
  simp only [Zcc, Bool.and_eq_true, decide_eq_true_eq] at hlab
  omega
theorem ZeQ (h : ∀ s ∈ t, s.size ≤ 200) (hl : t.length ≤ 200) {x : ByteArray} (hx : x.size ≤ 200) : Zb0 (t ++ [x]) ≤ 1000000000 :=
  Zbn (fun s hs => (List.mem_append.1 hs).elim (h s) fun h9 => by rw [List.mem_singleton.1 h9]; exact hx) (by simp; omega)
theorem Zis {c : Nat} (ha : XF d z = 0) (h : Qu t = false) (hl : t.length ≤ 200) (hc : c < t.length) :
    ((decide ((Yo d z t).1.1 = (0 : Int)) || decide ((c : Int) ≤ (Yo d z t).1.2)) || (decide ((Yo d z (t.take c)).1.1 = (Yo d z t).1.1) && decide ((Yo d z (t.take c)).1.2 = (Yo d z t).1.2))) = true := by
  by_cases h1 : (Yo d z t).1.1 = 0
  · simp [h1]
  by_cases h2 : (c : Int) ≤ (Yo d z t).1.2
  · simp [h2]
  rw [Zql ha h (by omega) hc h1 (by omega)]
  simp
end
end Go.Proofs.YtgifeodnngodiaaGreatDoor
set_option maxHeartbeats 8000000
set_option maxRecDepth 100000
namespace Go.Proofs.YtgifeodnngodiaaGreatDoor
open Go.RowKit
theorem ZrM : Zq Tryz.prog 12 := Zu Tryz.func12 rfl rfl
theorem Zhq : Zq Tryz.prog 13 := Zu Tryz.func13 rfl rfl
theorem ZgL : Tryz.prog.underlying 39 = some (.int .u16) := by kernel_rfl
theorem ZpN {J : World → Prop} (hJ : Stab J) (s : ByteArray)  : Fn Tryz.prog J 12 [.str s] (.bool (decide ((200 : Int) < (s.size : Int)))) := by
 refine Zx (N := 6) Tryz.func12 rfl rfl (lb rfl) fun S w0 hS hJ0 => ?_
 clear hJ0
 refine qs tb hJ [0] [_] [_] ?_
 refine hqs tb hJ [1003] [_,.int (s.size : Nat),_,_] [1] [_] rfl ⟨ZrY YB, trivial⟩ ?_
 exact Zi (rtn (m := 0) rfl rfl rfl)
theorem ZnB {J : World → Prop} (hJ : Stab J) (d : Db) (z : Int) (t : List ByteArray) (q : Nat) (hw : ∀ f ∈ d.frames, f.wide.length * 32 ≤ 140737488351232) (hG : QL J) (hq : q ≤ 65535) : Fn Tryz.prog J 4 [.agg (dbC d), .int z, .rd (Zb t), .rd (.lit (.int .u16 (q : Int)))] (.bool true) := by
 refine Zx (N := 121) Tryz.func4 rfl rfl (lb rfl) fun S w0 hS hJ0 => ?_
 refine tw Yn ?_
 refine ln 2 fun hl1 => ?_
 refine ZO tb hJ [1,2,3,1000] [.ptr (dbC d),_] [0] [_,_,_,_] rfl ⟨fun _ _ hk hx hl _ => YU rfl (hl.env 0 0 _ rfl rfl) (Zr hS _ hk hx _ (Nat.le_refl _)) (jo hJ hx), trivial⟩ ?_
 refine Zn (ZO tb hJ [0,1,2,3,1022] [_,.bool (Zfo d (20 : Int) (200 : Int)),_,_,_,.int (t.length : Nat),_,_,_,_,.int (t.length : Nat),_,_,_,_,.ptr [.lit (.string (ge t 0))],_,_,_,_,_,.bool (t.any (fun s' => decide ((200 : Int) < (s'.size : Int)))),_] [1,5,10,15,21] [_,_,_,_,_] rfl ⟨iFo hS hJ (ZpM hJ (d := d) (n := (20 : Int)) (m := (200 : Int)) ) call_7, Yz Zw, Yz Zw, gIx (k := 0) Zm (hk := fun (hc' : ((((!(Zfo d (20 : Int) (200 : Int))) || (decide ((200 : Int) < (t.length : Int)))) || (decide ((t.length : Int) = (0 : Int)))) == false) = true) => by (try simp at hc'); first | omega | (simp; omega) | grind [Zc]), fun _ _ hk hx hl hc => YS (Yl hJ (xs := t) (f := 12) (caps := []) (Os := []) (p := (fun s' => decide ((200 : Int) < (s'.size : Int)))) (fun q' => (ZpN hJ q').rr) (ZrM)) ZaR rfl (Zr hS _ hk hx) (hx.1) Zt (Za (hl.dep 20 36 _ rfl rfl rfl hc) (Za (Qc 12) Zd)) (jo hJ hx), trivial⟩ ?_)
 refine cj 4 (fun hb1 => ?_) fun hb1 => ?_
 refine ZO tb hJ [1001] [.bool true,_] [0] [_] rfl ⟨iFo hS hJ (Zem hJ  (by exact hG)) Zix, trivial⟩ ?_
 exact Zi (Qg (m := 0) rfl rfl rfl)
 obtain ⟨e1, e1a, e1b, e1c, e1d⟩ := Zrh hb1
 refine Zf (nx (tsq ?_))
 refine snK 3 tb rfl ?_
 refine sq (.tup [.agg (vdC ((Yo d z t).1)), .int ((Yo d z t).2)]) rfl rfl (lb rfl) (fun _ _ h => ZdE (Zg0 hJ (d := d) (z := z) (t := t) (by exact hw) (by exact hG) (by first | omega | (simp; omega)) (by first | exact Zbn e1d (by omega) | exact Zbn (fun s hs => e1d s (List.mem_of_mem_take hs)) (by simp; omega) | exact ZeQ e1d e1a h4c)) Zhq rfl (Zr hS _ h.keep h.x) (h.x.1) (Za (h.get 2 rfl) (Za (h.get 1 rfl) (Za (h.get 0 rfl) Zd))) (jo hJ h.x)) ?_
 refine snK 3 tb rfl ?_
 refine Qa (cs := vdC ((Yo d z t).1)) ZhE rfl rfl rfl (lb rfl) rfl rfl rfl (by decide) (m := 1) rfl rfl (fun a w h => Zr hS _ h.keep h.x _ (Nat.le_refl _)) (fun a w h w' hk' => Yp hJ _ _ hk' h.x) ?_
 refine snK 1 tb rfl ?_
 refine seK [0,1,9,10,11,12] [_,_,_,_,_,_] rfl ?_
 refine nx (Zn (qso tb hJ [1,2,3,4,5,1001] [_,_] [_,_,_,_,_,_] ?_))
 refine cj 5 (fun hb2 => ?_) fun hb2 => ?_
 try simp at hb2
 refine ZO tb hJ [1001] [.bool true,_] [0] [_] rfl ⟨iFo hS hJ (Zem hJ  (by exact hG)) Zix, trivial⟩ ?_
 exact Zi (Qg (m := 0) rfl rfl rfl)
 try simp at hb2
 have e2 : XF d z = 0 := by rw [← ZgX]; exact hb2
 obtain ⟨hck, hz0, hz1⟩ := ZbW e2
 obtain ⟨c, hc, hc2⟩ := cuts_c (q := q) e1b
 have hzz : (z.toNat : Int) = z := by omega
 refine tw (sa 1 rfl (show (.int z : AV) = .int (z.toNat : Nat) from congrArg AV.int (by omega))) ?_
 refine Zf (nx (Zn (Y6 tb hJ [0,1,2,4,1005] [_,.int (q : Nat),_,.int (t.length : Nat),.int ((q : Int) % (t.length : Int)),_] [1,3,4] [_,_,_,_,_] rfl ⟨fun _ _ _ hx hl _ => r_of16 (k := q) ZgL XU rfl (hl.dep 0 50 _ rfl rfl rfl rfl) (by first | omega | (simp; omega) | grind [Zc]) hx, Yz Zw, fun _ _ _ hx hl _ => r_rem rfl (hl.dep 1 51 _ rfl rfl rfl rfl) (hl.dep 3 53 _ rfl rfl rfl rfl) (by first | omega | (simp; omega) | grind [Zc]) (by first | omega | (simp; omega) | grind [Zc]) hx, trivial⟩ ?_)))
 refine kw (sa 4 rfl (show (.int ((q : Int) % (t.length : Int)) : AV) = .int (c : Nat) from congrArg AV.int hc)) ?_
 refine nx (Zn (fun a w h => YE (γ := Nat) (fun ix' => ([.agg (dbC d), .int (z.toNat : Nat), .rd (Zb t), .int (c : Nat), .rd (Zb (t.take c)), .tup [.agg (vdC ((Yo d (z.toNat : Int) (t.take c)).1)), .int ((Yo d (z.toNat : Int) (t.take c)).2)], .tup [.agg (vdC ((Yo d (z.toNat : Int) (t.take c)).1)), .int ((Yo d (z.toNat : Int) (t.take c)).2)], .agg (vdC ((Yo d (z.toNat : Int) (t.take c)).1)), .int ((Yo d (z.toNat : Int) (t.take c)).2), .any, .any, .int ((Yo d (z.toNat : Int) (t.take c)).2)] : List AV).getD ix' .any) (fun ix' => ([true, true, true, true, true, true, true, true, true, true, true, true] : List Bool).getD ix' true) [(9, fun (g : Nat) => .ptr (vdC ((Yo d z t).1))), (1, fun (g : Nat) => .int (z.toNat : Nat)), (2, fun (g : Nat) => .rd (Zb t)), (4, fun (g : Nat) => .ptr (dbC d)), (11, fun (g : Nat) => .int (c : Nat)), (12, fun (g : Nat) => .at g 0), (10, fun (g : Nat) => .int ((Yo d (z.toNat : Int) (t.take c)).2))] (fun (j' : Nat) (g : Nat) => match j' with | 0 => [] | 1 => [OB.var g [.lit (.int .i64 0), .lit (.int .i64 0)]] | _ => [OB.var g [.lit (.int .i64 (((Yo d (z.toNat : Int) (t.take c)).1).1)), .lit (.int .i64 (((Yo d (z.toNat : Int) (t.take c)).1).2))]]) (fun (k' : Nat) (g : Nat) => match k' with | 0 => (.pointer (some ⟨g, 0, none⟩)) | 1 => undef | _ => undef) [9, 10] 2 0 (fun _ => rfl) h hJ Yd rfl rfl rfl rfl rfl rfl (fun j' g hj p hp => by rcases j' with _ | _ | _ | j' <;> first | exact hp | exact List.mem_cons_of_mem _ hp | exact List.mem_cons_of_mem _ (List.mem_cons_of_mem _ hp) | (exfalso; omega)) ⟨?o7_1_0, ⟨?o7_1_1, ⟨?o7_1_2, ⟨?o7_1_3, ⟨?o7_1_4, ⟨?o7_1_5, ⟨?o7_1_6, ⟨?o7_1_7, ⟨?o7_1_8, ⟨?o7_1_9, ⟨?o7_1_10, ⟨?o7_1_11, trivial⟩⟩⟩⟩⟩⟩⟩⟩⟩⟩⟩⟩ ⟨?e7_1_0, ⟨?e7_1_1, trivial⟩⟩ ⟨.old 0 9 _ rfl rfl, ⟨.old 1 1 _ rfl rfl, ⟨.old 2 2 _ rfl rfl, ⟨.old 3 4 _ rfl rfl, ⟨.old 4 11 _ rfl rfl, ⟨.eff 0 9 12 (fun g => (.pointer (some ⟨g, 0, none⟩))) rfl rfl (fun _ => rfl) (fun _ => True.intro), ⟨.new 11 10 _ rfl rfl rfl, trivial⟩⟩⟩⟩⟩⟩⟩ ?n7_1))
 case o7_1_0 => exact fun _ O' _ => ⟨rfl, fun _ _ _ hx hl _ => Zab ZbY rfl (hl.env 3 4 _ rfl rfl) (Nat.le_refl _) hx⟩
 case o7_1_1 => exact fun _ O' _ => ⟨rfl, fun _ _ _ hx hl _ => Yb rfl (hl.env 1 1 _ rfl rfl) hx⟩
 case o7_1_2 => exact fun _ O' _ => ⟨rfl, fun _ _ _ hx hl _ => Yb rfl (hl.env 2 2 _ rfl rfl) hx⟩
 case o7_1_3 => exact fun _ O' _ => ⟨rfl, fun _ _ _ hx hl _ => Yb rfl (hl.env 4 11 _ rfl rfl) hx⟩
 case o7_1_4 => exact fun _ O' _ => ⟨rfl, fun _ _ _ hx hl _ => ZbE (ys := t.take c) (lo := 0) (hi := c) List.drop_zero Zm (fun _ => rfl) rfl (hl.dep 2 58 _ rfl rfl rfl rfl) rfl (hl.dep 3 59 _ rfl rfl rfl rfl) (by first | omega | (simp; omega) | grind [Zc]) (by first | omega | (simp; omega) | grind [Zc]) hx⟩
 case o7_1_5 => exact fun _ O' _ => ⟨rfl, fun _ _ hk hx hl _ => ZdE (Zg0 hJ (d := d) (z := (z.toNat : Int)) (t := (t.take c)) (by exact hw) (by exact hG) (by first | omega | (simp; omega)) (by first | exact Zbn e1d (by omega) | exact Zbn (fun s hs => e1d s (List.mem_of_mem_take hs)) (by simp; omega) | exact ZeQ e1d e1a h4c)) Zhq rfl (Zr hS _ hk hx) (hx.1) (Za (hl.dep 0 56 _ rfl rfl rfl rfl) (Za (hl.dep 1 57 _ rfl rfl rfl rfl) (Za (hl.dep 4 60 _ rfl rfl rfl rfl) Zd))) (jo hJ hx)⟩
 case o7_1_6 => exact fun _ O' _ => ⟨rfl, fun _ _ _ hx hl _ => Yb rfl (hl.dep 5 61 _ rfl rfl rfl rfl) hx⟩
 case o7_1_7 => exact fun _ O' _ => ⟨rfl, fun _ _ _ hx hl _ => Yr rfl (hl.dep 6 55 _ rfl rfl rfl rfl) rfl hx⟩
 case o7_1_8 => exact fun _ O' _ => ⟨rfl, fun _ _ _ hx hl _ => Yr rfl (hl.dep 6 55 _ rfl rfl rfl rfl) rfl hx⟩
 case o7_1_9 => exact Zk rfl
 case o7_1_10 => exact Zk rfl
 case o7_1_11 => exact fun _ O' _ => ⟨rfl, fun _ _ _ hx hl _ => Xe rfl (hl.dep 8 63 _ rfl rfl rfl rfl) hx⟩
 case e7_1_0 => exact ⟨_, rfl, rfl, rfl, rfl, fun g _ w hk hx _ _ => Zo (Zah Qf hJ rfl hk hx) fun v w' ⟨g', hv, hp⟩ => ⟨g', rfl, fun k' hk' => absurd hk' (Nat.not_lt_zero _), fun _ => hv, hp⟩⟩
 case e7_1_1 => exact ⟨_, rfl, rfl, rfl, rfl, fun g _ w hk hx hl hs => (by obtain ⟨us2, hv2, hr3⟩ := Qn (cs := [.lit (.int .i64 (((Yo d (z.toNat : Int) (t.take c)).1).1)), .lit (.int .i64 (((Yo d (z.toNat : Int) (t.take c)).1).2))]) (hl.dep 7 62 _ rfl rfl rfl rfl); exact Zo (Y4 (S' := S) (off := 0) (cs := [.lit (.int .i64 0), .lit (.int .i64 0)]) (news := [.lit (.int .i64 (((Yo d (z.toNat : Int) (t.take c)).1).1)), .lit (.int .i64 (((Yo d (z.toNat : Int) (t.take c)).1).2))]) (es := [.lit (.int .i64 (((Yo d (z.toNat : Int) (t.take c)).1).1)), .lit (.int .i64 (((Yo d (z.toNat : Int) (t.take c)).1).2))]) (us := us2) hJ hJ0 Xn rfl hk hx (ZbD (hs 0 9 _ 12 (by omega) rfl rfl rfl)) (by rw [hv2]; rfl) hr3 (lb rfl) rfl) fun v w' hp => ⟨g, rfl, fun _ _ => rfl, fun e => (by cases e), hp⟩)⟩
 clear a w h
 intro b1
 change ∀ a w, St All (SO S [OB.var b1 [.lit (.int .i64 (((Yo d (z.toNat : Int) (t.take c)).1).1)), .lit (.int .i64 (((Yo d (z.toNat : Int) (t.take c)).1).2))]]) w0 121 [(9, .ptr (vdC ((Yo d z t).1))), (1, .int (z.toNat : Nat)), (2, .rd (Zb t)), (4, .ptr (dbC d)), (11, .int (c : Nat)), (12, .at b1 0), (10, .int ((Yo d (z.toNat : Int) (t.take c)).2))] (XO J S w0.heap.size [OB.var b1 [.lit (.int .i64 (((Yo d (z.toNat : Int) (t.take c)).1).1)), .lit (.int .i64 (((Yo d (z.toNat : Int) (t.take c)).1).2))]]) a w → _
 refine kw (fun h => Yj hS h (m := 5) (s := 12) rfl) ?_
 refine nx (Zn (qso tb hJ [0,1,2,3,4,5,1001] [_,_] [_,_,_,_,_,_,_] ?_))
 refine cj 6 (fun hb3 => ?_) fun hb3 => ?_
 exact False.elim (by rw [hzz, ZgX, e2] at hb3; simp at hb3)
 refine Zf (nx (Zn (ZO tb hJ [0,1,2,3,4,5,1001,1005,1006] [_,_,_,.ptr (frC (ge d.frames z.toNat)),_,_,_] [3] [_,_,_,_,_,_,_,_,_] rfl ⟨iIx YI, trivial⟩ ?_)))
 refine ln 6 fun hl2 => ?_
 refine ln 7 fun hl3 => ?_
 refine ZO tb hJ [0,1,2,3,4,5,8,1007] [_,_,_,_,_,.int (((ge d.frames z.toNat).hyps).length : Nat),_,_] [5] [_,_,_,_,_,_,_,_] rfl ⟨Yz ZF, trivial⟩ ?_
 refine cj 7 (fun hb4 => ?_) fun hb4 => ?_
 have h4 : (Yo d z t).1.1 = 0 ∧ 0 < (ge d.frames z.toNat).hyps.length := by simpa using hb4
 have h4c := ZnV e2 h4.2
 refine Zn (fun a w h => ZhS (γ := Value × Value × Nat) (fun ix' => ([.agg (dbC d), .int (z.toNat : Nat), .rd (Zb t), .any, .rd (Xr ((ge d.frames z.toNat).hyps)), .ptr (hyC (ge ((ge d.frames z.toNat).hyps) 0)), .ptr (hyC (ge ((ge d.frames z.toNat).hyps) 0)), .str ((ge ((ge d.frames z.toNat).hyps) 0).label), .rd (Zb ([(ge ((ge d.frames z.toNat).hyps) 0).label])), .rd (Zb (t ++ ([(ge ((ge d.frames z.toNat).hyps) 0).label]))), .tup [.agg (vdC ((Yo d (z.toNat : Int) (t ++ ([(ge ((ge d.frames z.toNat).hyps) 0).label]))).1)), .int ((Yo d (z.toNat : Int) (t ++ ([(ge ((ge d.frames z.toNat).hyps) 0).label]))).2)], .tup [.agg (vdC ((Yo d (z.toNat : Int) (t ++ ([(ge ((ge d.frames z.toNat).hyps) 0).label]))).1)), .int ((Yo d (z.toNat : Int) (t ++ ([(ge ((ge d.frames z.toNat).hyps) 0).label]))).2)], .agg (vdC ((Yo d (z.toNat : Int) (t ++ ([(ge ((ge d.frames z.toNat).hyps) 0).label]))).1)), .int ((Yo d (z.toNat : Int) (t ++ ([(ge ((ge d.frames z.toNat).hyps) 0).label]))).2), .any, .any, .int ((Yo d (z.toNat : Int) (t ++ ([(ge ((ge d.frames z.toNat).hyps) 0).label]))).2)] : List AV).getD ix' .any) (fun _ => true) [(12, fun (g : Value × Value × Nat) => .ptr (vdC ((Yo d (z.toNat : Int) (t.take c)).1))), (9, fun (g : Value × Value × Nat) => .ptr (vdC ((Yo d z t).1))), (2, fun (g : Value × Value × Nat) => .rd (Zb t)), (11, fun (g : Value × Value × Nat) => .int (c : Nat)), (15, fun (g : Value × Value × Nat) => .int ((Yo d (z.toNat : Int) (t ++ ([(ge ((ge d.frames z.toNat).hyps) 0).label]))).2)), (14, fun (g : Value × Value × Nat) => .at g.2.2 0)] (fun (D : Nat → Bool) (g : Value × Value × Nat) => (if D 3 then [OB.var g.2.2 [.lit (.int .i64 (((Yo d (z.toNat : Int) (t ++ ([(ge ((ge d.frames z.toNat).hyps) 0).label]))).1).1)), .lit (.int .i64 (((Yo d (z.toNat : Int) (t ++ ([(ge ((ge d.frames z.toNat).hyps) 0).label]))).1).2))]] else if D 2 then [OB.var g.2.2 [.lit (.int .i64 0), .lit (.int .i64 0)]] else []) ++ ((if D 1 then [] else if D 0 then [OB.row g.1 9 1 (t.map QM)] else []) ++ [])) (fun (k' : Nat) (g : Value × Value × Nat) => match k' with | 0 => g.1 | 1 => g.2.1 | 2 => .pointer (some ⟨g.2.2, 0, none⟩) | _ => undef) [3, 9, 14, 15] (undef, undef, 0) (fun _ => rfl) h hJ Yd rfl rfl rfl rfl (fun D g p hp => List.mem_append_right _ (List.mem_append_right _ hp)) ⟨?o0, ⟨?o1, ⟨?o2, ⟨?o3, ⟨?o4, ⟨?o5, ⟨?o6, ⟨?o7, ⟨?o8, ⟨?o9, ⟨?o10, ⟨?o11, ⟨?o12, ⟨?o13, ⟨?o14, ⟨?o15, ⟨?o16, trivial⟩⟩⟩⟩⟩⟩⟩⟩⟩⟩⟩⟩⟩⟩⟩⟩⟩ ⟨?e0, ⟨?e1, ⟨?e2, ⟨?e3, trivial⟩⟩⟩⟩ ⟨.old 0 12 _ rfl rfl, ⟨.old 1 9 _ rfl rfl, ⟨.old 3 2 _ rfl rfl, ⟨.old 5 11 _ rfl rfl, ⟨.new 16 15 _ rfl rfl rfl, ⟨.eff 2 14 14 (fun (g : Value × Value × Nat) => .pointer (some ⟨g.2.2, 0, none⟩)) rfl rfl (fun _ => rfl) (fun _ => True.intro), trivial⟩⟩⟩⟩⟩⟩ ?n1)
 case o0 => exact fun _ O' _ => ⟨rfl, fun _ _ _ hx hl _ => Zab ZbY rfl (hl.env 4 4 _ rfl rfl) (Nat.le_refl _) hx⟩
 case o1 => exact fun _ O' _ => ⟨rfl, fun _ _ _ hx hl _ => Yb rfl (hl.env 2 1 _ rfl rfl) hx⟩
 case o2 => exact fun _ O' _ => ⟨rfl, fun _ _ _ hx hl _ => Yb rfl (hl.env 3 2 _ rfl rfl) hx⟩
 case o3 => exact Zk rfl
 case o4 => exact fun _ O' _ => ⟨rfl, fun _ _ _ hx hl _ => Yb rfl (hl.env 6 13 _ rfl rfl) hx⟩
 case o5 => exact fun _ O' _ => ⟨rfl, fun _ _ _ hx hl _ => Yg (i := ((0 : Nat) : Int)) ZH rfl (hl.dep 4 85 _ rfl rfl rfl rfl) (Rel.of_lit (Go.Value.int Go.IntKind.i64 0)) (Int.natCast_nonneg _) (Yt (xs := (ge d.frames z.toNat).hyps) (k := 0) (by first | omega | (simp; omega) | grind [Zc])) rfl hx⟩
 case o6 => exact fun _ O' _ => ⟨rfl, fun _ _ _ hx hl _ => ZR Q2 rfl (hl.dep 5 86 _ rfl rfl rfl rfl) hx⟩
 case o7 => exact fun _ O' _ => ⟨rfl, fun _ _ _ hx hl _ => Zy QN rfl (hl.dep 6 87 _ rfl rfl rfl rfl) hx⟩
 case o8 => exact fun _ O' _ => ⟨rfl, fun _ _ hk hx hl _ => Y1 Zm Zbq rfl (hl.dep 7 88 _ rfl rfl rfl rfl) (Zr hS _ hk hx _ (Nat.le_refl _)) (jo hJ hx)⟩
 case o9 => exact Zk rfl
 case o10 => exact fun _ O' _ => ⟨rfl, fun _ _ hk hx hl _ => ZdE (Zg0 hJ (d := d) (z := (z.toNat : Int)) (t := (t ++ ([(ge ((ge d.frames z.toNat).hyps) 0).label]))) (by exact hw) (by exact hG) (by first | omega | (simp; omega)) (by first | exact Zbn e1d (by omega) | exact Zbn (fun s hs => e1d s (List.mem_of_mem_take hs)) (by simp; omega) | exact ZeQ e1d e1a h4c)) Zhq rfl (Zr hS _ hk hx) (hx.1) (Za (hl.dep 0 81 _ rfl rfl rfl rfl) (Za (hl.dep 1 82 _ rfl rfl rfl rfl) (Za (hl.dep 9 90 _ rfl rfl rfl rfl) Zd))) (jo hJ hx)⟩
 case o11 => exact fun _ O' _ => ⟨rfl, fun _ _ _ hx hl _ => Yb rfl (hl.dep 10 91 _ rfl rfl rfl rfl) hx⟩
 case o12 => exact fun _ O' _ => ⟨rfl, fun _ _ _ hx hl _ => Yr rfl (hl.dep 11 80 _ rfl rfl rfl rfl) rfl hx⟩
 case o13 => exact fun _ O' _ => ⟨rfl, fun _ _ _ hx hl _ => Yr rfl (hl.dep 11 80 _ rfl rfl rfl rfl) rfl hx⟩
 case o14 => exact Zk rfl
 case o15 => exact Zk rfl
 case o16 => exact fun _ O' _ => ⟨rfl, fun _ _ _ hx hl _ => Xe rfl (hl.dep 13 93 _ rfl rfl rfl rfl) hx⟩
 case e0 =>
  refine ⟨_, rfl, rfl, rfl, fun D g a w hD hpre hcl hk hx hl hs => ?_⟩
  have d0 := hD
  have d1 : D 1 = false := by cases hq : D 1 with | false => rfl | true => exact absurd (hcl 1 0 9 3 rfl rfl hq (by decide)) (by simp [d0])
  have d3 : D 3 = false := by cases hq : D 3 with | false => rfl | true => exact absurd (hcl 3 0 15 3 rfl rfl hq (by decide)) (by simp [d0])
  rcases (Bool.eq_false_or_eq_true (D 2)).symm with d2 | d2
  simp only [Zev, d0, d1, d2, d3, if_true, if_false, Bool.false_eq_true, List.nil_append, Nat.reduceEqDiff, List.cons_append] at hx hl ⊢
  exact Zo (Zrf (O := []) (R := []) (ZcD hJ (xs := t) (by omega)) ZeY rfl hS hJ0 Zt hk hx (Za (hl.dep 2 83 _ rfl rfl rfl rfl) Zd)) fun v w' ⟨i, hp, hv⟩ => ⟨(i, g.2), (fun k' hk' => by rcases k' with _ | _ | _ | k' <;> first | rfl | simp_all), fun _ => hv.lit, by simp only [List.getD_eq_getElem?_getD, List.getElem?_cons_succ, List.getElem?_cons_zero, Option.getD_some, Rel], hp⟩
  simp only [Zev, d0, d1, d2, d3, if_true, if_false, Bool.false_eq_true, List.nil_append, Nat.reduceEqDiff, List.cons_append] at hx hl ⊢
  exact Zo (Zrf (O := []) (R := (OB.var g.2.2 [.lit (.int .i64 0), .lit (.int .i64 0)] :: [])) (ZcD hJ (xs := t) (by omega)) ZeY rfl hS hJ0 Zt hk hx (Za (hl.dep 2 83 _ rfl rfl rfl rfl) Zd)) fun v w' ⟨i, hp, hv⟩ => ⟨(i, g.2), (fun k' hk' => by rcases k' with _ | _ | _ | k' <;> first | rfl | simp_all), fun _ => hv.lit, by simp only [List.getD_eq_getElem?_getD, List.getElem?_cons_succ, List.getElem?_cons_zero, Option.getD_some, Rel], Zax (.refl _) (List.Perm.swap _ _ _) hp⟩
 case e1 =>
  refine ⟨_, rfl, rfl, rfl, fun D g a w hD hpre hcl hk hx hl hs => ?_⟩
  have d1 := hD
  have d0 : D 0 = true := hpre 0 3 rfl (by decide)
  have d3 : D 3 = false := by cases hq : D 3 with | false => rfl | true => exact absurd (hcl 3 1 15 9 rfl rfl hq (by decide)) (by simp [d1])
  rcases (Bool.eq_false_or_eq_true (D 2)).symm with d2 | d2
  simp only [Zev, d0, d1, d2, d3, if_true, if_false, Bool.false_eq_true, List.nil_append, Nat.reduceEqDiff, List.cons_append] at hx hl ⊢
  exact Zo (Zgj (f := QM) t ([(ge ((ge d.frames z.toNat).hyps) 0).label]) (fun _ => rfl) Xu hS hJ hJ0 rfl hk hx (hs 0 3 _ 84 d0 rfl rfl rfl) (hl.dep 8 89 _ rfl rfl rfl rfl) (by simp; omega) (by simp; omega)) fun v w' ⟨hr, hp⟩ => ⟨(g.1, v, g.2.2), (fun k' hk' => by rcases k' with _ | _ | _ | k' <;> first | rfl | simp_all), fun _ => rfl, hr, hp⟩
  simp only [Zev, d0, d1, d2, d3, if_true, if_false, Bool.false_eq_true, List.nil_append, Nat.reduceEqDiff, List.cons_append] at hx hl ⊢
  exact Zo (Zgj (f := QM) t ([(ge ((ge d.frames z.toNat).hyps) 0).label]) (fun _ => rfl) Xu hS hJ hJ0 rfl hk (Yf (List.Perm.swap _ _ _) hx) (hs 0 3 _ 84 d0 rfl rfl rfl) ((hl.dep 8 89 _ rfl rfl rfl rfl).sub fun _ _ hs => hs.perm (List.Perm.swap _ _ _)) (by simp; omega) (by simp; omega)) fun v w' ⟨hr, hp⟩ => ⟨(g.1, v, g.2.2), (fun k' hk' => by rcases k' with _ | _ | _ | k' <;> first | rfl | simp_all), fun _ => rfl, hr, Zax (List.Perm.swap _ _ _) (.refl _) hp⟩
 case e2 =>
  refine ⟨_, rfl, rfl, rfl, fun D g a w hD hpre hcl hk hx hl hs => ?_⟩
  have d2 := hD
  have d3 : D 3 = false := by cases hq : D 3 with | false => rfl | true => exact absurd (hcl 3 2 15 14 rfl rfl hq (by decide)) (by simp [d2])
  simp only [Zev, d2, d3, if_true, if_false, Bool.false_eq_true, List.nil_append, Nat.reduceEqDiff, List.cons_append] at hx hl ⊢
  exact Zo (Zah Qf hJ rfl hk hx) fun v w' ⟨b', hv, hp⟩ => ⟨(g.1, g.2.1, b'), (fun k' hk' => by rcases k' with _ | _ | _ | k' <;> first | rfl | simp_all), fun _ => hv, by simp only [List.getD_eq_getElem?_getD, List.getElem?_cons_succ, List.getElem?_cons_zero, Option.getD_some, Rel], hp⟩
 case e3 =>
  refine ⟨_, rfl, rfl, rfl, fun D g a w hD hpre hcl hk hx hl hs => ?_⟩
  have d3 := hD
  have d2 : D 2 = true := hpre 2 14 rfl (by decide)
  have d1 : D 1 = true := hpre 1 9 rfl (by decide)
  have d0 : D 0 = true := hpre 0 3 rfl (by decide)
  simp only [Zev, d0, d1, d2, d3, if_true, if_false, Bool.false_eq_true, List.nil_append, Nat.reduceEqDiff, List.cons_append] at hx hl ⊢
  obtain ⟨us2, hv2, hr3⟩ := Qn (cs := [.lit (.int .i64 (((Yo d (z.toNat : Int) (t ++ ([(ge ((ge d.frames z.toNat).hyps) 0).label]))).1).1)), .lit (.int .i64 (((Yo d (z.toNat : Int) (t ++ ([(ge ((ge d.frames z.toNat).hyps) 0).label]))).1).2))]) (hl.dep 12 92 _ rfl rfl rfl rfl)
  exact Zo (Y4 (S' := S) (off := 0) (cs := [.lit (.int .i64 0), .lit (.int .i64 0)]) (news := [.lit (.int .i64 (((Yo d (z.toNat : Int) (t ++ ([(ge ((ge d.frames z.toNat).hyps) 0).label]))).1).1)), .lit (.int .i64 (((Yo d (z.toNat : Int) (t ++ ([(ge ((ge d.frames z.toNat).hyps) 0).label]))).1).2))]) (es := [.lit (.int .i64 (((Yo d (z.toNat : Int) (t ++ ([(ge ((ge d.frames z.toNat).hyps) 0).label]))).1).1)), .lit (.int .i64 (((Yo d (z.toNat : Int) (t ++ ([(ge ((ge d.frames z.toNat).hyps) 0).label]))).1).2))]) (us := us2) hJ hJ0 Xn rfl hk hx (ZbD (hs 2 14 _ 14 d2 rfl rfl rfl)) (by rw [hv2]; rfl) hr3 (lb rfl) rfl) fun v w' hp => ⟨g, fun _ _ => rfl, fun e => (by cases e), by simp only [List.getD_eq_getElem?_getD, List.getElem?_cons_succ, List.getElem?_cons_zero, Option.getD_some, Rel], hp⟩
 clear a w h
 rintro ⟨_, _, b2⟩
 change ∀ a w, St All (SO S [OB.var b2 [.lit (.int .i64 (((Yo d (z.toNat : Int) (t ++ ([(ge ((ge d.frames z.toNat).hyps) 0).label]))).1).1)), .lit (.int .i64 (((Yo d (z.toNat : Int) (t ++ ([(ge ((ge d.frames z.toNat).hyps) 0).label]))).1).2))]]) w0 121 [(12, .ptr (vdC ((Yo d (z.toNat : Int) (t.take c)).1))), (9, .ptr (vdC ((Yo d z t).1))), (2, .rd (Zb t)), (11, .int (c : Nat)), (15, .int ((Yo d (z.toNat : Int) (t ++ ([(ge ((ge d.frames z.toNat).hyps) 0).label]))).2)), (14, .at b2 0)] (XO J S w0.heap.size [OB.var b2 [.lit (.int .i64 (((Yo d (z.toNat : Int) (t ++ ([(ge ((ge d.frames z.toNat).hyps) 0).label]))).1).1)), .lit (.int .i64 (((Yo d (z.toNat : Int) (t ++ ([(ge ((ge d.frames z.toNat).hyps) 0).label]))).1).2))]]) a w → _
 refine kw (fun h => Yj hS h (m := 5) (s := 14) rfl) ?_
 refine nx (ZO tb hJ [1,2,4,1009] [_,_,_,_,_,.int (t.length : Nat),.int (t.length + 1 : Nat),.agg (vdC (⟨(23 : Int), ((t.length + 1 : Nat) : Int)⟩ : Int × Int)),.bool (!(decide (((Yo d (z.toNat : Int) (t ++ ([(ge ((ge d.frames z.toNat).hyps) 0).label]))).1).1 = (⟨(23 : Int), ((t.length + 1 : Nat) : Int)⟩ : Int × Int).1) && decide (((Yo d (z.toNat : Int) (t ++ ([(ge ((ge d.frames z.toNat).hyps) 0).label]))).1).2 = (⟨(23 : Int), ((t.length + 1 : Nat) : Int)⟩ : Int × Int).2))),_] [5,6,7,8] [_,_,_,_] rfl ⟨Yz Zw, fun _ _ _ hx hl hc => ZeD (i := (t.length : Int)) (j := (1 : Int)) rfl (hl.dep 5 99 _ rfl rfl rfl hc) (Rel.of_lit (Go.Value.int Go.IntKind.i64 1)) (by have hc' : ((!decide ((Yo d (z.toNat : Int) (t ++ ([(ge ((ge d.frames z.toNat).hyps) 0).label]))).2 = (0 : Int))) == false) = true := hc; (try simp at hc'); (first | omega | (simp; omega) | grind [Zc])) (by have hc' : ((!decide ((Yo d (z.toNat : Int) (t ++ ([(ge ((ge d.frames z.toNat).hyps) 0).label]))).2 = (0 : Int))) == false) = true := hc; (try simp at hc'); (first | omega | (simp; omega) | grind [Zc])) hx, fun a _ _ hx hl hc => XX (us := [a.eval (Go.Operand.const (Go.Value.int Go.IntKind.i64 23)), a.eval (Go.Operand.tmp 100)]) Za6 rfl (by simp) (Zj (Rel.of_lit (Go.Value.int Go.IntKind.i64 23)) (Zj (hl.dep 6 100 _ rfl rfl rfl hc) ZI)) rfl hx, fun _ _ _ hx hl hc => Zpb eqVd rfl (hl.dep 3 97 _ rfl rfl rfl hc) (hl.dep 7 101 _ rfl rfl rfl hc) hx, trivial⟩ ?_)
 refine cj 3 (fun hb5 => ?_) fun hb5 => ?_
 exact False.elim (by have e6 := Zm5 e2 e1c (by omega) e1b h4.2 h4.1; rw [hzz, ZgX, e2, e6] at hb5; simp at hb5)
 refine Zf (nx (ZO tb hJ [1017] [_,_,_,_,_,_,_,_,_,_,_,_,.bool (decide (((Yo d (z.toNat : Int) (t.take c)).1).1 = ((Yo d z t).1).1) && decide (((Yo d (z.toNat : Int) (t.take c)).1).2 = ((Yo d z t).1).2)),_,_,.bool true,_,_] [12,15] [_] rfl ⟨fun _ _ _ hx hl hc => Zpd eqVd rfl (hl.dep 10 114 _ rfl rfl rfl hc) (hl.dep 11 115 _ rfl rfl rfl hc) hx, fun _ _ hk hx _ hc => ZdE (Zem hJ  (by have hc' : ((((decide (((Yo d z t).1).1 = (0 : Int))) || (decide ((c : Int) ≤ ((Yo d z t).1).2))) || (decide (((Yo d (z.toNat : Int) (t.take c)).1).1 = ((Yo d z t).1).1) && decide (((Yo d (z.toNat : Int) (t.take c)).1).2 = ((Yo d z t).1).2))) == true) = true := hc; (try simp at hc'); (exact hG))) Zix rfl (Zr hS _ hk hx) (hx.1) Zd (jo hJ hx), trivial⟩ ?_))
 exact Zi (Qg (m := 0) rfl rfl (eB (by rw [hzz]; simpa using Zis e2 e1c e1a hc2)))
 refine Zf (nx (ZO tb hJ [1017] [_,_,_,_,_,_,_,_,_,_,_,_,.bool (decide (((Yo d (z.toNat : Int) (t.take c)).1).1 = ((Yo d z t).1).1) && decide (((Yo d (z.toNat : Int) (t.take c)).1).2 = ((Yo d z t).1).2)),_,_,.bool true,_,_] [12,15] [_] rfl ⟨fun _ _ _ hx hl hc => Zpd eqVd rfl (hl.dep 10 114 _ rfl rfl rfl hc) (hl.dep 11 115 _ rfl rfl rfl hc) hx, fun _ _ hk hx _ hc => ZdE (Zem hJ  (by have hc' : ((((decide (((Yo d z t).1).1 = (0 : Int))) || (decide ((c : Int) ≤ ((Yo d z t).1).2))) || (decide (((Yo d (z.toNat : Int) (t.take c)).1).1 = ((Yo d z t).1).1) && decide (((Yo d (z.toNat : Int) (t.take c)).1).2 = ((Yo d z t).1).2))) == true) = true := hc; (try simp at hc'); (exact hG))) Zix rfl (Zr hS _ hk hx) (hx.1) Zd (jo hJ hx), trivial⟩ ?_))
 exact Zi (Qg (m := 0) rfl rfl (eB (by rw [hzz]; simpa using Zis e2 e1c e1a hc2)))
end Go.Proofs.YtgifeodnngodiaaGreatDoor
