/-
  CONTRACTS of the program: a frame.
  PLAIN LAW: what the program knows of a database and what the reference computes anew.
  PLAIN LAW: the program's check of a database is the reference's.
  CONTRACTS of the program: the check of a database.
-/
import Derived.Test.YtnpgmdffjemnbaaGreatDoorJS
set_option maxHeartbeats 8000000
set_option maxRecDepth 100000
namespace Go.Proofs.YtnpgmdffjemnbaaGreatDoor
open Go.RowKit

theorem Znw {J : World → Prop} (hJ : Stab J) (M1 : Nat) (M2 : Nat) (M3 : Nat) (M4 : Nat) (M5 : Nat) (cs : List ByteArray) (vs : List ByteArray) (fs : List ByteArray) (hm : List (ByteArray × Hy)) (tm : List (ByteArray × ByteArray)) (f : Fr) (bf : List Hy) (hw : f.wide.length * 32 ≤ 140737488351232) (hG : X5 J) : FnM (ι := { q' : List ByteArray × List (ByteArray × Hy) × List (ByteArray × ByteArray) // Y7 cs vs fs hm tm f bf = 0 → q'.1 = Z5 fs f.label ∧ q'.2.1 = hmK hm (alH f) ∧ ∀ k', Zq q'.2.2 k' = if (Zq (tsK (alH f)) k').isSome then Zq (tsK (alH f)) k' else Zq tm k' }) Tryz.prog J 76 [] [.ptr [.lit (.map (some M1)), .lit (.map (some M2)), .lit (.map (some M3)), .lit (.map (some M4)), .lit (.map (some M5))], .agg (frC f), .rd (Z4 bf)] [OB.set keyS M1 cs, OB.set keyS M2 vs, OB.set keyS M3 fs, OB.map keyS (fun z' : Hy => AV.agg (hyC z')) M4 hm, OB.map keyS (fun z' : ByteArray => AV.str z') M5 tm] (fun _ => .int (Y7 cs vs fs hm tm f bf)) (fun i' => [OB.set keyS M1 cs, OB.set keyS M2 vs, OB.set keyS M3 (i'.1.1), OB.map keyS (fun z' : Hy => AV.agg (hyC z')) M4 (i'.1.2.1), OB.map keyS (fun z' : ByteArray => AV.str z') M5 (i'.1.2.2)]) := by
 refine YK (N := 183) Tryz.func76 rfl rfl (lb rfl) fun S w0 R hS hJ0 hH => ?_
 refine XA (B := St All (SO S (OB.set keyS M1 cs :: OB.set keyS M2 vs :: OB.set keyS M3 fs :: OB.map keyS (fun z' : Hy => AV.agg (hyC z')) M4 hm :: OB.map keyS (fun z' : ByteArray => AV.str z') M5 tm :: R)) w0 183 [(0, .ptr [.lit (.map (some M1)), .lit (.map (some M2)), .lit (.map (some M3)), .lit (.map (some M4)), .lit (.map (some M5))]), (1, .agg (frC f)), (2, .rd (Z4 bf))] (XO J S w0.heap.size (OB.set keyS M1 cs :: OB.set keyS M2 vs :: OB.set keyS M3 fs :: OB.map keyS (fun z' : Hy => AV.agg (hyC z')) M4 hm :: OB.map keyS (fun z' : ByteArray => AV.str z') M5 tm :: R))) ?_ fun a w h => h
 refine Zf (fun a w h => Zj h 2 rfl) fun hl1 => Zf (fun a w h => Zls (h.get 1 rfl)) fun hsm => ?_
 refine Za (rgo tb hJ [2, 1000, 1001] [_, _, _] [0, 1] [(_, _), (_, .ptr [.ptr [.lit (.map (some M1)), .lit (.map (some M2)), .lit (.map (some M3)), .lit (.map (some M4)), .lit (.map (some M5))]]), (_, .ptr (frC f))] rfl rfl rfl rfl ⟨fun _ _ hk hx hl _ => ZiQ rfl (hl.env 0 0 _ rfl rfl) (Zr hS _ hk hx _ (Nat.le_refl _)) (jo hJ hx), fun _ _ hk hx hl _ => Yv rfl (hl.env 1 1 _ rfl rfl) (Zr hS _ hk hx _ (Nat.le_refl _)) (jo hJ hx), trivial⟩ (nx (Za (Za (rgo tb hJ [0, 1, 2, 1003] [_, _, .bool (Q8 f.label), _] [2] [(_, _), (_, _), (_, _), (_, .bool (!(Q8 f.label)))] rfl rfl rfl rfl ⟨hFo hS hJ (Zci hJ (s := f.label) ) Zf4 rfl rfl rfl rfl, trivial⟩ (nx (tc 3 rfl rfl (fun hb1 => ?_) (fun hb1 => ?_))))))))
 have e9 : Y7 cs vs fs hm tm f bf = 2 := by rw [Y7, if_pos hb1]
 refine Za (rgo tb hJ [1000] [_] [] [(_, .int (2 : Int))] rfl rfl rfl rfl trivial (nx ?_))
 refine tw (ob2 (congrArg (fun z' => OB.set keyS M3 (z')) (show fs = ((⟨(fs, hm, tm), by first | (intro h9; rw [e9] at h9; exact absurd h9 (by first | decide | exact nz)) | (intro _; exact ⟨rfl, by rw [f2_2, Zp (by omega)], fun k' => by rw [NOGHOST.2 k', e3]⟩)⟩ : { q' : List ByteArray × List (ByteArray × Hy) × List (ByteArray × ByteArray) // Y7 cs vs fs hm tm f bf = 0 → q'.1 = Z5 fs f.label ∧ q'.2.1 = hmK hm (alH f) ∧ ∀ k', Zq q'.2.2 k' = if (Zq (tsK (alH f)) k').isSome then Zq (tsK (alH f)) k' else Zq tm k' }).1.1) from rfl))) ?_
 refine tw (ob3 (congrArg (fun z' => OB.map keyS (fun z' : Hy => AV.agg (hyC z')) M4 (z')) (show hm = ((⟨(fs, hm, tm), by first | (intro h9; rw [e9] at h9; exact absurd h9 (by first | decide | exact nz)) | (intro _; exact ⟨rfl, by rw [f2_2, Zp (by omega)], fun k' => by rw [NOGHOST.2 k', e3]⟩)⟩ : { q' : List ByteArray × List (ByteArray × Hy) × List (ByteArray × ByteArray) // Y7 cs vs fs hm tm f bf = 0 → q'.1 = Z5 fs f.label ∧ q'.2.1 = hmK hm (alH f) ∧ ∀ k', Zq q'.2.2 k' = if (Zq (tsK (alH f)) k').isSome then Zq (tsK (alH f)) k' else Zq tm k' }).1.2.1) from rfl))) ?_
 refine tw (ob4 (congrArg (fun z' => OB.map keyS (fun z' : ByteArray => AV.str z') M5 (z')) (show tm = ((⟨(fs, hm, tm), by first | (intro h9; rw [e9] at h9; exact absurd h9 (by first | decide | exact nz)) | (intro _; exact ⟨rfl, by rw [f2_2, Zp (by omega)], fun k' => by rw [NOGHOST.2 k', e3]⟩)⟩ : { q' : List ByteArray × List (ByteArray × Hy) × List (ByteArray × ByteArray) // Y7 cs vs fs hm tm f bf = 0 → q'.1 = Z5 fs f.label ∧ q'.2.1 = hmK hm (alH f) ∧ ∀ k', Zq q'.2.2 k' = if (Zq (tsK (alH f)) k').isSome then Zq (tsK (alH f)) k' else Zq tm k' }).1.2.2) from rfl))) ?_
 refine Zi (fun a w h => Yh  (m := 0) (⟨(fs, hm, tm), by first | (intro h9; rw [e9] at h9; exact absurd h9 (by first | decide | exact nz)) | (intro _; exact ⟨rfl, by rw [f2_2, Zp (by omega)], fun k' => by rw [NOGHOST.2 k', e3]⟩)⟩ : { q' : List ByteArray × List (ByteArray × Hy) × List (ByteArray × ByteArray) // Y7 cs vs fs hm tm f bf = 0 → q'.1 = Z5 fs f.label ∧ q'.2.1 = hmK hm (alH f) ∧ ∀ k', Zq q'.2.2 k' = if (Zq (tsK (alH f)) k').isSome then Zq (tsK (alH f)) k' else Zq tm k' }) rfl h rfl (congrArg AV.int (show (2 : Int) = (Y7 cs vs fs hm tm f bf) from e9.symm)))
 refine Zd (nx (Za (Za ?_)))
 refine fun a w h => Xo (γ := Nat) (fun ix' => ([.ptr [.lit (.map (some M1)), .lit (.map (some M2)), .lit (.map (some M3)), .lit (.map (some M4)), .lit (.map (some M5))], .ptr [.lit (.map (some M1)), .lit (.map (some M2)), .lit (.map (some M3)), .lit (.map (some M4)), .lit (.map (some M5))], .ptr [.lit (.map (some M4)), .lit (.map (some M5))], .lit (.map (some M4)), .ptr (frC f), .str f.label, .tup [.agg (hyC ((Zq hm f.label).getD default)), .bool ((Zq hm f.label).isSome)], .tup [.agg (hyC ((Zq hm f.label).getD default)), .bool ((Zq hm f.label).isSome)], .agg (hyC ((Zq hm f.label).getD default)), .bool ((Zq hm f.label).isSome), .any, .any, .bool ((Zq hm f.label).isSome)] : List AV).getD ix' .any) (fun ix' => ([true, true, true, true, true, true, true, true, true, true, true, true, true] : List Bool).getD ix' true) [(2, fun (g : Nat) => .rd (Z4 bf)), (3, fun (g : Nat) => .ptr [.ptr [.lit (.map (some M1)), .lit (.map (some M2)), .lit (.map (some M3)), .lit (.map (some M4)), .lit (.map (some M5))]]), (4, fun (g : Nat) => .ptr (frC f)), (8, fun (g : Nat) => .bool ((Zq hm f.label).isSome))] (fun (j' : Nat) (g : Nat) => match j' with | 0 => (OB.set keyS M1 cs :: OB.set keyS M2 vs :: OB.set keyS M3 fs :: OB.map keyS (fun z' : Hy => AV.agg (hyC z')) M4 hm :: OB.map keyS (fun z' : ByteArray => AV.str z') M5 tm :: R) | 1 => (OB.var g [.lit (.string (⟨#[]⟩ : ByteArray)), .lit (.bool false), Zg ([] : List ByteArray)] :: OB.set keyS M1 cs :: OB.set keyS M2 vs :: OB.set keyS M3 fs :: OB.map keyS (fun z' : Hy => AV.agg (hyC z')) M4 hm :: OB.map keyS (fun z' : ByteArray => AV.str z') M5 tm :: R) | _ => (OB.var g [.lit (.string (((Zq hm f.label).getD default).label)), .lit (.bool (((Zq hm f.label).getD default).floating)), Zg (((Zq hm f.label).getD default).text)] :: OB.set keyS M1 cs :: OB.set keyS M2 vs :: OB.set keyS M3 fs :: OB.map keyS (fun z' : Hy => AV.agg (hyC z')) M4 hm :: OB.map keyS (fun z' : ByteArray => AV.str z') M5 tm :: R)) (fun (k' : Nat) (g : Nat) => match k' with | 0 => (.pointer (some ⟨g, 0, none⟩)) | 1 => undef | _ => undef) [10, 11] 2 0 (fun _ => rfl) h hJ Y0 rfl rfl rfl rfl rfl rfl (fun j' g hj p hp => by rcases j' with _ | _ | _ | j' <;> first | exact hp | exact List.mem_cons_of_mem _ hp | exact List.mem_cons_of_mem _ (List.mem_cons_of_mem _ hp) | (exfalso; omega)) ⟨?o3_1_0, ⟨?o3_1_1, ⟨?o3_1_2, ⟨?o3_1_3, ⟨?o3_1_4, ⟨?o3_1_5, ⟨?o3_1_6, ⟨?o3_1_7, ⟨?o3_1_8, ⟨?o3_1_9, ⟨?o3_1_10, ⟨?o3_1_11, ⟨?o3_1_12, trivial⟩⟩⟩⟩⟩⟩⟩⟩⟩⟩⟩⟩⟩ ⟨?e3_1_0, ⟨?e3_1_1, trivial⟩⟩ ⟨.old 0 2 _ rfl rfl, ⟨.old 1 3 _ rfl rfl, ⟨.old 2 4 _ rfl rfl, ⟨.new 12 8 _ rfl rfl rfl, trivial⟩⟩⟩⟩ ?n3_1
 case o3_1_0 => exact fun _ O' _ => ⟨rfl, fun _ _ _ hx hl _ => ZaT ZeP rfl (hl.env 1 3 _ rfl rfl) hx⟩
 case o3_1_1 => exact fun _ O' _ => ⟨rfl, fun _ _ _ hx hl _ => YO rfl (hl.dep 0 24 _ rfl rfl rfl rfl) hx⟩
 case o3_1_2 => exact fun _ O' _ => ⟨rfl, fun _ _ _ hx hl _ => Ym Qg rfl (hl.dep 1 25 _ rfl rfl rfl rfl) hx⟩
 case o3_1_3 => exact fun _ O' _ => ⟨rfl, fun _ _ _ hx hl _ => Ya Zcm rfl (hl.dep 2 26 _ rfl rfl rfl rfl) hx⟩
 case o3_1_4 => exact fun _ O' _ => ⟨rfl, fun _ _ _ hx hl _ => Ym Zdu rfl (hl.env 2 4 _ rfl rfl) hx⟩
 case o3_1_5 => exact fun _ O' _ => ⟨rfl, fun _ _ _ hx hl _ => Ya ZdO rfl (hl.dep 4 28 _ rfl rfl rfl rfl) hx⟩
 case o3_1_6 => exact fun _ O' hO' => ⟨rfl, fun _ _ _ hx hl _ => Xg (Kd := keyS) (f := (fun z' : Hy => AV.agg (hyC z'))) (L := hm) Xk Qn f.label rfl (ZA hx (hO' _ (mo 3 rfl))) (hl.dep 3 27 _ rfl rfl rfl rfl) (hl.dep 5 29 _ rfl rfl rfl rfl) hx⟩
 case o3_1_7 => exact fun _ O' _ => ⟨rfl, fun _ _ _ hx hl _ => Yj rfl (hl.dep 6 30 _ rfl rfl rfl rfl) hx⟩
 case o3_1_8 => exact fun _ O' _ => ⟨rfl, fun _ _ _ hx hl _ => Xh rfl (hl.dep 7 23 _ rfl rfl rfl rfl) rfl hx⟩
 case o3_1_9 => exact fun _ O' _ => ⟨rfl, fun _ _ _ hx hl _ => Xh rfl (hl.dep 7 23 _ rfl rfl rfl rfl) rfl hx⟩
 case o3_1_10 => exact Zs rfl
 case o3_1_11 => exact Zs rfl
 case o3_1_12 => exact fun _ O' _ => ⟨rfl, fun _ _ _ hx hl _ => QH rfl (hl.dep 9 32 _ rfl rfl rfl rfl) hx⟩
 case e3_1_0 => exact ⟨_, rfl, rfl, rfl, rfl, fun g _ w hk hx _ _ => ZJ (Zd0 Xv hJ rfl hk hx) fun v w' ⟨g', hv, hp⟩ => ⟨g', rfl, fun k' hk' => absurd hk' (Nat.not_lt_zero _), fun _ => hv, hp⟩⟩
 case e3_1_1 => exact ⟨_, rfl, rfl, rfl, rfl, fun g _ w hk hx hl hs => (by obtain ⟨us2, hv2, hr3⟩ := Zcf (cs := [.lit (.string (((Zq hm f.label).getD default).label)), .lit (.bool (((Zq hm f.label).getD default).floating)), Zg (((Zq hm f.label).getD default).text)]) (hl.dep 8 31 _ rfl rfl rfl rfl); exact ZJ (QQ (S' := S) (off := 0) (cs := [.lit (.string (⟨#[]⟩ : ByteArray)), .lit (.bool false), Zg ([] : List ByteArray)]) (news := [.lit (.string (((Zq hm f.label).getD default).label)), .lit (.bool (((Zq hm f.label).getD default).floating)), Zg (((Zq hm f.label).getD default).text)]) (es := [.lit (.string (((Zq hm f.label).getD default).label)), .lit (.bool (((Zq hm f.label).getD default).floating)), Zg (((Zq hm f.label).getD default).text)]) (us := us2) hJ hJ0 XN rfl hk hx (Zgv (hs 0 10 _ 7 (by omega) rfl rfl rfl)) (by rw [hv2]; rfl) hr3 (lb rfl) rfl) fun v w' hp => ⟨g, rfl, fun _ _ => rfl, fun e => (by cases e), hp⟩)⟩
 clear a w h
 intro b1
 change ∀ a w, St All (SO S (OB.var b1 [.lit (.string (((Zq hm f.label).getD default).label)), .lit (.bool (((Zq hm f.label).getD default).floating)), Zg (((Zq hm f.label).getD default).text)] :: OB.set keyS M1 cs :: OB.set keyS M2 vs :: OB.set keyS M3 fs :: OB.map keyS (fun z' : Hy => AV.agg (hyC z')) M4 hm :: OB.map keyS (fun z' : ByteArray => AV.str z') M5 tm :: R)) w0 183 [(2, .rd (Z4 bf)), (3, .ptr [.ptr [.lit (.map (some M1)), .lit (.map (some M2)), .lit (.map (some M3)), .lit (.map (some M4)), .lit (.map (some M5))]]), (4, .ptr (frC f)), (8, .bool ((Zq hm f.label).isSome))] (XO J S w0.heap.size (OB.var b1 [.lit (.string (((Zq hm f.label).getD default).label)), .lit (.bool (((Zq hm f.label).getD default).floating)), Zg (((Zq hm f.label).getD default).text)] :: OB.set keyS M1 cs :: OB.set keyS M2 vs :: OB.set keyS M3 fs :: OB.map keyS (fun z' : Hy => AV.agg (hyC z')) M4 hm :: OB.map keyS (fun z' : ByteArray => AV.str z') M5 tm :: R)) a w → _
 refine kw Yt ?_
 refine nx (Za (rgo tb hJ [0, 1, 2, 1015] [_, _, _, _, _, .bool (decide (f.label ∈ cs) || decide (f.label ∈ vs)), _, _, _, _, _, _, _, _, .bool (decide (f.label ∈ fs)), _] [5, 14] [(_, _), (_, _), (_, _), (_, .bool ((((Zq hm f.label).isSome) || (decide (f.label ∈ cs) || decide (f.label ∈ vs))) || (decide (f.label ∈ fs))))] rfl rfl rfl rfl ⟨fun _ _ hk hx hl hc => X1 (Zaj hJ (M1 := M1) (M2 := M2) (M3 := M3) (M4 := M4) (M5 := M5) (cs := cs) (vs := vs) (s := f.label) ) Zd5 rfl (Zr hS _ hk hx) (hx.1) (Z0 (ZA hx (mo 0 rfl)) (Z0 (ZA hx (mo 1 rfl)) ZP)) (Zc (hl.dep 2 35 _ rfl rfl rfl hc) (Zc (hl.dep 4 37 _ rfl rfl rfl hc) Zm)) (jo hJ hx), fun _ _ _ hx hl hc => Yo (Kd := keyS) (xs := fs) ZU ZY f.label rfl (ZA hx (mo 2 rfl)) (hl.dep 11 44 _ rfl rfl rfl hc) (hl.dep 13 46 _ rfl rfl rfl hc) hx, trivial⟩ (nx (tc 3 rfl rfl (fun hb2 => ?_) (fun hb2 => ?_)))))
 have e9 : Y7 cs vs fs hm tm f bf = 6 := by rw [Y7, if_neg (by rw [hb1]; decide), if_pos hb2]
 refine Za (rgo tb hJ [1000] [_] [] [(_, .int (6 : Int))] rfl rfl rfl rfl trivial (nx ?_))
 refine tw (ob2 (congrArg (fun z' => OB.set keyS M3 (z')) (show fs = ((⟨(fs, hm, tm), by first | (intro h9; rw [e9] at h9; exact absurd h9 (by first | decide | exact nz)) | (intro _; exact ⟨rfl, by rw [f2_2, Zp (by omega)], fun k' => by rw [NOGHOST.2 k', e3]⟩)⟩ : { q' : List ByteArray × List (ByteArray × Hy) × List (ByteArray × ByteArray) // Y7 cs vs fs hm tm f bf = 0 → q'.1 = Z5 fs f.label ∧ q'.2.1 = hmK hm (alH f) ∧ ∀ k', Zq q'.2.2 k' = if (Zq (tsK (alH f)) k').isSome then Zq (tsK (alH f)) k' else Zq tm k' }).1.1) from rfl))) ?_
 refine tw (ob3 (congrArg (fun z' => OB.map keyS (fun z' : Hy => AV.agg (hyC z')) M4 (z')) (show hm = ((⟨(fs, hm, tm), by first | (intro h9; rw [e9] at h9; exact absurd h9 (by first | decide | exact nz)) | (intro _; exact ⟨rfl, by rw [f2_2, Zp (by omega)], fun k' => by rw [NOGHOST.2 k', e3]⟩)⟩ : { q' : List ByteArray × List (ByteArray × Hy) × List (ByteArray × ByteArray) // Y7 cs vs fs hm tm f bf = 0 → q'.1 = Z5 fs f.label ∧ q'.2.1 = hmK hm (alH f) ∧ ∀ k', Zq q'.2.2 k' = if (Zq (tsK (alH f)) k').isSome then Zq (tsK (alH f)) k' else Zq tm k' }).1.2.1) from rfl))) ?_
 refine tw (ob4 (congrArg (fun z' => OB.map keyS (fun z' : ByteArray => AV.str z') M5 (z')) (show tm = ((⟨(fs, hm, tm), by first | (intro h9; rw [e9] at h9; exact absurd h9 (by first | decide | exact nz)) | (intro _; exact ⟨rfl, by rw [f2_2, Zp (by omega)], fun k' => by rw [NOGHOST.2 k', e3]⟩)⟩ : { q' : List ByteArray × List (ByteArray × Hy) × List (ByteArray × ByteArray) // Y7 cs vs fs hm tm f bf = 0 → q'.1 = Z5 fs f.label ∧ q'.2.1 = hmK hm (alH f) ∧ ∀ k', Zq q'.2.2 k' = if (Zq (tsK (alH f)) k').isSome then Zq (tsK (alH f)) k' else Zq tm k' }).1.2.2) from rfl))) ?_
 refine Zi (fun a w h => Yh  (m := 0) (⟨(fs, hm, tm), by first | (intro h9; rw [e9] at h9; exact absurd h9 (by first | decide | exact nz)) | (intro _; exact ⟨rfl, by rw [f2_2, Zp (by omega)], fun k' => by rw [NOGHOST.2 k', e3]⟩)⟩ : { q' : List ByteArray × List (ByteArray × Hy) × List (ByteArray × ByteArray) // Y7 cs vs fs hm tm f bf = 0 → q'.1 = Z5 fs f.label ∧ q'.2.1 = hmK hm (alH f) ∧ ∀ k', Zq q'.2.2 k' = if (Zq (tsK (alH f)) k').isSome then Zq (tsK (alH f)) k' else Zq tm k' }) rfl h rfl (congrArg AV.int (show (6 : Int) = (Y7 cs vs fs hm tm f bf) from e9.symm)))
 refine Zd (nx (Za (Za (rgo tb hJ [0, 1, 2, 1001, 1009] [_, _, .int f.hyps.length, _, _, _, _, .int f.dummies.length, _, _] [2, 7] [(_, _), (_, _), (_, _), (_, .rd (Z4 f.hyps)), (_, .bool ((decide ((40 : Int) < (f.hyps.length : Int))) || (decide ((40 : Int) < (f.dummies.length : Int)))))] rfl rfl rfl rfl ⟨Ys ZC rfl rfl rfl rfl, fun _ _ _ hx hl hc => Yy ZC rfl (hl.dep 6 55 _ rfl rfl rfl hc) hx, trivial⟩ (nx (Zf (fun a w h => Zj h 3 rfl) fun hl2 => tc 4 rfl rfl (fun hb3 => ?_) (fun hb3 => ?_)))))))
 have e9 : Y7 cs vs fs hm tm f bf = 4 := by rw [Y7, if_neg (by rw [hb1]; decide), if_neg (by rw [hb2]; decide), if_pos hb3]
 refine Za (rgo tb hJ [1000] [_] [] [(_, .int (4 : Int))] rfl rfl rfl rfl trivial (nx ?_))
 refine tw (ob2 (congrArg (fun z' => OB.set keyS M3 (z')) (show fs = ((⟨(fs, hm, tm), by first | (intro h9; rw [e9] at h9; exact absurd h9 (by first | decide | exact nz)) | (intro _; exact ⟨rfl, by rw [f2_2, Zp (by omega)], fun k' => by rw [NOGHOST.2 k', e3]⟩)⟩ : { q' : List ByteArray × List (ByteArray × Hy) × List (ByteArray × ByteArray) // Y7 cs vs fs hm tm f bf = 0 → q'.1 = Z5 fs f.label ∧ q'.2.1 = hmK hm (alH f) ∧ ∀ k', Zq q'.2.2 k' = if (Zq (tsK (alH f)) k').isSome then Zq (tsK (alH f)) k' else Zq tm k' }).1.1) from rfl))) ?_
 refine tw (ob3 (congrArg (fun z' => OB.map keyS (fun z' : Hy => AV.agg (hyC z')) M4 (z')) (show hm = ((⟨(fs, hm, tm), by first | (intro h9; rw [e9] at h9; exact absurd h9 (by first | decide | exact nz)) | (intro _; exact ⟨rfl, by rw [f2_2, Zp (by omega)], fun k' => by rw [NOGHOST.2 k', e3]⟩)⟩ : { q' : List ByteArray × List (ByteArray × Hy) × List (ByteArray × ByteArray) // Y7 cs vs fs hm tm f bf = 0 → q'.1 = Z5 fs f.label ∧ q'.2.1 = hmK hm (alH f) ∧ ∀ k', Zq q'.2.2 k' = if (Zq (tsK (alH f)) k').isSome then Zq (tsK (alH f)) k' else Zq tm k' }).1.2.1) from rfl))) ?_
 refine tw (ob4 (congrArg (fun z' => OB.map keyS (fun z' : ByteArray => AV.str z') M5 (z')) (show tm = ((⟨(fs, hm, tm), by first | (intro h9; rw [e9] at h9; exact absurd h9 (by first | decide | exact nz)) | (intro _; exact ⟨rfl, by rw [f2_2, Zp (by omega)], fun k' => by rw [NOGHOST.2 k', e3]⟩)⟩ : { q' : List ByteArray × List (ByteArray × Hy) × List (ByteArray × ByteArray) // Y7 cs vs fs hm tm f bf = 0 → q'.1 = Z5 fs f.label ∧ q'.2.1 = hmK hm (alH f) ∧ ∀ k', Zq q'.2.2 k' = if (Zq (tsK (alH f)) k').isSome then Zq (tsK (alH f)) k' else Zq tm k' }).1.2.2) from rfl))) ?_
 refine Zi (fun a w h => Yh  (m := 0) (⟨(fs, hm, tm), by first | (intro h9; rw [e9] at h9; exact absurd h9 (by first | decide | exact nz)) | (intro _; exact ⟨rfl, by rw [f2_2, Zp (by omega)], fun k' => by rw [NOGHOST.2 k', e3]⟩)⟩ : { q' : List ByteArray × List (ByteArray × Hy) × List (ByteArray × ByteArray) // Y7 cs vs fs hm tm f bf = 0 → q'.1 = Z5 fs f.label ∧ q'.2.1 = hmK hm (alH f) ∧ ∀ k', Zq q'.2.2 k' = if (Zq (tsK (alH f)) k').isSome then Zq (tsK (alH f)) k' else Zq tm k' }) rfl h rfl (congrArg AV.int (show (4 : Int) = (Y7 cs vs fs hm tm f bf) from e9.symm)))
 have hb3a : f.hyps.length ≤ 40 ∧ f.dummies.length ≤ 40 := by simp at hb3; omega
 refine Zd (nx (Za ?_))
 refine tw pm2 ?_
 refine fun a w h => Xo (γ := Unit) (fun ix' => ([.ptr [.lit (.map (some M1)), .lit (.map (some M2)), .lit (.map (some M3)), .lit (.map (some M4)), .lit (.map (some M5))], .ptr [.lit (.map (some M1)), .lit (.map (some M2)), .lit (.map (some M3)), .lit (.map (some M4)), .lit (.map (some M5))], .ptr [.lit (.map (some M3)), .lit (.map (some M4)), .lit (.map (some M5))], .lit (.map (some M3)), .ptr (frC f), .str f.label, .any] : List AV).getD ix' .any) (fun ix' => ([true, true, true, true, true, true, true] : List Bool).getD ix' true) [(2, fun (g : Unit) => .rd (Z4 bf)), (3, fun (g : Unit) => .ptr [.ptr [.lit (.map (some M1)), .lit (.map (some M2)), .lit (.map (some M3)), .lit (.map (some M4)), .lit (.map (some M5))]]), (4, fun (g : Unit) => .ptr (frC f))] (fun (j' : Nat) (g : Unit) => match j' with | 0 => (OB.set keyS M3 fs :: OB.set keyS M1 cs :: OB.set keyS M2 vs :: OB.map keyS (fun z' : Hy => AV.agg (hyC z')) M4 hm :: OB.map keyS (fun z' : ByteArray => AV.str z') M5 tm :: R) | _ => (OB.set keyS M3 (Z5 fs f.label) :: OB.set keyS M1 cs :: OB.set keyS M2 vs :: OB.map keyS (fun z' : Hy => AV.agg (hyC z')) M4 hm :: OB.map keyS (fun z' : ByteArray => AV.str z') M5 tm :: R)) (fun (k' : Nat) (g : Unit) => match k' with | 0 => undef | _ => undef) [6] 0 () (fun _ => rfl) h hJ Y0 rfl rfl rfl rfl rfl rfl (fun j' g hj p hp => by rcases j' with _ | _ | _ | j' <;> first | exact hp | exact List.mem_cons_of_mem _ hp | exact List.mem_cons_of_mem _ (List.mem_cons_of_mem _ hp) | (exfalso; omega)) ⟨?o8_2_0, ⟨?o8_2_1, ⟨?o8_2_2, ⟨?o8_2_3, ⟨?o8_2_4, ⟨?o8_2_5, ⟨?o8_2_6, trivial⟩⟩⟩⟩⟩⟩⟩ ⟨?e8_2_0, trivial⟩ ⟨.old 0 2 _ rfl rfl, ⟨.old 1 3 _ rfl rfl, ⟨.old 2 4 _ rfl rfl, trivial⟩⟩⟩ ?n8_2
 case o8_2_0 => exact fun _ O' _ => ⟨rfl, fun _ _ _ hx hl _ => ZaT ZeP rfl (hl.env 1 3 _ rfl rfl) hx⟩
 case o8_2_1 => exact fun _ O' _ => ⟨rfl, fun _ _ _ hx hl _ => YO rfl (hl.dep 0 59 _ rfl rfl rfl rfl) hx⟩
 case o8_2_2 => exact fun _ O' _ => ⟨rfl, fun _ _ _ hx hl _ => Ym ZfZ rfl (hl.dep 1 60 _ rfl rfl rfl rfl) hx⟩
 case o8_2_3 => exact fun _ O' _ => ⟨rfl, fun _ _ _ hx hl _ => Ya ZmV rfl (hl.dep 2 61 _ rfl rfl rfl rfl) hx⟩
 case o8_2_4 => exact fun _ O' _ => ⟨rfl, fun _ _ _ hx hl _ => Ym Zdu rfl (hl.env 2 4 _ rfl rfl) hx⟩
 case o8_2_5 => exact fun _ O' _ => ⟨rfl, fun _ _ _ hx hl _ => Ya ZdO rfl (hl.dep 4 63 _ rfl rfl rfl rfl) hx⟩
 case o8_2_6 => exact Zs rfl
 case e8_2_0 => exact ⟨_, rfl, rfl, rfl, rfl, fun g _ w hk hx hl _ => ZJ (d_putS ZU hJ hJ0 f.label (.inl rfl) hk hx (hl.dep 3 62 _ rfl rfl rfl rfl) (hl.dep 5 64 _ rfl rfl rfl rfl) (Rel.of_lit (Go.Value.bool true))) fun v w' ⟨_, hp⟩ => ⟨g, rfl, fun _ _ => rfl, fun e => (by cases e), hp⟩⟩
 clear a w h
 intro _
 change ∀ a w, St All (SO S (OB.set keyS M3 (Z5 fs f.label) :: OB.set keyS M1 cs :: OB.set keyS M2 vs :: OB.map keyS (fun z' : Hy => AV.agg (hyC z')) M4 hm :: OB.map keyS (fun z' : ByteArray => AV.str z') M5 tm :: R)) w0 183 [(2, .rd (Z4 bf)), (3, .ptr [.ptr [.lit (.map (some M1)), .lit (.map (some M2)), .lit (.map (some M3)), .lit (.map (some M4)), .lit (.map (some M5))]]), (4, .ptr (frC f))] (XO J S w0.heap.size (OB.set keyS M3 (Z5 fs f.label) :: OB.set keyS M1 cs :: OB.set keyS M2 vs :: OB.map keyS (fun z' : Hy => AV.agg (hyC z')) M4 hm :: OB.map keyS (fun z' : ByteArray => AV.str z') M5 tm :: R)) a w → _
 refine nx (Za (Zn (ZaC keyS hJ rfl rfl rfl (lb rfl) fun m2 => ?_)))
 refine Zdb keyS (fun z' : ByteArray => AV.str z') hJ rfl rfl rfl (lb rfl) fun m3 => ?_
 refine sq (.agg [.lit (.map (some m2)), .lit (.map (some m3))]) rfl rfl (lb rfl) (fun a _ h => ZfH (us := [a.eval (Go.Operand.tmp 65), a.eval (Go.Operand.tmp 66)]) Zge rfl (by simp) (ZX (h.get 1 rfl) (ZX (h.get 0 rfl) X0)) rfl h.x) (Y9 Zfw hJ rfl rfl rfl (lb rfl) fun b4 => ?_)
 refine Y2 (b := b4) (off := 0) (cs := [.lit (.map none), .lit (.map none)]) (es := [.lit (.map (some m2)), .lit (.map (some m3))]) (news := [.lit (.map (some m2)), .lit (.map (some m3))]) hJ hJ0 ZhB rfl rfl rfl (lb rfl) rfl (fun a w h => ⟨(h.get 0 rfl), (h.get 1 rfl)⟩) ?_
 refine kw (fun h => Xy hS h (m := 0) (s := 9) rfl) ?_
 refine Zy ?_
 refine kw (lz [0, 4, 5, 6] (env' := [(_, _), (_, _), (_, _), (_, _)]) rfl) ?_
 refine nx (Za (Za (rgo tb hJ [0, 1, 2, 3, 1003, 1004, 1005, 1006, 1007] [_, _, _, _, _, _, _, _] [4, 5, 6] [(_, _), (_, _), (_, _), (_, _), (_, .rd (Z4 f.dummies)), (_, .rd (Ze3 ([f.hyps, f.dummies] : List (List Hy)))), (_, .rd (Z4 (([f.hyps, f.dummies] : List (List Hy)).flatten))), (_, .int (((([f.hyps, f.dummies] : List (List Hy)).flatten).length : Nat) : Int)), (_, .int (0 : Int))] rfl rfl rfl rfl ⟨fun a _ hk hx hl _ => X6 (k := 2) (us := [a.eval (Go.Operand.tmp 69), a.eval (Go.Operand.tmp 71)]) X8 Zc5 rfl (by simp) (ZX (hl.dep 1 69 _ rfl rfl rfl rfl) (ZX (hl.dep 3 71 _ rfl rfl rfl rfl) X0)) rfl (by decide) (by decide) (Zr hS _ hk hx _ (Nat.le_refl _)) (jo hJ hx), hFo hS hJ (ZeN hJ (ls := ([f.hyps, f.dummies] : List (List Hy))) (by refine Xq ?_; simp; omega)) ZjS rfl rfl rfl rfl, Ys ZC rfl rfl rfl rfl, trivial⟩ ?_)))
 refine kw (sa 6 rfl (congrArg (fun z' => AV.rd (Z4 z')) (show (([f.hyps, f.dummies] : List (List Hy)).flatten) = (alH f) from by simp))) ?_
 refine kw (sa 7 rfl (congrArg AV.int (show (((([f.hyps, f.dummies] : List (List Hy)).flatten).length : Nat) : Int) = (((alH f).length : Nat) : Int) from by simp))) ?_
 refine nx (Zf (fun a w h => Zj h 4 rfl) fun hl3 => Zf (fun a w h => Zj h 5 rfl) fun hl4 => Zf (fun a w h => Zj h 6 rfl) fun hl5 => Ze (Zw (ι := Nat × (List ByteArray) × (List (ByteArray × ByteArray))) (fun (ii' : Nat × (List ByteArray) × (List (ByteArray × ByteArray))) a w => match ii' with | (k, ls, ts) => ((k ≤ (alH f).length) ∧ (ls = lsK ((alH f).take k)) ∧ (ts = tsK ((alH f).take k)) ∧ (∀ j, j < k → hyK cs vs fs hm tm f j = 0)) ∧ St All (SO S (OB.map keyS (fun z' : ByteArray => AV.str z') m3 ts :: OB.set keyS m2 ls :: OB.set keyS M3 (Z5 fs f.label) :: OB.set keyS M1 cs :: OB.set keyS M2 vs :: OB.map keyS (fun z' : Hy => AV.agg (hyC z')) M4 hm :: OB.map keyS (fun z' : ByteArray => AV.str z') M5 tm :: R)) w0 183 [(9, .ptr [.lit (.map (some m2)), .lit (.map (some m3))]), (2, .rd (Z4 bf)), (3, .ptr [.ptr [.lit (.map (some M1)), .lit (.map (some M2)), .lit (.map (some M3)), .lit (.map (some M4)), .lit (.map (some M5))]]), (4, .ptr (frC f)), (73, .rd (Z4 (alH f))), (74, .int (((alH f).length : Nat) : Int)), (75, .int k)] (XO J S w0.heap.size (OB.map keyS (fun z' : ByteArray => AV.str z') m3 ts :: OB.set keyS m2 ls :: OB.set keyS M3 (Z5 fs f.label) :: OB.set keyS M1 cs :: OB.set keyS M2 vs :: OB.map keyS (fun z' : Hy => AV.agg (hyC z')) M4 hm :: OB.map keyS (fun z' : ByteArray => AV.str z') M5 tm :: R)) a w) (fun (ii' : Nat × (List ByteArray) × (List (ByteArray × ByteArray))) => match ii' with | (k, _, _) => ((alH f).length - k : Nat)) ?_ ?_))
 intro a w h
 exact ⟨(0, ([] : List ByteArray), ([] : List (ByteArray × ByteArray))), (show (0 ≤ (alH f).length) ∧ (([] : List ByteArray) = lsK ((alH f).take 0)) ∧ (([] : List (ByteArray × ByteArray)) = tsK ((alH f).take 0)) ∧ (∀ j, j < 0 → hyK cs vs fs hm tm f j = 0) from ⟨Nat.zero_le _, rfl, rfl, fun j hj => by omega⟩), lz [0, 1, 2, 3, 6, 7, 8] rfl h⟩
 rintro ⟨k, ls, ts⟩
 refine ZD fun hF => ?_
 obtain ⟨f1_1, f1_2, f1_3, f1_4⟩ := hF
 refine Za (rgo tb hJ [0, 1, 2, 3, 4, 5, 6, 1000] [_] [] [(_, _), (_, _), (_, _), (_, _), (_, _), (_, _), (_, _), (_, .bool (decide ((k : Int) < (((alH f).length : Nat) : Int))))] rfl rfl rfl rfl trivial (nx (Za (tc 7 rfl rfl (fun hb4 => ?_) (fun hb4 => ?_)))))
 have hk4 : k < (alH f).length := Int.ofNat_lt.1 (of_decide_eq_true hb4)
 refine Zd (nx (Za (Ze (Za (Zn (sv tb rfl rfl rfl rfl (sq (.ptr (hyC (ge (alH f) k))) rfl rfl (lb rfl) (fun _ _ h => ZI (i := (k : Int)) Zt rfl (h.get 5 rfl) (h.get 7 rfl) (Int.natCast_nonneg _) (ZL (xs := alH f) (k := k) (by first | omega | (simp; omega) | grind [Zb])) rfl h.x) (sv (av := .agg (hyC (ge (alH f) k))) tb rfl rfl rfl rfl (Y9 Xv hJ rfl rfl rfl (lb rfl) fun b5 => ?_)))))))))
 refine sv tb rfl rfl rfl rfl (Y2 (b := b5) (off := 0) (cs := [.lit (.string (⟨#[]⟩ : ByteArray)), .lit (.bool false), Zg ([] : List ByteArray)]) (es := [.lit (.string ((ge (alH f) k).label)), .lit (.bool ((ge (alH f) k).floating)), Zg ((ge (alH f) k).text)]) (news := [.lit (.string ((ge (alH f) k).label)), .lit (.bool ((ge (alH f) k).floating)), Zg ((ge (alH f) k).text)]) hJ hJ0 XN rfl rfl rfl (lb rfl) rfl (fun a w h => ⟨(h.get 1 rfl), (h.get 2 rfl)⟩) ?_)
 refine kw (fun h => Xy hS h (m := 1) (s := 11) rfl) ?_
 refine Zy ?_
 refine kw (lz [0, 1, 5, 6, 7, 8, 9, 10, 11] (env' := [(_, _), (_, _), (_, _), (_, _), (_, _), (_, _), (_, _), (_, _), (_, _)]) rfl) ?_
 refine nx (Za (Za (rgo tb hJ [0, 2, 3, 4, 5, 6, 7, 8, 1009] [_, _, _, _, _, _, .int f.hyps.length, _, .int (Zav cs vs (Z5 fs f.label) hm tm ls ts (ge (alH f) k) (decide ((f.hyps.length : Int) ≤ (k : Int)))), _] [6, 8] [(_, _), (_, _), (_, _), (_, _), (_, _), (_, _), (_, _), (_, _), (_, .int (Zav cs vs (Z5 fs f.label) hm tm ls ts (ge (alH f) k) (decide ((f.hyps.length : Int) ≤ (k : Int)))))] rfl rfl rfl rfl ⟨Ys ZC rfl rfl rfl rfl, fun _ _ hk hx hl _ => X1 (p_hyp hJ (M1 := M1) (M2 := M2) (M3 := M3) (M4 := M4) (M5 := M5) (L1 := m2) (T1 := m3) (cs := cs) (vs := vs) (fs := (Z5 fs f.label)) (hm := hm) (tm := tm) (ls := ls) (ts := ts) (y := (ge (alH f) k)) (dm := (decide ((f.hyps.length : Int) ≤ (k : Int)))) ) Zoa rfl (Zr hS _ hk hx) (hx.1) (Z0 (ZA hx (mo 3 rfl)) (Z0 (ZA hx (mo 4 rfl)) (Z0 (ZA hx (mo 2 rfl)) (Z0 (ZA hx (mo 5 rfl)) (Z0 (ZA hx (mo 6 rfl)) (Z0 (ZA hx (mo 1 rfl)) (Z0 (ZA hx (mo 0 rfl)) ZP))))))) (Zc (hl.dep 0 80 _ rfl rfl rfl rfl) (Zc (hl.dep 1 81 _ rfl rfl rfl rfl) (Zc (hl.dep 2 82 _ rfl rfl rfl rfl) (Zc (hl.dep 7 87 _ rfl rfl rfl rfl) Zm)))) (jo hJ hx), trivial⟩ (nx (Za (rgo tb hJ [0, 1, 2, 3, 4, 5, 6, 7, 8, 1001] [_, _] [] [(_, _), (_, _), (_, _), (_, _), (_, _), (_, _), (_, _), (_, _), (_, _), (_, .bool (!decide (Zav cs vs (Z5 fs f.label) hm tm ls ts (ge (alH f) k) (decide ((f.hyps.length : Int) ≤ (k : Int))) = (0 : Int))))] rfl rfl rfl rfl trivial (nx (tc 9 rfl rfl (fun hb5 => ?_) (fun hb5 => ?_)))))))))
 have nz := ZaX hb5
 have e0 : hyK cs vs fs hm tm f k = Zav cs vs (Z5 fs f.label) hm tm ls ts (ge (alH f) k) (decide ((f.hyps.length : Int) ≤ (k : Int))) := by rw [hyK, ← f1_2, ← f1_3]
 have e5 : YV (alH f).length (hyK cs vs fs hm tm f) = hyK cs vs fs hm tm f k := Z9 (by omega) f1_4 (by rw [e0]; exact nz)
 have e9 : Y7 cs vs fs hm tm f bf = Zav cs vs (Z5 fs f.label) hm tm ls ts (ge (alH f) k) (decide ((f.hyps.length : Int) ≤ (k : Int))) := by rw [Y7, if_neg (by rw [hb1]; decide), if_neg (by rw [hb2]; decide), if_neg (by rw [hb3]; decide), if_pos (by rw [e5, e0]; exact hb5), e5, e0]
 refine Za (rgo tb hJ [1001] [_, _] [] [(_, .int (Zav cs vs (Z5 fs f.label) hm tm ls ts (ge (alH f) k) (decide ((f.hyps.length : Int) ≤ (k : Int)))))] rfl rfl rfl rfl trivial (nx ?_))
 refine tw Yt ?_
 refine tw Yt ?_
 refine tw pm4 ?_
 refine tw pm4 ?_
 refine tw pm2 ?_
 refine tw pm4 ?_
 refine tw pm4 ?_
 refine tw (ob2 (congrArg (fun z' => OB.set keyS M3 (z')) (show (Z5 fs f.label) = ((⟨((Z5 fs f.label), hm, tm), by first | (intro h9; rw [e9] at h9; exact absurd h9 (by first | decide | exact nz)) | (intro _; exact ⟨rfl, by rw [f2_2, Zp (by omega)], fun k' => by rw [NOGHOST.2 k', e3]⟩)⟩ : { q' : List ByteArray × List (ByteArray × Hy) × List (ByteArray × ByteArray) // Y7 cs vs fs hm tm f bf = 0 → q'.1 = Z5 fs f.label ∧ q'.2.1 = hmK hm (alH f) ∧ ∀ k', Zq q'.2.2 k' = if (Zq (tsK (alH f)) k').isSome then Zq (tsK (alH f)) k' else Zq tm k' }).1.1) from rfl))) ?_
 refine tw (ob3 (congrArg (fun z' => OB.map keyS (fun z' : Hy => AV.agg (hyC z')) M4 (z')) (show hm = ((⟨((Z5 fs f.label), hm, tm), by first | (intro h9; rw [e9] at h9; exact absurd h9 (by first | decide | exact nz)) | (intro _; exact ⟨rfl, by rw [f2_2, Zp (by omega)], fun k' => by rw [NOGHOST.2 k', e3]⟩)⟩ : { q' : List ByteArray × List (ByteArray × Hy) × List (ByteArray × ByteArray) // Y7 cs vs fs hm tm f bf = 0 → q'.1 = Z5 fs f.label ∧ q'.2.1 = hmK hm (alH f) ∧ ∀ k', Zq q'.2.2 k' = if (Zq (tsK (alH f)) k').isSome then Zq (tsK (alH f)) k' else Zq tm k' }).1.2.1) from rfl))) ?_
 refine tw (ob4 (congrArg (fun z' => OB.map keyS (fun z' : ByteArray => AV.str z') M5 (z')) (show tm = ((⟨((Z5 fs f.label), hm, tm), by first | (intro h9; rw [e9] at h9; exact absurd h9 (by first | decide | exact nz)) | (intro _; exact ⟨rfl, by rw [f2_2, Zp (by omega)], fun k' => by rw [NOGHOST.2 k', e3]⟩)⟩ : { q' : List ByteArray × List (ByteArray × Hy) × List (ByteArray × ByteArray) // Y7 cs vs fs hm tm f bf = 0 → q'.1 = Z5 fs f.label ∧ q'.2.1 = hmK hm (alH f) ∧ ∀ k', Zq q'.2.2 k' = if (Zq (tsK (alH f)) k').isSome then Zq (tsK (alH f)) k' else Zq tm k' }).1.2.2) from rfl))) ?_
 refine Zi (fun a w h => Yh  (m := 0) (⟨((Z5 fs f.label), hm, tm), by first | (intro h9; rw [e9] at h9; exact absurd h9 (by first | decide | exact nz)) | (intro _; exact ⟨rfl, by rw [f2_2, Zp (by omega)], fun k' => by rw [NOGHOST.2 k', e3]⟩)⟩ : { q' : List ByteArray × List (ByteArray × Hy) × List (ByteArray × ByteArray) // Y7 cs vs fs hm tm f bf = 0 → q'.1 = Z5 fs f.label ∧ q'.2.1 = hmK hm (alH f) ∧ ∀ k', Zq q'.2.2 k' = if (Zq (tsK (alH f)) k').isSome then Zq (tsK (alH f)) k' else Zq tm k' }) rfl h rfl (congrArg AV.int (show (Zav cs vs (Z5 fs f.label) hm tm ls ts (ge (alH f) k) (decide ((f.hyps.length : Int) ≤ (k : Int)))) = (Y7 cs vs fs hm tm f bf) from e9.symm)))
 have q5 := Zek hb5
 have hf5 := Ze5 q5
 refine Zd (nx (Za (Zn (sv (av := .ptr [.lit (.map (some m2)), .lit (.map (some m3))]) tb rfl rfl rfl rfl (sv (av := .lit (.map (some m2))) tb rfl rfl rfl rfl (sv (av := .ptr (hyC (ge (alH f) k))) tb rfl rfl rfl rfl (sv (av := .str ((ge (alH f) k).label)) tb rfl rfl rfl rfl ?_)))))))
 refine kw pm1 ?_
 refine Zbk ZU hJ hJ0 ((ge (alH f) k).label) rfl rfl (.inl rfl) (fun a w h => ⟨(h.get 2 rfl), (h.get 0 rfl), (Rel.of_lit (Go.Value.bool true))⟩) (Zy ?_)
 refine kw (lz [4, 5, 6, 7, 8, 9, 10, 11] (env' := [(_, _), (_, _), (_, _), (_, _), (_, _), (_, _), (_, _), (_, _)]) rfl) ?_
 refine nx (Za (rgo tb hJ [0, 1, 2, 3, 4, 5, 6, 7, 1001] [_, _] [] [(_, _), (_, _), (_, _), (_, _), (_, _), (_, _), (_, _), (_, _), (_, .bool ((ge (alH f) k).floating))] rfl rfl rfl rfl trivial (nx (tc 8 rfl rfl (fun hb6 => ?_) (fun hb6 => ?_)))))
 try simp at hb6
 refine tw pm1 ?_
 refine fun a w h => Xo (γ := Unit) (fun ix' => ([.ptr [.lit (.map (some m3))], .lit (.map (some m3)), .ptr [Zg ((ge (alH f) k).text)], .rd (Zg ((ge (alH f) k).text)), .ptr [.lit (.string (ge ((ge (alH f) k).text) 1))], .str (ge ((ge (alH f) k).text) 1), .ptr [Zg ((ge (alH f) k).text)], .rd (Zg ((ge (alH f) k).text)), .ptr [.lit (.string (ge ((ge (alH f) k).text) 0))], .str (ge ((ge (alH f) k).text) 0), .any] : List AV).getD ix' .any) (fun ix' => ([true, true, true, true, true, true, true, true, true, true, true] : List Bool).getD ix' true) [(9, fun (g : Unit) => .ptr [.lit (.map (some m2)), .lit (.map (some m3))]), (2, fun (g : Unit) => .rd (Z4 bf)), (3, fun (g : Unit) => .ptr [.ptr [.lit (.map (some M1)), .lit (.map (some M2)), .lit (.map (some M3)), .lit (.map (some M4)), .lit (.map (some M5))]]), (4, fun (g : Unit) => .ptr (frC f)), (73, fun (g : Unit) => .rd (Z4 (alH f))), (74, fun (g : Unit) => .int (((alH f).length : Nat) : Int)), (75, fun (g : Unit) => .int k)] (fun (j' : Nat) (g : Unit) => match j' with | 0 => (OB.map keyS (fun z' : ByteArray => AV.str z') m3 ts :: OB.set keyS m2 (Z5 ls ((ge (alH f) k).label)) :: OB.set keyS M3 (Z5 fs f.label) :: OB.set keyS M1 cs :: OB.set keyS M2 vs :: OB.map keyS (fun z' : Hy => AV.agg (hyC z')) M4 hm :: OB.map keyS (fun z' : ByteArray => AV.str z') M5 tm :: R) | _ => (OB.map keyS (fun z' : ByteArray => AV.str z') m3 (Ql ts (ge ((ge (alH f) k).text) 1) (ge ((ge (alH f) k).text) 0)) :: OB.set keyS m2 (Z5 ls ((ge (alH f) k).label)) :: OB.set keyS M3 (Z5 fs f.label) :: OB.set keyS M1 cs :: OB.set keyS M2 vs :: OB.map keyS (fun z' : Hy => AV.agg (hyC z')) M4 hm :: OB.map keyS (fun z' : ByteArray => AV.str z') M5 tm :: R)) (fun (k' : Nat) (g : Unit) => match k' with | 0 => undef | _ => undef) [10] 0 () (fun _ => rfl) h hJ Y0 rfl rfl rfl rfl rfl rfl (fun j' g hj p hp => by rcases j' with _ | _ | _ | j' <;> first | exact hp | exact List.mem_cons_of_mem _ hp | exact List.mem_cons_of_mem _ (List.mem_cons_of_mem _ hp) | (exfalso; omega)) ⟨?o18_3_0, ⟨?o18_3_1, ⟨?o18_3_2, ⟨?o18_3_3, ⟨?o18_3_4, ⟨?o18_3_5, ⟨?o18_3_6, ⟨?o18_3_7, ⟨?o18_3_8, ⟨?o18_3_9, ⟨?o18_3_10, trivial⟩⟩⟩⟩⟩⟩⟩⟩⟩⟩⟩ ⟨?e18_3_0, trivial⟩ ⟨.old 1 9 _ rfl rfl, ⟨.old 2 2 _ rfl rfl, ⟨.old 3 3 _ rfl rfl, ⟨.old 4 4 _ rfl rfl, ⟨.old 5 73 _ rfl rfl, ⟨.old 6 74 _ rfl rfl, ⟨.old 7 75 _ rfl rfl, trivial⟩⟩⟩⟩⟩⟩⟩ ?n18_3
 case o18_3_0 => exact fun _ O' _ => ⟨rfl, fun _ _ _ hx hl _ => Ym Zcv rfl (hl.env 1 9 _ rfl rfl) hx⟩
 case o18_3_1 => exact fun _ O' _ => ⟨rfl, fun _ _ _ hx hl _ => Ya ZfL rfl (hl.dep 0 98 _ rfl rfl rfl rfl) hx⟩
 case o18_3_2 => exact fun _ O' _ => ⟨rfl, fun _ _ _ hx hl _ => Ym QN rfl (hl.env 0 11 _ rfl rfl) hx⟩
 case o18_3_3 => exact fun _ O' _ => ⟨rfl, fun _ _ _ hx hl _ => Ya Zdm rfl (hl.dep 2 100 _ rfl rfl rfl rfl) hx⟩
 case o18_3_4 => exact fun _ O' _ => ⟨rfl, fun _ _ _ hx hl _ => ZI (i := ((1 : Nat) : Int)) Zk rfl (hl.dep 3 101 _ rfl rfl rfl rfl) (Rel.of_lit (Go.Value.int Go.IntKind.i64 1)) (Int.natCast_nonneg _) (ZL (xs := (ge (alH f) k).text) (k := 1) (by have := Yl hf5 hb6; omega)) rfl hx⟩
 case o18_3_5 => exact fun _ O' _ => ⟨rfl, fun _ _ _ hx hl _ => Ya ZdO rfl (hl.dep 4 102 _ rfl rfl rfl rfl) hx⟩
 case o18_3_6 => exact fun _ O' _ => ⟨rfl, fun _ _ _ hx hl _ => Ym QN rfl (hl.env 0 11 _ rfl rfl) hx⟩
 case o18_3_7 => exact fun _ O' _ => ⟨rfl, fun _ _ _ hx hl _ => Ya Zdm rfl (hl.dep 6 104 _ rfl rfl rfl rfl) hx⟩
 case o18_3_8 => exact fun _ O' _ => ⟨rfl, fun _ _ _ hx hl _ => ZI (i := ((0 : Nat) : Int)) Zk rfl (hl.dep 7 105 _ rfl rfl rfl rfl) (Rel.of_lit (Go.Value.int Go.IntKind.i64 0)) (Int.natCast_nonneg _) (ZL (xs := (ge (alH f) k).text) (k := 0) (by have := Yl hf5 hb6; omega)) rfl hx⟩
 case o18_3_9 => exact fun _ O' _ => ⟨rfl, fun _ _ _ hx hl _ => Ya ZdO rfl (hl.dep 8 106 _ rfl rfl rfl rfl) hx⟩
 case o18_3_10 => exact Zs rfl
 case e18_3_0 => exact ⟨_, rfl, rfl, rfl, rfl, fun g _ w hk hx hl _ => ZJ (ZlD (f := (fun z' : ByteArray => AV.str z')) Qq hJ hJ0 (ge ((ge (alH f) k).text) 1) (ge ((ge (alH f) k).text) 0) (.inl rfl) hk hx (hl.dep 1 99 _ rfl rfl rfl rfl) (hl.dep 5 103 _ rfl rfl rfl rfl) (hl.dep 9 107 _ rfl rfl rfl rfl)) fun v w' ⟨_, hp⟩ => ⟨g, rfl, fun _ _ => rfl, fun e => (by cases e), hp⟩⟩
 clear a w h
 intro _
 change ∀ a w, St All (SO S (OB.map keyS (fun z' : ByteArray => AV.str z') m3 (Ql ts (ge ((ge (alH f) k).text) 1) (ge ((ge (alH f) k).text) 0)) :: OB.set keyS m2 (Z5 ls ((ge (alH f) k).label)) :: OB.set keyS M3 (Z5 fs f.label) :: OB.set keyS M1 cs :: OB.set keyS M2 vs :: OB.map keyS (fun z' : Hy => AV.agg (hyC z')) M4 hm :: OB.map keyS (fun z' : ByteArray => AV.str z') M5 tm :: R)) w0 183 [(9, .ptr [.lit (.map (some m2)), .lit (.map (some m3))]), (2, .rd (Z4 bf)), (3, .ptr [.ptr [.lit (.map (some M1)), .lit (.map (some M2)), .lit (.map (some M3)), .lit (.map (some M4)), .lit (.map (some M5))]]), (4, .ptr (frC f)), (73, .rd (Z4 (alH f))), (74, .int (((alH f).length : Nat) : Int)), (75, .int k)] (XO J S w0.heap.size (OB.map keyS (fun z' : ByteArray => AV.str z') m3 (Ql ts (ge ((ge (alH f) k).text) 1) (ge ((ge (alH f) k).text) 0)) :: OB.set keyS m2 (Z5 ls ((ge (alH f) k).label)) :: OB.set keyS M3 (Z5 fs f.label) :: OB.set keyS M1 cs :: OB.set keyS M2 vs :: OB.map keyS (fun z' : Hy => AV.agg (hyC z')) M4 hm :: OB.map keyS (fun z' : ByteArray => AV.str z') M5 tm :: R)) a w → _
 refine nx (rgo tb hJ [0, 1, 2, 3, 4, 5, 1001] [.int ((k + 1 : Nat) : Int), _] [0] [(_, _), (_, _), (_, _), (_, _), (_, _), (_, _), (_, .int ((k + 1 : Nat) : Int))] rfl rfl rfl rfl ⟨Yc (by first | omega | (simp; omega) | grind [Zb]) rfl rfl rfl rfl rfl, trivial⟩ ?_)
 intro a w h; change ∃ j, _ ∧ _
 exact ⟨(k + 1, Z5 ls ((ge (alH f) k).label), Ql ts (ge ((ge (alH f) k).text) 1) (ge ((ge (alH f) k).text) 0)), ⟨⟨(show (k + 1) ≤ (alH f).length from by omega), (show (Z5 ls ((ge (alH f) k).label)) = lsK ((alH f).take (k + 1)) from by rw [ZS (by omega), ZdS, ← f1_2]), (show (Ql ts (ge ((ge (alH f) k).text) 1) (ge ((ge (alH f) k).text) 0)) = tsK ((alH f).take (k + 1)) from by rw [ZS (by omega), ZaP, ← f1_3, if_pos hb6]), (show ∀ j, j < (k + 1) → hyK cs vs fs hm tm f j = 0 from ZW f1_4 (by rw [hyK, ← f1_2, ← f1_3]; exact q5))⟩, lz [0, 1, 2, 3, 4, 5, 6] rfl h⟩, (show (alH f).length - (k + 1) < (alH f).length - k from by first | omega | (simp; omega))⟩
 try simp at hb6
 refine Zd (nx (rgo tb hJ [1, 2, 3, 4, 5, 6, 1001] [.int ((k + 1 : Nat) : Int), _] [0] [(_, _), (_, _), (_, _), (_, _), (_, _), (_, _), (_, .int ((k + 1 : Nat) : Int))] rfl rfl rfl rfl ⟨Yc (by first | omega | (simp; omega) | grind [Zb]) rfl rfl rfl rfl rfl, trivial⟩ ?_))
 refine kw pm6 ?_
 refine kw pm6 ?_
 refine kw pm6 ?_
 refine kw pm6 ?_
 refine kw pm6 ?_
 refine kw pm5 ?_
 refine kw pm6 ?_
 intro a w h; change ∃ j, _ ∧ _
 exact ⟨(k + 1, Z5 ls ((ge (alH f) k).label), ts), ⟨⟨(show (k + 1) ≤ (alH f).length from by omega), (show (Z5 ls ((ge (alH f) k).label)) = lsK ((alH f).take (k + 1)) from by rw [ZS (by omega), ZdS, ← f1_2]), (show ts = tsK ((alH f).take (k + 1)) from by rw [ZS (by omega), ZaP, ← f1_3, if_neg (by simp [hb6])]), (show ∀ j, j < (k + 1) → hyK cs vs fs hm tm f j = 0 from ZW f1_4 (by rw [hyK, ← f1_2, ← f1_3]; exact q5))⟩, lz [0, 1, 2, 3, 4, 5, 6] rfl h⟩, (show (alH f).length - (k + 1) < (alH f).length - k from by first | omega | (simp; omega))⟩
 have hk4 : (alH f).length ≤ k := by have := of_decide_eq_false hb4; omega
 have e4 : YV (alH f).length (hyK cs vs fs hm tm f) = 0 := Xl fun j hj => f1_4 j (by omega)
 have e3 : ts = tsK (alH f) := by rw [f1_3, Zp (by omega)]
 have hfm : ∀ y ∈ alH f, ∃ dm, Qv y dm = false := fun y hy => by obtain ⟨j, hj, rfl⟩ := Xj hy; exact ⟨_, Ze5 (f1_4 j (by omega))⟩
 have h2t : ∀ y ∈ alH f, y.floating = true → y.text.length = 2 := fun y hy hf => by obtain ⟨dm, hd⟩ := hfm y hy; exact Yl hd hf
 refine Zv (nx (Za (Za (rgo tb hJ [0, 1, 2, 3, 1002, 1004] [_, _, _, .int (ZbP cs vs f.text), _] [3] [(_, _), (_, _), (_, _), (_, _), (_, .rd (Zg f.text)), (_, .int (ZbP cs vs f.text))] rfl rfl rfl rfl ⟨fun _ _ hk hx hl _ => X1 (ZmS hJ (M1 := M1) (M2 := M2) (M3 := M3) (M4 := M4) (M5 := M5) (cs := cs) (vs := vs) (l := f.text) ) ZjR rfl (Zr hS _ hk hx) (hx.1) (Z0 (ZA hx (mo 3 rfl)) (Z0 (ZA hx (mo 4 rfl)) ZP)) (Zc (hl.dep 0 109 _ rfl rfl rfl rfl) (Zc (hl.dep 2 111 _ rfl rfl rfl rfl) Zm)) (jo hJ hx), trivial⟩ (nx (Zf (fun a w h => Zj h 4 rfl) fun hl6 => Za (rgo tb hJ [0, 1, 2, 3, 5, 1001] [_, _] [] [(_, _), (_, _), (_, _), (_, _), (_, _), (_, .bool (!decide (ZbP cs vs f.text = (0 : Int))))] rfl rfl rfl rfl trivial (nx (tc 5 rfl rfl (fun hb7 => ?_) (fun hb7 => ?_))))))))))
 have nz := ZaX hb7
 have e9 : Y7 cs vs fs hm tm f bf = ZbP cs vs f.text := by rw [Y7, if_neg (by rw [hb1]; decide), if_neg (by rw [hb2]; decide), if_neg (by rw [hb3]; decide), if_neg (by rw [e4]; decide), if_pos hb7]
 refine Za (rgo tb hJ [1001] [_, _] [] [(_, .int (ZbP cs vs f.text))] rfl rfl rfl rfl trivial (nx ?_))
 refine tw Yt ?_
 refine tw Yt ?_
 refine tw pm4 ?_
 refine tw pm4 ?_
 refine tw pm2 ?_
 refine tw pm4 ?_
 refine tw pm4 ?_
 refine tw (ob2 (congrArg (fun z' => OB.set keyS M3 (z')) (show (Z5 fs f.label) = ((⟨((Z5 fs f.label), hm, tm), by first | (intro h9; rw [e9] at h9; exact absurd h9 (by first | decide | exact nz)) | (intro _; exact ⟨rfl, by rw [f2_2, Zp (by omega)], fun k' => by rw [NOGHOST.2 k', e3]⟩)⟩ : { q' : List ByteArray × List (ByteArray × Hy) × List (ByteArray × ByteArray) // Y7 cs vs fs hm tm f bf = 0 → q'.1 = Z5 fs f.label ∧ q'.2.1 = hmK hm (alH f) ∧ ∀ k', Zq q'.2.2 k' = if (Zq (tsK (alH f)) k').isSome then Zq (tsK (alH f)) k' else Zq tm k' }).1.1) from rfl))) ?_
 refine tw (ob3 (congrArg (fun z' => OB.map keyS (fun z' : Hy => AV.agg (hyC z')) M4 (z')) (show hm = ((⟨((Z5 fs f.label), hm, tm), by first | (intro h9; rw [e9] at h9; exact absurd h9 (by first | decide | exact nz)) | (intro _; exact ⟨rfl, by rw [f2_2, Zp (by omega)], fun k' => by rw [NOGHOST.2 k', e3]⟩)⟩ : { q' : List ByteArray × List (ByteArray × Hy) × List (ByteArray × ByteArray) // Y7 cs vs fs hm tm f bf = 0 → q'.1 = Z5 fs f.label ∧ q'.2.1 = hmK hm (alH f) ∧ ∀ k', Zq q'.2.2 k' = if (Zq (tsK (alH f)) k').isSome then Zq (tsK (alH f)) k' else Zq tm k' }).1.2.1) from rfl))) ?_
 refine tw (ob4 (congrArg (fun z' => OB.map keyS (fun z' : ByteArray => AV.str z') M5 (z')) (show tm = ((⟨((Z5 fs f.label), hm, tm), by first | (intro h9; rw [e9] at h9; exact absurd h9 (by first | decide | exact nz)) | (intro _; exact ⟨rfl, by rw [f2_2, Zp (by omega)], fun k' => by rw [NOGHOST.2 k', e3]⟩)⟩ : { q' : List ByteArray × List (ByteArray × Hy) × List (ByteArray × ByteArray) // Y7 cs vs fs hm tm f bf = 0 → q'.1 = Z5 fs f.label ∧ q'.2.1 = hmK hm (alH f) ∧ ∀ k', Zq q'.2.2 k' = if (Zq (tsK (alH f)) k').isSome then Zq (tsK (alH f)) k' else Zq tm k' }).1.2.2) from rfl))) ?_
 refine Zi (fun a w h => Yh  (m := 0) (⟨((Z5 fs f.label), hm, tm), by first | (intro h9; rw [e9] at h9; exact absurd h9 (by first | decide | exact nz)) | (intro _; exact ⟨rfl, by rw [f2_2, Zp (by omega)], fun k' => by rw [NOGHOST.2 k', e3]⟩)⟩ : { q' : List ByteArray × List (ByteArray × Hy) × List (ByteArray × ByteArray) // Y7 cs vs fs hm tm f bf = 0 → q'.1 = Z5 fs f.label ∧ q'.2.1 = hmK hm (alH f) ∧ ∀ k', Zq q'.2.2 k' = if (Zq (tsK (alH f)) k').isSome then Zq (tsK (alH f)) k' else Zq tm k' }) rfl h rfl (congrArg AV.int (show (ZbP cs vs f.text) = (Y7 cs vs fs hm tm f bf) from e9.symm)))
 refine Zd (nx (Za (Za (rgo tb hJ [0, 1, 2, 3, 1003] [_, _, .int (ZaJ vs f), _] [2] [(_, _), (_, _), (_, _), (_, _), (_, .int (ZaJ vs f))] rfl rfl rfl rfl ⟨fun _ _ hk hx hl _ => X1 (p_sets hJ (M1 := M1) (M2 := M2) (M3 := M3) (M4 := M4) (M5 := M5) (vs := vs) (f := f) (hb3a.1) (hw) (fun x hx => h2t x (List.mem_append_left _ hx))) Zn9 rfl (Zr hS _ hk hx) (hx.1) (Z0 (ZA hx (mo 4 rfl)) ZP) (Zc (hl.dep 0 116 _ rfl rfl rfl rfl) (Zc (hl.dep 1 117 _ rfl rfl rfl rfl) Zm)) (jo hJ hx), trivial⟩ (nx (Za (rgo tb hJ [0, 1, 2, 3, 4, 1001] [_, _] [] [(_, _), (_, _), (_, _), (_, _), (_, _), (_, .bool (!decide (ZaJ vs f = (0 : Int))))] rfl rfl rfl rfl trivial (nx (tc 5 rfl rfl (fun hb8 => ?_) (fun hb8 => ?_))))))))))
 have nz := ZaX hb8
 have e9 : Y7 cs vs fs hm tm f bf = ZaJ vs f := by rw [Y7, if_neg (by rw [hb1]; decide), if_neg (by rw [hb2]; decide), if_neg (by rw [hb3]; decide), if_neg (by rw [e4]; decide), if_neg (by rw [hb7]; decide), if_pos hb8]
 refine Za (rgo tb hJ [1001] [_, _] [] [(_, .int (ZaJ vs f))] rfl rfl rfl rfl trivial (nx ?_))
 refine tw Yt ?_
 refine tw Yt ?_
 refine tw pm4 ?_
 refine tw pm4 ?_
 refine tw pm2 ?_
 refine tw pm4 ?_
 refine tw pm4 ?_
 refine tw (ob2 (congrArg (fun z' => OB.set keyS M3 (z')) (show (Z5 fs f.label) = ((⟨((Z5 fs f.label), hm, tm), by first | (intro h9; rw [e9] at h9; exact absurd h9 (by first | decide | exact nz)) | (intro _; exact ⟨rfl, by rw [f2_2, Zp (by omega)], fun k' => by rw [NOGHOST.2 k', e3]⟩)⟩ : { q' : List ByteArray × List (ByteArray × Hy) × List (ByteArray × ByteArray) // Y7 cs vs fs hm tm f bf = 0 → q'.1 = Z5 fs f.label ∧ q'.2.1 = hmK hm (alH f) ∧ ∀ k', Zq q'.2.2 k' = if (Zq (tsK (alH f)) k').isSome then Zq (tsK (alH f)) k' else Zq tm k' }).1.1) from rfl))) ?_
 refine tw (ob3 (congrArg (fun z' => OB.map keyS (fun z' : Hy => AV.agg (hyC z')) M4 (z')) (show hm = ((⟨((Z5 fs f.label), hm, tm), by first | (intro h9; rw [e9] at h9; exact absurd h9 (by first | decide | exact nz)) | (intro _; exact ⟨rfl, by rw [f2_2, Zp (by omega)], fun k' => by rw [NOGHOST.2 k', e3]⟩)⟩ : { q' : List ByteArray × List (ByteArray × Hy) × List (ByteArray × ByteArray) // Y7 cs vs fs hm tm f bf = 0 → q'.1 = Z5 fs f.label ∧ q'.2.1 = hmK hm (alH f) ∧ ∀ k', Zq q'.2.2 k' = if (Zq (tsK (alH f)) k').isSome then Zq (tsK (alH f)) k' else Zq tm k' }).1.2.1) from rfl))) ?_
 refine tw (ob4 (congrArg (fun z' => OB.map keyS (fun z' : ByteArray => AV.str z') M5 (z')) (show tm = ((⟨((Z5 fs f.label), hm, tm), by first | (intro h9; rw [e9] at h9; exact absurd h9 (by first | decide | exact nz)) | (intro _; exact ⟨rfl, by rw [f2_2, Zp (by omega)], fun k' => by rw [NOGHOST.2 k', e3]⟩)⟩ : { q' : List ByteArray × List (ByteArray × Hy) × List (ByteArray × ByteArray) // Y7 cs vs fs hm tm f bf = 0 → q'.1 = Z5 fs f.label ∧ q'.2.1 = hmK hm (alH f) ∧ ∀ k', Zq q'.2.2 k' = if (Zq (tsK (alH f)) k').isSome then Zq (tsK (alH f)) k' else Zq tm k' }).1.2.2) from rfl))) ?_
 refine Zi (fun a w h => Yh  (m := 0) (⟨((Z5 fs f.label), hm, tm), by first | (intro h9; rw [e9] at h9; exact absurd h9 (by first | decide | exact nz)) | (intro _; exact ⟨rfl, by rw [f2_2, Zp (by omega)], fun k' => by rw [NOGHOST.2 k', e3]⟩)⟩ : { q' : List ByteArray × List (ByteArray × Hy) × List (ByteArray × ByteArray) // Y7 cs vs fs hm tm f bf = 0 → q'.1 = Z5 fs f.label ∧ q'.2.1 = hmK hm (alH f) ∧ ∀ k', Zq q'.2.2 k' = if (Zq (tsK (alH f)) k').isSome then Zq (tsK (alH f)) k' else Zq tm k' }) rfl h rfl (congrArg AV.int (show (ZaJ vs f) = (Y7 cs vs fs hm tm f bf) from e9.symm)))
 refine Zd (nx (Za (Za (rgo tb hJ [0, 1, 2, 3, 1001, 1019] [_, _, .int f.proof.length, _, _, _, _, _, _, _, _, .int f.proof.length, _, _, _, _, _, .bool (f.proof.any (fun s => !Yb s)), _, _] [2, 11, 17] [(_, _), (_, _), (_, _), (_, _), (_, .rd (Zg f.proof)), (_, .bool ((decide ((0 : Int) < (f.proof.length : Int))) && (((!f.thm) || (decide ((8000 : Int) < (f.proof.length : Int)))) || (f.proof.any (fun s => !Yb s)))))] rfl rfl rfl rfl ⟨Ys ZB rfl rfl rfl rfl, fun _ _ _ hx hl hc => Yy ZB rfl (hl.dep 10 132 _ rfl rfl rfl hc) hx, fun _ _ hk hx hl hc => X1 (XB hJ (xs := f.proof) (f := 94) (caps := []) (Os := []) (p := (fun s => !Yb s)) (fun q' => (ZkT hJ q' hG).r) (Zn8)) Zd4 rfl (Zr hS _ hk hx) (hx.1) ZP (Zc (hl.dep 16 138 _ rfl rfl rfl hc) (Zc (QG 94) Zm)) (jo hJ hx), trivial⟩ (nx (Zf (fun a w h => Zj h 4 rfl) fun hl7 => tc 5 rfl rfl (fun hb9 => ?_) (fun hb9 => ?_)))))))
 have e9 : Y7 cs vs fs hm tm f bf = 2 := by rw [Y7, if_neg (by rw [hb1]; decide), if_neg (by rw [hb2]; decide), if_neg (by rw [hb3]; decide), if_neg (by rw [e4]; decide), if_neg (by rw [hb7]; decide), if_neg (by rw [hb8]; decide), if_pos (show ZoE f = true from hb9)]
 refine Za (rgo tb hJ [1000] [_] [] [(_, .int (2 : Int))] rfl rfl rfl rfl trivial (nx ?_))
 refine tw Yt ?_
 refine tw Yt ?_
 refine tw pm4 ?_
 refine tw pm4 ?_
 refine tw pm2 ?_
 refine tw pm4 ?_
 refine tw pm4 ?_
 refine tw (ob2 (congrArg (fun z' => OB.set keyS M3 (z')) (show (Z5 fs f.label) = ((⟨((Z5 fs f.label), hm, tm), by first | (intro h9; rw [e9] at h9; exact absurd h9 (by first | decide | exact nz)) | (intro _; exact ⟨rfl, by rw [f2_2, Zp (by omega)], fun k' => by rw [NOGHOST.2 k', e3]⟩)⟩ : { q' : List ByteArray × List (ByteArray × Hy) × List (ByteArray × ByteArray) // Y7 cs vs fs hm tm f bf = 0 → q'.1 = Z5 fs f.label ∧ q'.2.1 = hmK hm (alH f) ∧ ∀ k', Zq q'.2.2 k' = if (Zq (tsK (alH f)) k').isSome then Zq (tsK (alH f)) k' else Zq tm k' }).1.1) from rfl))) ?_
 refine tw (ob3 (congrArg (fun z' => OB.map keyS (fun z' : Hy => AV.agg (hyC z')) M4 (z')) (show hm = ((⟨((Z5 fs f.label), hm, tm), by first | (intro h9; rw [e9] at h9; exact absurd h9 (by first | decide | exact nz)) | (intro _; exact ⟨rfl, by rw [f2_2, Zp (by omega)], fun k' => by rw [NOGHOST.2 k', e3]⟩)⟩ : { q' : List ByteArray × List (ByteArray × Hy) × List (ByteArray × ByteArray) // Y7 cs vs fs hm tm f bf = 0 → q'.1 = Z5 fs f.label ∧ q'.2.1 = hmK hm (alH f) ∧ ∀ k', Zq q'.2.2 k' = if (Zq (tsK (alH f)) k').isSome then Zq (tsK (alH f)) k' else Zq tm k' }).1.2.1) from rfl))) ?_
 refine tw (ob4 (congrArg (fun z' => OB.map keyS (fun z' : ByteArray => AV.str z') M5 (z')) (show tm = ((⟨((Z5 fs f.label), hm, tm), by first | (intro h9; rw [e9] at h9; exact absurd h9 (by first | decide | exact nz)) | (intro _; exact ⟨rfl, by rw [f2_2, Zp (by omega)], fun k' => by rw [NOGHOST.2 k', e3]⟩)⟩ : { q' : List ByteArray × List (ByteArray × Hy) × List (ByteArray × ByteArray) // Y7 cs vs fs hm tm f bf = 0 → q'.1 = Z5 fs f.label ∧ q'.2.1 = hmK hm (alH f) ∧ ∀ k', Zq q'.2.2 k' = if (Zq (tsK (alH f)) k').isSome then Zq (tsK (alH f)) k' else Zq tm k' }).1.2.2) from rfl))) ?_
 refine Zi (fun a w h => Yh  (m := 0) (⟨((Z5 fs f.label), hm, tm), by first | (intro h9; rw [e9] at h9; exact absurd h9 (by first | decide | exact nz)) | (intro _; exact ⟨rfl, by rw [f2_2, Zp (by omega)], fun k' => by rw [NOGHOST.2 k', e3]⟩)⟩ : { q' : List ByteArray × List (ByteArray × Hy) × List (ByteArray × ByteArray) // Y7 cs vs fs hm tm f bf = 0 → q'.1 = Z5 fs f.label ∧ q'.2.1 = hmK hm (alH f) ∧ ∀ k', Zq q'.2.2 k' = if (Zq (tsK (alH f)) k').isSome then Zq (tsK (alH f)) k' else Zq tm k' }) rfl h rfl (congrArg AV.int (show (2 : Int) = (Y7 cs vs fs hm tm f bf) from e9.symm)))
 refine Zd (nx (Za (rgo tb hJ [0, 1, 2, 3, 1001, 1002] [_, _, _] [1] [(_, _), (_, _), (_, _), (_, _), (_, .rd (Z4 (ZZ f.hyps))), (_, .rd (Z4 (ZZ f.hyps)))] rfl rfl rfl rfl ⟨hFo hS hJ (ZbC hJ (f := f) (by refine Xq ?_; omega)) ZjT rfl rfl rfl rfl, trivial⟩ ?_)))
 refine nx (Zf (fun a w h => Zj h 4 rfl) fun hl8 => Za (rgo tb hJ [0, 2, 3, 1008, 1009] [_, _, _, .int ((Zae (bf.map Hy.label) ((ZZ f.hyps).map Hy.label) : Nat) : Int), _, .int (((ZZ f.hyps).length : Nat) : Int), _, .int (((ZZ f.hyps).length : Nat) : Int), _, _] [3, 5, 7, 8] [(_, _), (_, _), (_, _), (_, .rd (Z4 ((ZZ f.hyps).drop (Zae (bf.map Hy.label) ((ZZ f.hyps).map Hy.label))))), (_, .rd (Z4 ((ZZ f.hyps).drop (Zae (bf.map Hy.label) ((ZZ f.hyps).map Hy.label)))))] rfl rfl rfl rfl ⟨hFo hS hJ (ZkX hJ (xs := bf) (ys := (ZZ f.hyps)) ) Zn6 rfl rfl rfl rfl, Ys ZC rfl rfl rfl rfl, Ys ZC rfl rfl rfl rfl, fun _ _ _ hx hl _ => ZkH (ys := (ZZ f.hyps).drop (Zae (bf.map Hy.label) ((ZZ f.hyps).map Hy.label))) (lo := Zae (bf.map Hy.label) ((ZZ f.hyps).map Hy.label)) rfl Zt (fun _ => rfl) rfl (hl.dep 0 144 _ rfl rfl rfl rfl) (hl.dep 3 147 _ rfl rfl rfl rfl) (hl.dep 5 149 _ rfl rfl rfl rfl) (hl.dep 7 151 _ rfl rfl rfl rfl) (by have := Zf2 (bf.map Hy.label) ((ZZ f.hyps).map Hy.label); simpa using this) hx, trivial⟩ (nx (Zf (fun a w h => Zj h 3 rfl) fun hl9 => Za (Za (rgo tb hJ [0, 1, 2, 1002] [_, .fn 98 [.ptr [.ptr [.lit (.map (some M1)), .lit (.map (some M2)), .lit (.map (some M3)), .lit (.map (some M4)), .lit (.map (some M5))]]], _] [1, 2] [(_, _), (_, _), (_, _), (_, .bool (((ZZ f.hyps).drop (Zae (bf.map Hy.label) ((ZZ f.hyps).map Hy.label))).any (fun y => (Zq hm y.label).isSome)))] rfl rfl rfl rfl ⟨fun _ _ _ hx hl _ => Zai (caps := [(Go.Operand.tmp 3)]) rfl (Zc (hl.env 1 3 _ rfl rfl) Zm) hx, fun _ _ hk hx hl _ => X1 (Zck hJ (xs := ((ZZ f.hyps).drop (Zae (bf.map Hy.label) ((ZZ f.hyps).map Hy.label)))) (f := 98) (caps := [.ptr [.ptr [.lit (.map (some M1)), .lit (.map (some M2)), .lit (.map (some M3)), .lit (.map (some M4)), .lit (.map (some M5))]]]) (Os := [OB.map keyS (fun z' : Hy => AV.agg (hyC z')) M4 hm]) (p := (fun y => (Zq hm y.label).isSome)) (fun q' => ZkS hJ M1 M2 M3 M4 M5 hm q') (Zn4)) Zn5 rfl (Zr hS _ hk hx) (hx.1) (Z0 (ZA hx (mo 5 rfl)) ZP) (Zc (hl.dep 0 153 _ rfl rfl rfl rfl) (Zc (hl.dep 1 154 _ rfl rfl rfl rfl) Zm)) (jo hJ hx), trivial⟩ (nx (tc 3 rfl rfl (fun hb10 => ?_) (fun hb10 => ?_)))))))))
 have e9 : Y7 cs vs fs hm tm f bf = 7 := by rw [Y7, if_neg (by rw [hb1]; decide), if_neg (by rw [hb2]; decide), if_neg (by rw [hb3]; decide), if_neg (by rw [e4]; decide), if_neg (by rw [hb7]; decide), if_neg (by rw [hb8]; decide), if_neg (by rw [show ZoE f = _ from hb9]; decide), if_pos hb10]
 refine Za (rgo tb hJ [1000] [_] [] [(_, .int (7 : Int))] rfl rfl rfl rfl trivial (nx ?_))
 refine tw Yt ?_
 refine tw Yt ?_
 refine tw pm4 ?_
 refine tw pm4 ?_
 refine tw pm2 ?_
 refine tw pm4 ?_
 refine tw pm4 ?_
 refine tw (ob2 (congrArg (fun z' => OB.set keyS M3 (z')) (show (Z5 fs f.label) = ((⟨((Z5 fs f.label), hm, tm), by first | (intro h9; rw [e9] at h9; exact absurd h9 (by first | decide | exact nz)) | (intro _; exact ⟨rfl, by rw [f2_2, Zp (by omega)], fun k' => by rw [NOGHOST.2 k', e3]⟩)⟩ : { q' : List ByteArray × List (ByteArray × Hy) × List (ByteArray × ByteArray) // Y7 cs vs fs hm tm f bf = 0 → q'.1 = Z5 fs f.label ∧ q'.2.1 = hmK hm (alH f) ∧ ∀ k', Zq q'.2.2 k' = if (Zq (tsK (alH f)) k').isSome then Zq (tsK (alH f)) k' else Zq tm k' }).1.1) from rfl))) ?_
 refine tw (ob3 (congrArg (fun z' => OB.map keyS (fun z' : Hy => AV.agg (hyC z')) M4 (z')) (show hm = ((⟨((Z5 fs f.label), hm, tm), by first | (intro h9; rw [e9] at h9; exact absurd h9 (by first | decide | exact nz)) | (intro _; exact ⟨rfl, by rw [f2_2, Zp (by omega)], fun k' => by rw [NOGHOST.2 k', e3]⟩)⟩ : { q' : List ByteArray × List (ByteArray × Hy) × List (ByteArray × ByteArray) // Y7 cs vs fs hm tm f bf = 0 → q'.1 = Z5 fs f.label ∧ q'.2.1 = hmK hm (alH f) ∧ ∀ k', Zq q'.2.2 k' = if (Zq (tsK (alH f)) k').isSome then Zq (tsK (alH f)) k' else Zq tm k' }).1.2.1) from rfl))) ?_
 refine tw (ob4 (congrArg (fun z' => OB.map keyS (fun z' : ByteArray => AV.str z') M5 (z')) (show tm = ((⟨((Z5 fs f.label), hm, tm), by first | (intro h9; rw [e9] at h9; exact absurd h9 (by first | decide | exact nz)) | (intro _; exact ⟨rfl, by rw [f2_2, Zp (by omega)], fun k' => by rw [NOGHOST.2 k', e3]⟩)⟩ : { q' : List ByteArray × List (ByteArray × Hy) × List (ByteArray × ByteArray) // Y7 cs vs fs hm tm f bf = 0 → q'.1 = Z5 fs f.label ∧ q'.2.1 = hmK hm (alH f) ∧ ∀ k', Zq q'.2.2 k' = if (Zq (tsK (alH f)) k').isSome then Zq (tsK (alH f)) k' else Zq tm k' }).1.2.2) from rfl))) ?_
 refine Zi (fun a w h => Yh  (m := 0) (⟨((Z5 fs f.label), hm, tm), by first | (intro h9; rw [e9] at h9; exact absurd h9 (by first | decide | exact nz)) | (intro _; exact ⟨rfl, by rw [f2_2, Zp (by omega)], fun k' => by rw [NOGHOST.2 k', e3]⟩)⟩ : { q' : List ByteArray × List (ByteArray × Hy) × List (ByteArray × ByteArray) // Y7 cs vs fs hm tm f bf = 0 → q'.1 = Z5 fs f.label ∧ q'.2.1 = hmK hm (alH f) ∧ ∀ k', Zq q'.2.2 k' = if (Zq (tsK (alH f)) k').isSome then Zq (tsK (alH f)) k' else Zq tm k' }) rfl h rfl (congrArg AV.int (show (7 : Int) = (Y7 cs vs fs hm tm f bf) from e9.symm)))
 have e9 : Y7 cs vs fs hm tm f bf = 0 := by rw [Y7, if_neg (by rw [hb1]; decide), if_neg (by rw [hb2]; decide), if_neg (by rw [hb3]; decide), if_neg (by rw [e4]; decide), if_neg (by rw [hb7]; decide), if_neg (by rw [hb8]; decide), if_neg (by rw [show ZoE f = _ from hb9]; decide), if_neg (by rw [hb10]; decide)]
 refine Zd (nx (Za (Za (rgo tb hJ [0, 1, 1005, 1006, 1007] [_, _, _, _, .rd (Ze3 ([f.hyps, f.dummies] : List (List Hy))), _, _, _] [4, 5, 6] [(_, _), (_, _), (_, .rd (Z4 (([f.hyps, f.dummies] : List (List Hy)).flatten))), (_, .int (((([f.hyps, f.dummies] : List (List Hy)).flatten).length : Nat) : Int)), (_, .int (0 : Int))] rfl rfl rfl rfl ⟨fun a _ hk hx hl _ => X6 (k := 2) (us := [a.eval (Go.Operand.tmp 157), a.eval (Go.Operand.tmp 159)]) X8 Zc5 rfl (by simp) (ZX (hl.dep 1 157 _ rfl rfl rfl rfl) (ZX (hl.dep 3 159 _ rfl rfl rfl rfl) X0)) rfl (by decide) (by decide) (Zr hS _ hk hx _ (Nat.le_refl _)) (jo hJ hx), hFo hS hJ (ZeN hJ (ls := ([f.hyps, f.dummies] : List (List Hy))) (by refine Xq ?_; simp; omega)) ZjS rfl rfl rfl rfl, Ys ZC rfl rfl rfl rfl, trivial⟩ ?_))))
 refine kw (sa 2 rfl (congrArg (fun z' => AV.rd (Z4 z')) (show (([f.hyps, f.dummies] : List (List Hy)).flatten) = (alH f) from by simp))) ?_
 refine kw (sa 3 rfl (congrArg AV.int (show (((([f.hyps, f.dummies] : List (List Hy)).flatten).length : Nat) : Int) = (((alH f).length : Nat) : Int) from by simp))) ?_
 refine nx (Ze (Zw (ι := Nat × (List (ByteArray × Hy))) (fun (ii' : Nat × (List (ByteArray × Hy))) a w => match ii' with | (k, hn) => ((k ≤ (alH f).length) ∧ (hn = hmK hm ((alH f).take k))) ∧ St All (SO S (OB.map keyS (fun z' : ByteArray => AV.str z') m3 ts :: OB.set keyS m2 ls :: OB.set keyS M3 (Z5 fs f.label) :: OB.set keyS M1 cs :: OB.set keyS M2 vs :: OB.map keyS (fun z' : Hy => AV.agg (hyC z')) M4 hn :: OB.map keyS (fun z' : ByteArray => AV.str z') M5 tm :: R)) w0 183 [(9, .ptr [.lit (.map (some m2)), .lit (.map (some m3))]), (3, .ptr [.ptr [.lit (.map (some M1)), .lit (.map (some M2)), .lit (.map (some M3)), .lit (.map (some M4)), .lit (.map (some M5))]]), (161, .rd (Z4 (alH f))), (162, .int (((alH f).length : Nat) : Int)), (163, .int k)] (XO J S w0.heap.size (OB.map keyS (fun z' : ByteArray => AV.str z') m3 ts :: OB.set keyS m2 ls :: OB.set keyS M3 (Z5 fs f.label) :: OB.set keyS M1 cs :: OB.set keyS M2 vs :: OB.map keyS (fun z' : Hy => AV.agg (hyC z')) M4 hn :: OB.map keyS (fun z' : ByteArray => AV.str z') M5 tm :: R)) a w) (fun (ii' : Nat × (List (ByteArray × Hy))) => match ii' with | (k, _) => ((alH f).length - k : Nat)) ?_ ?_))
 intro a w h
 exact ⟨(0, hm), (show (0 ≤ (alH f).length) ∧ (hm = hmK hm ((alH f).take 0)) from ⟨Nat.zero_le _, rfl⟩), lz [0, 1, 2, 3, 4] rfl h⟩
 rintro ⟨k, hn⟩
 refine ZD fun hF => ?_
 obtain ⟨f2_1, f2_2⟩ := hF
 refine Za (rgo tb hJ [0, 1, 2, 3, 4, 1000] [_] [] [(_, _), (_, _), (_, _), (_, _), (_, _), (_, .bool (decide ((k : Int) < (((alH f).length : Nat) : Int))))] rfl rfl rfl rfl trivial (nx (Za (tc 5 rfl rfl (fun hb11 => ?_) (fun hb11 => ?_)))))
 have hk4 : k < (alH f).length := Int.ofNat_lt.1 (of_decide_eq_true hb11)
 refine Zd (nx (Za (Ze (Za (Zn (sq (.ptr (hyC (ge (alH f) k))) rfl rfl (lb rfl) (fun _ _ h => ZI (i := (k : Int)) Zt rfl (h.get 2 rfl) (h.get 4 rfl) (Int.natCast_nonneg _) (ZL (xs := alH f) (k := k) (by first | omega | (simp; omega) | grind [Zb])) rfl h.x) (sv (av := .agg (hyC (ge (alH f) k))) tb rfl rfl rfl rfl (QZ (cs := hyC (ge (alH f) k)) ZaL rfl rfl rfl (lb rfl) rfl rfl rfl (by decide) (m := 0) rfl rfl (fun a w h => Zr hS _ h.keep h.x _ (Nat.le_refl _)) (fun a w h w' hk' => YY hJ _ _ hk' h.x) (Zy ?_)))))))))
 refine kw (lz [0, 3, 4, 5, 6, 7] (env' := [(_, _), (_, _), (_, _), (_, _), (_, _), (_, _)]) rfl) ?_
 refine nx ?_
 refine tw pm5 ?_
 refine fun a w h => Xo (γ := Unit) (fun ix' => ([.ptr [.lit (.map (some M1)), .lit (.map (some M2)), .lit (.map (some M3)), .lit (.map (some M4)), .lit (.map (some M5))], .ptr [.lit (.map (some M1)), .lit (.map (some M2)), .lit (.map (some M3)), .lit (.map (some M4)), .lit (.map (some M5))], .ptr [.lit (.map (some M4)), .lit (.map (some M5))], .lit (.map (some M4)), .ptr (hyC (ge (alH f) k)), .str ((ge (alH f) k).label), .agg (hyC (ge (alH f) k)), .agg (hyC (ge (alH f) k)), .any] : List AV).getD ix' .any) (fun ix' => ([true, true, true, true, true, true, true, true, true] : List Bool).getD ix' true) [(9, fun (g : Unit) => .ptr [.lit (.map (some m2)), .lit (.map (some m3))]), (3, fun (g : Unit) => .ptr [.ptr [.lit (.map (some M1)), .lit (.map (some M2)), .lit (.map (some M3)), .lit (.map (some M4)), .lit (.map (some M5))]]), (161, fun (g : Unit) => .rd (Z4 (alH f))), (162, fun (g : Unit) => .int (((alH f).length : Nat) : Int)), (163, fun (g : Unit) => .int k)] (fun (j' : Nat) (g : Unit) => match j' with | 0 => (OB.map keyS (fun z' : Hy => AV.agg (hyC z')) M4 hn :: OB.map keyS (fun z' : ByteArray => AV.str z') m3 ts :: OB.set keyS m2 ls :: OB.set keyS M3 (Z5 fs f.label) :: OB.set keyS M1 cs :: OB.set keyS M2 vs :: OB.map keyS (fun z' : ByteArray => AV.str z') M5 tm :: R) | _ => (OB.map keyS (fun z' : Hy => AV.agg (hyC z')) M4 (Ql hn ((ge (alH f) k).label) (ge (alH f) k)) :: OB.map keyS (fun z' : ByteArray => AV.str z') m3 ts :: OB.set keyS m2 ls :: OB.set keyS M3 (Z5 fs f.label) :: OB.set keyS M1 cs :: OB.set keyS M2 vs :: OB.map keyS (fun z' : ByteArray => AV.str z') M5 tm :: R)) (fun (k' : Nat) (g : Unit) => match k' with | 0 => undef | _ => undef) [8] 0 () (fun _ => rfl) h hJ Y0 rfl rfl rfl rfl rfl rfl (fun j' g hj p hp => by rcases j' with _ | _ | _ | j' <;> first | exact hp | exact List.mem_cons_of_mem _ hp | exact List.mem_cons_of_mem _ (List.mem_cons_of_mem _ hp) | (exfalso; omega)) ⟨?o35_4_0, ⟨?o35_4_1, ⟨?o35_4_2, ⟨?o35_4_3, ⟨?o35_4_4, ⟨?o35_4_5, ⟨?o35_4_6, ⟨?o35_4_7, ⟨?o35_4_8, trivial⟩⟩⟩⟩⟩⟩⟩⟩⟩ ⟨?e35_4_0, trivial⟩ ⟨.old 1 9 _ rfl rfl, ⟨.old 2 3 _ rfl rfl, ⟨.old 3 161 _ rfl rfl, ⟨.old 4 162 _ rfl rfl, ⟨.old 5 163 _ rfl rfl, trivial⟩⟩⟩⟩⟩ ?n35_4
 case o35_4_0 => exact fun _ O' _ => ⟨rfl, fun _ _ _ hx hl _ => ZaT ZeP rfl (hl.env 2 3 _ rfl rfl) hx⟩
 case o35_4_1 => exact fun _ O' _ => ⟨rfl, fun _ _ _ hx hl _ => YO rfl (hl.dep 0 167 _ rfl rfl rfl rfl) hx⟩
 case o35_4_2 => exact fun _ O' _ => ⟨rfl, fun _ _ _ hx hl _ => Ym Qg rfl (hl.dep 1 168 _ rfl rfl rfl rfl) hx⟩
 case o35_4_3 => exact fun _ O' _ => ⟨rfl, fun _ _ _ hx hl _ => Ya Zcm rfl (hl.dep 2 169 _ rfl rfl rfl rfl) hx⟩
 case o35_4_4 => exact fun _ O' _ => ⟨rfl, fun _ _ _ hx hl _ => Ym QO rfl (hl.env 0 18 _ rfl rfl) hx⟩
 case o35_4_5 => exact fun _ O' _ => ⟨rfl, fun _ _ _ hx hl _ => Ya ZdO rfl (hl.dep 4 171 _ rfl rfl rfl rfl) hx⟩
 case o35_4_6 => exact fun _ O' _ => ⟨rfl, fun _ _ _ hx hl _ => ZdI Zbe rfl (hl.env 0 18 _ rfl rfl) (Nat.le_refl _) hx⟩
 case o35_4_7 => exact fun _ O' _ => ⟨rfl, fun _ _ hk hx hl _ => Qk (ZkW hJ (y := (ge (alH f) k)) (by refine ZfA ?_; obtain ⟨dm, hd⟩ := hfm _ (Zb (by omega : k < (alH f).length)); have := Zjz hd; omega)) Zn3 rfl (Zr hS _ hk hx) (hx.1) (Zc (hl.dep 6 173 _ rfl rfl rfl rfl) Zm) (jo hJ hx)⟩
 case o35_4_8 => exact Zs rfl
 case e35_4_0 => exact ⟨_, rfl, rfl, rfl, rfl, fun g _ w hk hx hl _ => ZJ (ZlD (f := (fun z' : Hy => AV.agg (hyC z'))) Xk hJ hJ0 ((ge (alH f) k).label) (ge (alH f) k) (.inl rfl) hk hx (hl.dep 3 170 _ rfl rfl rfl rfl) (hl.dep 5 172 _ rfl rfl rfl rfl) (hl.dep 7 174 _ rfl rfl rfl rfl)) fun v w' ⟨_, hp⟩ => ⟨g, rfl, fun _ _ => rfl, fun e => (by cases e), hp⟩⟩
 clear a w h
 intro _
 change ∀ a w, St All (SO S (OB.map keyS (fun z' : Hy => AV.agg (hyC z')) M4 (Ql hn ((ge (alH f) k).label) (ge (alH f) k)) :: OB.map keyS (fun z' : ByteArray => AV.str z') m3 ts :: OB.set keyS m2 ls :: OB.set keyS M3 (Z5 fs f.label) :: OB.set keyS M1 cs :: OB.set keyS M2 vs :: OB.map keyS (fun z' : ByteArray => AV.str z') M5 tm :: R)) w0 183 [(9, .ptr [.lit (.map (some m2)), .lit (.map (some m3))]), (3, .ptr [.ptr [.lit (.map (some M1)), .lit (.map (some M2)), .lit (.map (some M3)), .lit (.map (some M4)), .lit (.map (some M5))]]), (161, .rd (Z4 (alH f))), (162, .int (((alH f).length : Nat) : Int)), (163, .int k)] (XO J S w0.heap.size (OB.map keyS (fun z' : Hy => AV.agg (hyC z')) M4 (Ql hn ((ge (alH f) k).label) (ge (alH f) k)) :: OB.map keyS (fun z' : ByteArray => AV.str z') m3 ts :: OB.set keyS m2 ls :: OB.set keyS M3 (Z5 fs f.label) :: OB.set keyS M1 cs :: OB.set keyS M2 vs :: OB.map keyS (fun z' : ByteArray => AV.str z') M5 tm :: R)) a w → _
 refine nx (rgo tb hJ [0, 1, 2, 3, 1001] [.int ((k + 1 : Nat) : Int), _] [0] [(_, _), (_, _), (_, _), (_, _), (_, .int ((k + 1 : Nat) : Int))] rfl rfl rfl rfl ⟨Yc (by first | omega | (simp; omega) | grind [Zb]) rfl rfl rfl rfl rfl, trivial⟩ ?_)
 refine kw pm6 ?_
 refine kw pm1 ?_
 refine kw pm6 ?_
 refine kw pm6 ?_
 refine kw pm6 ?_
 refine kw pm6 ?_
 refine kw pm6 ?_
 intro a w h; change ∃ j, _ ∧ _
 exact ⟨(k + 1, Ql hn ((ge (alH f) k).label) (ge (alH f) k)), ⟨⟨(show (k + 1) ≤ (alH f).length from by omega), (show (Ql hn ((ge (alH f) k).label) (ge (alH f) k)) = hmK hm ((alH f).take (k + 1)) from by rw [ZS (by omega), Zlr, ← f2_2])⟩, lz [0, 1, 2, 3, 4] rfl h⟩, (show (alH f).length - (k + 1) < (alH f).length - k from by first | omega | (simp; omega))⟩
 have hk4 : (alH f).length ≤ k := by have := of_decide_eq_false hb11; omega
 refine Zv (nx (Za ?_))
 refine tw pm6 ?_
 refine fun a w h => Xo (γ := { q' : List (ByteArray × ByteArray) // ∀ k', Zq q' k' = if (Zq ts k').isSome then Zq ts k' else Zq tm k' }) (fun ix' => ([.ptr [.lit (.map (some M1)), .lit (.map (some M2)), .lit (.map (some M3)), .lit (.map (some M4)), .lit (.map (some M5))], .ptr [.lit (.map (some M1)), .lit (.map (some M2)), .lit (.map (some M3)), .lit (.map (some M4)), .lit (.map (some M5))], .ptr [.lit (.map (some M5))], .lit (.map (some M5)), .ptr [.lit (.map (some m3))], .lit (.map (some m3)), .any] : List AV).getD ix' .any) (fun ix' => ([true, true, true, true, true, true, true] : List Bool).getD ix' true) [] (fun (j' : Nat) (g : { q' : List (ByteArray × ByteArray) // ∀ k', Zq q' k' = if (Zq ts k').isSome then Zq ts k' else Zq tm k' }) => match j' with | 0 => (OB.map keyS (fun z' : ByteArray => AV.str z') M5 tm :: OB.map keyS (fun z' : ByteArray => AV.str z') m3 ts :: OB.set keyS m2 ls :: OB.set keyS M3 (Z5 fs f.label) :: OB.set keyS M1 cs :: OB.set keyS M2 vs :: OB.map keyS (fun z' : Hy => AV.agg (hyC z')) M4 hn :: R) | _ => (OB.map keyS (fun z' : ByteArray => AV.str z') M5 g.1 :: OB.map keyS (fun z' : ByteArray => AV.str z') m3 ts :: OB.set keyS m2 ls :: OB.set keyS M3 (Z5 fs f.label) :: OB.set keyS M1 cs :: OB.set keyS M2 vs :: OB.map keyS (fun z' : Hy => AV.agg (hyC z')) M4 hn :: R)) (fun (k' : Nat) (g : { q' : List (ByteArray × ByteArray) // ∀ k', Zq q' k' = if (Zq ts k').isSome then Zq ts k' else Zq tm k' }) => match k' with | 0 => (.tuple #[]) | _ => undef) [6] 0 ⟨ZlF tm ts, Zfe tm ts⟩ (fun _ => rfl) h hJ Y0 rfl rfl rfl rfl rfl rfl (fun j' g hj p hp => by rcases j' with _ | _ | _ | j' <;> first | exact hp | exact List.mem_cons_of_mem _ hp | exact List.mem_cons_of_mem _ (List.mem_cons_of_mem _ hp) | (exfalso; omega)) ⟨?o37_5_0, ⟨?o37_5_1, ⟨?o37_5_2, ⟨?o37_5_3, ⟨?o37_5_4, ⟨?o37_5_5, ⟨?o37_5_6, trivial⟩⟩⟩⟩⟩⟩⟩ ⟨?e37_5_0, trivial⟩ trivial ?n37_5
 case o37_5_0 => exact fun _ O' _ => ⟨rfl, fun _ _ _ hx hl _ => ZaT ZeP rfl (hl.env 1 3 _ rfl rfl) hx⟩
 case o37_5_1 => exact fun _ O' _ => ⟨rfl, fun _ _ _ hx hl _ => YO rfl (hl.dep 0 176 _ rfl rfl rfl rfl) hx⟩
 case o37_5_2 => exact fun _ O' _ => ⟨rfl, fun _ _ _ hx hl _ => Ym ZfY rfl (hl.dep 1 177 _ rfl rfl rfl rfl) hx⟩
 case o37_5_3 => exact fun _ O' _ => ⟨rfl, fun _ _ _ hx hl _ => Ya ZfL rfl (hl.dep 2 178 _ rfl rfl rfl rfl) hx⟩
 case o37_5_4 => exact fun _ O' _ => ⟨rfl, fun _ _ _ hx hl _ => Ym Zcv rfl (hl.env 0 9 _ rfl rfl) hx⟩
 case o37_5_5 => exact fun _ O' _ => ⟨rfl, fun _ _ _ hx hl _ => Ya ZfL rfl (hl.dep 4 180 _ rfl rfl rfl rfl) hx⟩
 case o37_5_6 => exact Zs rfl
 case e37_5_0 => exact ⟨_, rfl, rfl, rfl, rfl, fun _ _ w hk hx hl _ => ZJ (d_fn (O := [OB.map keyS (fun z' : ByteArray => AV.str z') M5 tm, OB.map keyS (fun z' : ByteArray => AV.str z') m3 ts]) (R := (OB.set keyS m2 ls :: OB.set keyS M3 (Z5 fs f.label) :: OB.set keyS M1 cs :: OB.set keyS M2 vs :: OB.map keyS (fun z' : Hy => AV.agg (hyC z')) M4 hn :: R)) (Zk4 hJ (M5 := M5) (T1 := m3) (tm := tm) (ts := ts) (by rw [e3]; exact Zkq _ h2t hsm)) Zmn rfl hS hJ0 ZP hk hx (Zc (hl.dep 3 179 _ rfl rfl rfl rfl) (Zc (hl.dep 5 181 _ rfl rfl rfl rfl) Zm))) fun v w' ⟨i, hp, hv⟩ => ⟨i, rfl, fun k' hk' => absurd hk' (Nat.not_lt_zero _), fun _ => ZkC hv, hp⟩⟩
 clear a w h
 intro z6
 change ∀ a w, St All (SO S (OB.map keyS (fun z' : ByteArray => AV.str z') M5 z6.1 :: OB.map keyS (fun z' : ByteArray => AV.str z') m3 ts :: OB.set keyS m2 ls :: OB.set keyS M3 (Z5 fs f.label) :: OB.set keyS M1 cs :: OB.set keyS M2 vs :: OB.map keyS (fun z' : Hy => AV.agg (hyC z')) M4 hn :: R)) w0 183 [] (XO J S w0.heap.size (OB.map keyS (fun z' : ByteArray => AV.str z') M5 z6.1 :: OB.map keyS (fun z' : ByteArray => AV.str z') m3 ts :: OB.set keyS m2 ls :: OB.set keyS M3 (Z5 fs f.label) :: OB.set keyS M1 cs :: OB.set keyS M2 vs :: OB.map keyS (fun z' : Hy => AV.agg (hyC z')) M4 hn :: R)) a w → _
 refine nx (Za (rgo tb hJ [1000] [_] [] [(_, .int (0 : Int))] rfl rfl rfl rfl trivial (nx ?_)))
 refine tw pm1 ?_
 refine tw Yt ?_
 refine tw pm1 ?_
 refine tw Yt ?_
 refine tw pm4 ?_
 refine tw pm2 ?_
 refine tw pm4 ?_
 refine tw pm4 ?_
 refine tw (ob2 (congrArg (fun z' => OB.set keyS M3 (z')) (show (Z5 fs f.label) = ((⟨((Z5 fs f.label), hn, z6.1), by first | (intro h9; rw [e9] at h9; exact absurd h9 (by first | decide | exact nz)) | (intro _; exact ⟨rfl, by rw [f2_2, Zp (by omega)], fun k' => by rw [z6.2 k', e3]⟩)⟩ : { q' : List ByteArray × List (ByteArray × Hy) × List (ByteArray × ByteArray) // Y7 cs vs fs hm tm f bf = 0 → q'.1 = Z5 fs f.label ∧ q'.2.1 = hmK hm (alH f) ∧ ∀ k', Zq q'.2.2 k' = if (Zq (tsK (alH f)) k').isSome then Zq (tsK (alH f)) k' else Zq tm k' }).1.1) from rfl))) ?_
 refine tw (ob3 (congrArg (fun z' => OB.map keyS (fun z' : Hy => AV.agg (hyC z')) M4 (z')) (show hn = ((⟨((Z5 fs f.label), hn, z6.1), by first | (intro h9; rw [e9] at h9; exact absurd h9 (by first | decide | exact nz)) | (intro _; exact ⟨rfl, by rw [f2_2, Zp (by omega)], fun k' => by rw [z6.2 k', e3]⟩)⟩ : { q' : List ByteArray × List (ByteArray × Hy) × List (ByteArray × ByteArray) // Y7 cs vs fs hm tm f bf = 0 → q'.1 = Z5 fs f.label ∧ q'.2.1 = hmK hm (alH f) ∧ ∀ k', Zq q'.2.2 k' = if (Zq (tsK (alH f)) k').isSome then Zq (tsK (alH f)) k' else Zq tm k' }).1.2.1) from rfl))) ?_
 refine tw (ob4 (congrArg (fun z' => OB.map keyS (fun z' : ByteArray => AV.str z') M5 (z')) (show z6.1 = ((⟨((Z5 fs f.label), hn, z6.1), by first | (intro h9; rw [e9] at h9; exact absurd h9 (by first | decide | exact nz)) | (intro _; exact ⟨rfl, by rw [f2_2, Zp (by omega)], fun k' => by rw [z6.2 k', e3]⟩)⟩ : { q' : List ByteArray × List (ByteArray × Hy) × List (ByteArray × ByteArray) // Y7 cs vs fs hm tm f bf = 0 → q'.1 = Z5 fs f.label ∧ q'.2.1 = hmK hm (alH f) ∧ ∀ k', Zq q'.2.2 k' = if (Zq (tsK (alH f)) k').isSome then Zq (tsK (alH f)) k' else Zq tm k' }).1.2.2) from rfl))) ?_
 refine Zi (fun a w h => Yh  (m := 0) (⟨((Z5 fs f.label), hn, z6.1), by first | (intro h9; rw [e9] at h9; exact absurd h9 (by first | decide | exact nz)) | (intro _; exact ⟨rfl, by rw [f2_2, Zp (by omega)], fun k' => by rw [z6.2 k', e3]⟩)⟩ : { q' : List ByteArray × List (ByteArray × Hy) × List (ByteArray × ByteArray) // Y7 cs vs fs hm tm f bf = 0 → q'.1 = Z5 fs f.label ∧ q'.2.1 = hmK hm (alH f) ∧ ∀ k', Zq q'.2.2 k' = if (Zq (tsK (alH f)) k').isSome then Zq (tsK (alH f)) k' else Zq tm k' }) rfl h rfl (congrArg AV.int (show (0 : Int) = (Y7 cs vs fs hm tm f bf) from e9.symm)))
end Go.Proofs.YtnpgmdffjemnbaaGreatDoor
namespace Go.Proofs.YtnpgmdffjemnbaaGreatDoor


theorem Zee : ∀ x y z : List UInt8, Op.bytesLess x y = true → Op.bytesLess y z = true → Op.bytesLess x z = true
  | _, _, [], _, h => by cases ‹List UInt8› <;> simp [Op.bytesLess] at h
  | x, [], _ :: _, h, _ => by cases x <;> simp [Op.bytesLess] at h
  | [], _ :: _, _ :: _, _, _ => rfl
  | a :: x, b :: y, c :: z, h1, h2 => by
    simp only [Op.bytesLess, Bool.or_eq_true, Bool.and_eq_true, decide_eq_true_eq, beq_iff_eq] at h1 h2 ⊢
    rcases h1 with h1 | ⟨rfl, h1⟩
    · rcases h2 with h2 | ⟨rfl, h2⟩
      · exact Or.inl (UInt8.lt_trans h1 h2)
      · exact Or.inl h1
    · rcases h2 with h2 | ⟨rfl, h2⟩
      · exact Or.inl h2
      · exact Or.inr ⟨rfl, Zee x y z h1 h2⟩
theorem Zef : ∀ x y : List UInt8, Op.bytesLess x y = false → Op.bytesLess y x = false → x = y
  | [], [], _, _ => rfl
  | [], _ :: _, h, _ => by simp [Op.bytesLess] at h
  | _ :: _, [], _, h => by simp [Op.bytesLess] at h
  | a :: x, b :: y, h1, h2 => by
    simp only [Op.bytesLess, Bool.or_eq_false_iff, Bool.and_eq_false_iff, decide_eq_false_iff_not] at h1 h2
    have hab : a = b := by
      have h3 := h1.1
      have h4 := h2.1
      rw [UInt8.lt_iff_toNat_lt] at h3 h4
      exact UInt8.toNat_inj.1 (by omega)
    subst hab
    have h3 := h1.2
    have h4 := h2.2
    simp at h3 h4
    rw [Zef x y h3 h4]
theorem toList_inj {a b : ByteArray} (h : a.toList = b.toList) : a = b := by
  rw [ByteArray.toList_eq, ByteArray.toList_eq] at h
  exact ByteArray.ext (Array.toList_inj.1 h)
theorem ZeW {x y z : Pr} (h1 : ltP x y = true) (h2 : ltP y z = true) : ltP x z = true := by
  simp only [ltP, Bool.or_eq_true, Bool.and_eq_true, decide_eq_true_eq] at h1 h2 ⊢
  rcases h1 with h1 | ⟨e1, h1⟩
  · rcases h2 with h2 | ⟨e2, h2⟩
    · exact .inl (Zee _ _ _ h1 h2)
    · exact .inl (e2 ▸ h1)
  · rcases h2 with h2 | ⟨e2, h2⟩
    · exact .inl (e1 ▸ h2)
    · exact .inr ⟨e1.trans e2, Zee _ _ _ h1 h2⟩
theorem Zjh {x y : Pr} (h1 : ltP x y = false) (h2 : ZcU x y = false) : ltP y x = true := by
  simp only [ltP, Bool.or_eq_false_iff, Bool.and_eq_false_iff, decide_eq_false_iff_not] at h1
  simp only [ltP, Bool.or_eq_true, Bool.and_eq_true, decide_eq_true_eq]
  by_cases ha : x.a = y.a
  · right
    refine ⟨ha.symm, ?_⟩
    have h3 := h1.2.resolve_left (fun h => h ha)
    cases hb : Op.bytesLess y.b.toList x.b.toList with
    | true => rfl
    | false => simp [ZcU, ha, toList_inj (Zef _ _ h3 hb)] at h2
  · left
    cases hb : Op.bytesLess y.a.toList x.a.toList with
    | true => rfl
    | false => exact absurd (toList_inj (Zef _ _ h1.1 hb)) ha
def ZmB (l : List Pr) : Prop := l.Pairwise fun x y => ltP x y = true
theorem ZgH : ∀ {l : List Pr} {p x : Pr}, x ∈ QI l p → x ∈ l ∨ x = p
  | [], p, x, h => by simpa [QI] using h
  | y :: l, p, x, h => by
    simp only [QI] at h
    split at h
    · rcases List.mem_cons.1 h with rfl | h
      · exact .inl (by simp)
      · rcases ZgH h with h | h
        · exact .inl (by simp [h])
        · exact .inr h
    · split at h
      · exact .inl h
      · rcases List.mem_cons.1 h with rfl | h
        · exact .inr rfl
        · exact .inl h
theorem ZgG : ∀ {l : List Pr} {p : Pr}, ZmB l → ZmB (QI l p)
  | [], _, _ => by simp [QI, ZmB]
  | y :: l, p, h => by
    have h' := List.pairwise_cons.1 h
    simp only [QI]
    by_cases h1 : ltP y p = true
    · rw [if_pos h1]
      refine List.pairwise_cons.2 ⟨fun x hx => ?_, ZgG h'.2⟩
      rcases ZgH hx with hx | rfl
      · exact h'.1 x hx
      · exact h1
    · rw [if_neg h1]
      by_cases h2 : ZcU y p = true
      · rw [if_pos h2]; exact h
      · rw [if_neg h2]
        have h3 := Zjh (by simpa using h1) (by simpa using h2)
        refine List.pairwise_cons.2 ⟨fun x hx => ?_, h⟩
        rcases List.mem_cons.1 hx with rfl | hx
        · exact h3
        · exact ZeW h3 (h'.1 x hx)
theorem Za2 : ∀ (w : List Pr) {a : List Pr}, ZmB a → ZmB (w.foldl QI a)
  | [], _, h => h
  | _ :: w, _, h => Za2 w (ZgG h)
theorem ZgJ : ∀ {l : List Pr} {p : Pr}, (∀ x ∈ l, ltP x p = true) → QI l p = l ++ [p]
  | [], _, _ => rfl
  | y :: l, p, h => by
    have ih : QI l p = l ++ [p] := ZgJ fun x hx => h x (List.mem_cons_of_mem _ hx)
    simp only [QI, h y (by simp), if_true, ih, List.cons_append]
theorem ZbF : ∀ (w a : List Pr), ZmB (a ++ w) → w.foldl QI a = a ++ w
  | [], a, _ => by simp
  | p :: w, a, h => by
    have h1 : ∀ x ∈ a, ltP x p = true := fun x hx => (List.pairwise_append.1 h).2.2 x hx p (by simp)
    rw [List.foldl_cons, ZgJ h1, ZbF w (a ++ [p]) (by simpa using h)]
    simp
theorem Zjs (w : List Pr) : w = ZbJ w [] ↔ ZmB w := by
  unfold ZbJ
  rw [List.append_nil]
  constructor
  · intro h
    rw [h]
    exact Za2 w .nil
  · intro h
    rw [ZbF w [] (by simpa using h)]
    simp
theorem Ziz {w : List Pr} (h : ∀ i, 0 < i → i < w.length → ltP (ge w (i - 1)) (ge w i) = true) : ZmB w := by
  have key : ∀ d i, i + 1 + d < w.length → ltP (ge w i) (ge w (i + 1 + d)) = true := by
    intro d
    induction d with
    | zero => intro i hi; simpa using h (i + 1) (by omega) (by omega)
    | succ d ih =>
      intro i hi
      refine ZeW (ih i (by omega)) ?_
      have := h (i + 1 + d + 1) (by omega) (by omega)
      rw [show i + 1 + d + 1 - 1 = i + 1 + d by omega] at this
      exact this
  rw [ZmB, List.pairwise_iff_getElem]
  intro i j hi hj hij
  have := key (j - i - 1) i (by omega)
  rw [show i + 1 + (j - i - 1) = j by omega] at this
  rwa [XR hi, XR hj] at this
theorem Zj8 {vs : List ByteArray} {d : Db} (hv : vs = d.vars) (w : List Pr) : ((List.range w.length).all fun i => !Zif vs w i) = (!w.any (Zmv d) && decide (w = ZbJ w [])) := by
  subst hv
  have hk : ∀ i, 0 < i → (0 ≤ ZcI (ge w (((i : Nat) : Int) - 1).toNat) (ge w i) ↔ ltP (ge w (i - 1)) (ge w i) = false) := fun i h => by
    rw [show (((i : Nat) : Int) - 1).toNat = i - 1 by omega, ← ZlI, decide_eq_false_iff_not]; omega
  rw [Bool.eq_iff_iff]
  simp only [List.all_eq_true, List.mem_range, Bool.not_eq_true', Bool.and_eq_true, List.any_eq_false, decide_eq_true_eq, Zjs]
  constructor
  · intro h
    refine ⟨fun p hp => ?_, Ziz fun i h1 h2 => ?_⟩
    · obtain ⟨i, hi, rfl⟩ := Xj hp
      have := h i hi
      simp only [Zif, Bool.or_eq_false_iff] at this
      simp only [Zmv, Bool.or_eq_true, not_or, Bool.not_eq_true]
      exact this.1
    · have := h i h2
      simp only [Zif, Bool.or_eq_false_iff, Bool.and_eq_false_iff, decide_eq_false_iff_not] at this
      have h3 := this.2.resolve_left (by omega)
      rw [hk i h1] at h3
      simpa using h3
  · rintro ⟨h1, h2⟩ i hi
    have h3 := h1 _ (Zb hi)
    simp only [Zmv, Bool.or_eq_true, not_or, Bool.not_eq_true] at h3
    simp only [Zif, Bool.or_eq_false_iff, Bool.and_eq_false_iff, decide_eq_false_iff_not]
    refine ⟨h3, ?_⟩
    by_cases h0 : 0 < i
    · right
      rw [hk i h0]
      have := List.pairwise_iff_getElem.1 h2 (i - 1) i (by omega) hi (by omega)
      rw [XR hi, XR (by omega), this]; decide
    · left; omega


structure TyI (l : List Hy) (tm : List (ByteArray × ByteArray)) : Prop where
  hit : ∀ x ∈ l, ∀ v, ofB x [v] = true → Zq tm v = some (ge x.text 0)
  got : ∀ v t, Zq tm v = some t → ∃ x ∈ l, ofB x [v] = true ∧ ge x.text 0 = t
structure HyI (l : List Hy) (hm : List (ByteArray × Hy)) : Prop where
  hit : ∀ x ∈ l, Zq hm x.label = some x
  got : ∀ s x, Zq hm s = some x → x ∈ l ∧ x.label = s
structure KInv (d : Db) (k : Nat) (fs : List ByteArray) (hm : List (ByteArray × Hy)) (tm : List (ByteArray × ByteArray)) (bf : List Hy) : Prop where
  fr : ∀ s, s ∈ fs ↔ frL d k s = true
  hy : HyI (oth d k) hm
  ty : TyI (oth d k) tm
  bf : bf.map Hy.label = ZcN d k
theorem Zjp (d : Db) : KInv d 0 [] [] [] [] := ⟨fun s => by simp [frL], ⟨fun x hx => by simp [ZgN] at hx, fun s x h => by simp [X7] at h⟩, ⟨fun x hx => by simp [ZgN] at hx, fun s x h => by simp [X7] at h⟩, by simp [ZcN]⟩
theorem ofB_one {x : Hy} {v : ByteArray} : ofB x [v] = true ↔ x.floating = true ∧ x.text.length = 2 ∧ ge x.text 1 = v := by
  simp only [ofB, Bool.and_eq_true, decide_eq_true_eq, List.mem_singleton]
  constructor
  · rintro ⟨⟨h1, h2⟩, h3⟩; exact ⟨h1, by omega, h3⟩
  · rintro ⟨h1, h2, h3⟩; exact ⟨⟨h1, by omega⟩, h3⟩
theorem Zad {l : List ByteArray} (h : l.length = 2) : l.drop 1 = [ge l 1] := by
  match l, h with
  | [a, b], _ => rfl
theorem Zjx {d : Db} {k : Nat} {s : ByteArray} : hyL d k s = (oth d k).any fun x => decide (x.label = s) := by
  simp only [hyL, oth, hysF]
  induction d.frames.take k with
  | nil => rfl
  | cons f l ih => rw [List.any_cons, ih, List.flatMap_cons, List.any_append (xs := f.hyps ++ f.dummies)]
section
variable {d : Db} {k : Nat} {fs : List ByteArray} {hm : List (ByteArray × Hy)} {tm : List (ByteArray × ByteArray)} {bf : List Hy}
theorem HyI.some {l : List Hy} (h : HyI l hm) (s : ByteArray) : (Zq hm s).isSome = l.any fun x => decide (x.label = s) := by
  rw [Bool.eq_iff_iff, List.any_eq_true]
  constructor
  · intro e
    obtain ⟨x, hx⟩ := Option.isSome_iff_exists.1 e
    have := h.got s x hx
    exact ⟨x, this.1, by simpa using this.2⟩
  · rintro ⟨x, hx, e⟩
    simp only [decide_eq_true_eq] at e
    rw [← e, h.hit x hx]; rfl
theorem TyI.bad {l : List Hy} (h : TyI l tm) (y : Hy) (h2 : y.text.length = 2) : ((Zq tm (ge y.text 1)).isSome && !decide ((Zq tm (ge y.text 1)).getD default = ge y.text 0)) = l.any (Zc1 y) := by
  rw [Bool.eq_iff_iff, List.any_eq_true]
  unfold Zc1
  rw [Zad h2]
  constructor
  · intro e
    simp only [Bool.and_eq_true, Bool.not_eq_true', decide_eq_false_iff_not] at e
    obtain ⟨t, ht⟩ := Option.isSome_iff_exists.1 e.1
    obtain ⟨x, hx, h3, h4⟩ := h.got _ _ ht
    refine ⟨x, hx, ?_⟩
    rw [ht] at e
    simp only [Option.getD_some] at e
    simp [h3, h4, e.2]
  · rintro ⟨x, hx, e⟩
    simp only [Bool.and_eq_true, Bool.not_eq_true', decide_eq_false_iff_not] at e
    rw [h.hit x hx _ e.1]
    simp [e.2]
theorem TyI.have {l : List Hy} (h : TyI l tm) (y : Hy) (h2 : y.text.length = 2) : (Zq tm (ge y.text 1)).isSome = l.any (hOf y) := by
  rw [Bool.eq_iff_iff, List.any_eq_true]
  unfold hOf
  rw [Zad h2]
  constructor
  · intro e
    obtain ⟨t, ht⟩ := Option.isSome_iff_exists.1 e
    obtain ⟨x, hx, h3, _⟩ := h.got _ _ ht
    exact ⟨x, hx, h3⟩
  · rintro ⟨x, hx, e⟩
    rw [h.hit x hx _ e]; rfl
theorem HyI.bad {l : List Hy} (h : HyI l hm) (y : Hy) : ((Zq hm y.label).isSome && !Zc0 ((Zq hm y.label).getD default) y) = l.any (Zaa y) := by
  rw [Bool.eq_iff_iff, List.any_eq_true]
  unfold Zaa
  constructor
  · intro e
    simp only [Bool.and_eq_true, Bool.not_eq_true'] at e
    obtain ⟨x, hx⟩ := Option.isSome_iff_exists.1 e.1
    have := h.got _ _ hx
    rw [hx] at e
    exact ⟨x, this.1, by simpa [this.2] using e.2⟩
  · rintro ⟨x, hx, e⟩
    simp only [Bool.and_eq_true, Bool.not_eq_true', decide_eq_true_eq] at e
    rw [← e.1, h.hit x hx]
    simpa using e.2
theorem ZnF (l : List Hy) (s : ByteArray) : s ∈ lsK l ↔ ∃ x ∈ l, x.label = s := by
  rw [← List.reverse_reverse l]
  induction l.reverse with
  | nil => simp [lsK]
  | cons y m ih =>
    rw [List.reverse_cons, ZdS, mem_addS, ih]
    simp only [List.mem_append, List.mem_singleton]
    constructor
    · rintro (⟨x, h, e⟩ | rfl)
      · exact ⟨x, .inl h, e⟩
      · exact ⟨y, .inr rfl, rfl⟩
    · rintro ⟨x, h | rfl, e⟩
      · exact .inl ⟨x, h, e⟩
      · exact .inr e.symm
theorem Zgm {l : List Hy} {ts : List (ByteArray × ByteArray)} {y : Hy} (h : TyI l ts) (h2 : y.floating = true → y.text.length = 2) (h3 : y.floating = true → l.any (hOf y) = false) : TyI (l ++ [y]) (if y.floating then Ql ts (ge y.text 1) (ge y.text 0) else ts) := by
  by_cases hf : y.floating = true
  · rw [if_pos hf]
    have h2' := h2 hf
    have h3' := h3 hf
    rw [List.any_eq_false] at h3'
    refine ⟨fun x hx v hv => ?_, fun v t hv => ?_⟩
    · rw [XC]
      rcases List.mem_append.1 hx with hx | hx
      · have : ¬ v = ge y.text 1 := fun e => h3' x hx (by rw [hOf, Zad h2', ← e]; exact hv)
        rw [if_neg this]
        exact h.hit x hx v hv
      · rw [List.mem_singleton.1 hx] at hv ⊢
        rw [if_pos (ofB_one.1 hv).2.2.symm]
    · rw [XC] at hv
      split at hv
      · rename_i e
        refine ⟨y, by simp, ofB_one.2 ⟨hf, h2', e.symm⟩, by simpa using hv⟩
      · obtain ⟨x, hx, h4⟩ := h.got v t hv
        exact ⟨x, by simp [hx], h4⟩
  · rw [if_neg hf]
    refine ⟨fun x hx v hv => ?_, fun v t hv => ?_⟩
    · rcases List.mem_append.1 hx with hx | hx
      · exact h.hit x hx v hv
      · rw [List.mem_singleton.1 hx] at hv
        exact absurd (ofB_one.1 hv).1 hf
    · obtain ⟨x, hx, h4⟩ := h.got v t hv
      exact ⟨x, by simp [hx], h4⟩
theorem ZfS : ∀ (l : List Hy) (hm : List (ByteArray × Hy)) (x : Hy), (∀ y ∈ l, y.label = x.label → y = x) → (x ∈ l ∨ Zq hm x.label = some x) → Zq (hmK hm l) x.label = some x
  | [], _, _, _, h => by simpa [hmK] using h
  | y :: l, hm, x, h, h1 => by
    show Zq (hmK (Ql hm y.label y) l) x.label = _
    refine ZfS l _ x (fun z hz => h z (by simp [hz])) ?_
    by_cases hx : x ∈ l
    · exact .inl hx
    · right
      rw [XC]
      by_cases e : x.label = y.label
      · rw [if_pos e, h y (by simp) e.symm]
      · rw [if_neg e]
        refine h1.resolve_left fun hm' => ?_
        rcases List.mem_cons.1 hm' with rfl | h'
        · exact e rfl
        · exact hx h'
theorem Zjy : ∀ (l : List Hy) (hm : List (ByteArray × Hy)) (s : ByteArray) (x : Hy), Zq (hmK hm l) s = some x → (x ∈ l ∧ x.label = s) ∨ Zq hm s = some x
  | [], _, _, _, h => .inr h
  | y :: l, hm, s, x, h => by
    rcases Zjy l (Ql hm y.label y) s x h with ⟨h1, h2⟩ | h1
    · exact .inl ⟨by simp [h1], h2⟩
    · rw [XC] at h1
      split at h1
      · rename_i e
        have : y = x := by simpa using h1
        subst this
        exact .inl ⟨by simp, e.symm⟩
      · exact .inr h1
theorem Zm0 (g : Nat → Int) : ∀ n, (∀ j, j < n → g j = 0) ∨ ∃ i, (i < n ∧ g i ≠ 0) ∧ ∀ j, j < i → g j = 0
  | 0 => .inl fun _ h => absurd h (Nat.not_lt_zero _)
  | n + 1 => by
    rcases Zm0 g n with h | ⟨i, ⟨h1, h2⟩, h3⟩
    · by_cases e : g n = 0
      · exact .inl (ZW h e)
      · exact .inr ⟨n, ⟨by omega, e⟩, h⟩
    · exact .inr ⟨i, ⟨by omega, h2⟩, h3⟩
theorem Zfa {n : Nat} {g h : Nat → Int} (hh : ∀ i, i < n → (∀ j, j < i → g j = 0) → g i = h i) : YV n g = YV n h := by
  by_cases e : ∃ i, i < n ∧ g i ≠ 0
  · obtain ⟨i, hi, hmin⟩ : ∃ i, (i < n ∧ g i ≠ 0) ∧ ∀ j, j < i → g j = 0 := by
      rcases Zm0 g n with h0 | h0
      · obtain ⟨i, hi, hn⟩ := e
        exact absurd (h0 i hi) hn
      · exact h0
    have h0 : ∀ j, j < i → h j = 0 := fun j hj => by rw [← hh j (by omega) fun q hq => hmin q (by omega)]; exact hmin j hj
    have h1 := hh i hi.1 hmin
    rw [Z9 hi.1 hmin hi.2, Z9 hi.1 h0 (by rw [← h1]; exact hi.2), h1]
  · have h0 : ∀ j, j < n → g j = 0 := fun j hj => Classical.byContradiction fun h => e ⟨j, hj, h⟩
    rw [Xl h0, Xl fun j hj => by rw [← hh j hj fun q hq => h0 q (by omega)]; exact h0 j hj]
end
end Go.Proofs.YtnpgmdffjemnbaaGreatDoor
namespace Go.Proofs.YtnpgmdffjemnbaaGreatDoor

section
variable {d : Db} {k : Nat} {fs : List ByteArray} {hm : List (ByteArray × Hy)} {tm : List (ByteArray × ByteArray)} {bf : List Hy}
theorem KInv.fr' (h : KInv d k fs hm tm bf) (hk : k < d.frames.length) (s : ByteArray) : s ∈ Z5 fs (ge d.frames k).label ↔ frL d (k + 1) s = true := by
  rw [mem_addS, frL, XF hk, Bool.or_eq_true, h.fr s, frL, decide_eq_true_eq]
  exact or_congr Iff.rfl eq_comm
theorem ZgY (h : KInv d k fs hm tm bf) (hk : k < d.frames.length) {y : Hy} {bs : List Hy} {ts : List (ByteArray × ByteArray)} {dm : Bool} (ht : TyI bs ts) :
    Zav d.consts d.vars (Z5 fs (ge d.frames k).label) hm tm (lsK bs) ts y dm = Qf d k y bs dm := by
  unfold Zav Qf
  by_cases h1 : Qv y dm = true
  · rw [if_pos h1, if_pos h1]
  rw [if_neg h1, if_neg h1]
  have h1' : Qv y dm = false := by simpa using h1
  have q1 : (((decide (y.label ∈ d.consts) || decide (y.label ∈ d.vars)) || decide (y.label ∈ Z5 fs (ge d.frames k).label)) || decide (y.label ∈ lsK bs)) = ((frL d (k + 1) y.label || Zag d y.label) || bs.any (ZfT y)) := by
    rw [show decide (y.label ∈ Z5 fs (ge d.frames k).label) = frL d (k + 1) y.label by rw [Bool.eq_iff_iff, decide_eq_true_eq]; exact h.fr' hk _,
      show decide (y.label ∈ lsK bs) = bs.any (ZfT y) by rw [Bool.eq_iff_iff, decide_eq_true_eq, ZnF, List.any_eq_true]; simp [ZfT], ← Zag, Bool.or_comm (Zag d y.label)]
  rw [q1]
  by_cases h2 : (frL d (k + 1) y.label || Zag d y.label) = true
  · rw [if_pos (by rw [h2]; rfl), if_pos h2]
  rw [if_neg h2, show (frL d (k + 1) y.label || Zag d y.label) = false by simpa using h2, Bool.false_or]
  by_cases h3 : bs.any (ZfT y) = true
  · rw [if_pos h3, if_pos h3]
  rw [if_neg h3, if_neg h3]
  change (if Zdp d y then 12 else _) = _
  by_cases h4 : Zdp d y = true
  · rw [if_pos h4, if_pos h4]
  rw [if_neg h4, if_neg h4, h.hy.bad]
  cases hf : y.floating with
  | true =>
    have hl := Yl h1' hf
    simp only [Bool.not_true, Bool.false_and, Bool.false_eq_true, if_false, Bool.true_and]
    rw [h.ty.bad y hl, ht.bad y hl, ht.have y hl, List.any_append]
  | false =>
    simp only [Bool.not_false, Bool.false_and, Bool.false_eq_true, if_false, Bool.true_and]
    have hl : (decide (((y.text.length : Nat) : Int) = 0) || decide (200 < ((y.text.length : Nat) : Int))) = false := by
      have := h1'
      simp only [Qv, hf, Bool.not_false, Bool.true_and, Bool.or_eq_false_iff] at this
      simpa using this.2
    rw [Zer, hl]
    simp
theorem Zct {d : Db} {k : Nat} {y : Hy} {bs : List Hy} {dm : Bool} (h : Qf d k y bs dm = 0) :
    bs.any (ZfT y) = false ∧ (y.floating = true → (oth d k ++ bs).any (Zc1 y) = false ∧ bs.any (hOf y) = false) ∧ (oth d k).any (Zaa y) = false := by
  unfold Qf at h
  by_cases h1 : Qv y dm = true
  · rw [if_pos h1] at h; exact absurd h (by decide)
  rw [if_neg h1] at h
  by_cases h2 : (frL d (k + 1) y.label || Zag d y.label) = true
  · rw [if_pos h2] at h; exact absurd h (by decide)
  rw [if_neg h2] at h
  by_cases h3 : bs.any (ZfT y) = true
  · rw [if_pos h3] at h; exact absurd h (by decide)
  rw [if_neg h3] at h
  by_cases h4 : Zdp d y = true
  · rw [if_pos h4] at h; exact absurd h (by decide)
  rw [if_neg h4] at h
  by_cases h5 : (!y.floating && !decide (XJ d y.text = 0)) = true
  · rw [if_pos h5] at h; simp [h] at h5
  rw [if_neg h5] at h
  by_cases h6 : (y.floating && (oth d k ++ bs).any (Zc1 y)) = true
  · rw [if_pos h6] at h; exact absurd h (by decide)
  rw [if_neg h6] at h
  by_cases h7 : (y.floating && bs.any (hOf y)) = true
  · rw [if_pos h7] at h; exact absurd h (by decide)
  rw [if_neg h7] at h
  by_cases h8 : (oth d k).any (Zaa y) = true
  · rw [if_pos h8] at h; exact absurd h (by decide)
  exact ⟨(Bool.not_eq_true _).mp h3, fun hf => ⟨by rw [hf, Bool.true_and] at h6; exact (Bool.not_eq_true _).mp h6, by rw [hf, Bool.true_and] at h7; exact (Bool.not_eq_true _).mp h7⟩, (Bool.not_eq_true _).mp h8⟩
theorem Zji (h : ∀ j, j < (alH (ge d.frames k)).length → Zam d k j = 0) : ∀ i, i ≤ (alH (ge d.frames k)).length → TyI ((alH (ge d.frames k)).take i) (tsK ((alH (ge d.frames k)).take i)) := by
  intro i
  induction i with
  | zero => intro _; exact ⟨fun x hx => by simp at hx, fun v t ht => by simp [tsK, X7] at ht⟩
  | succ i ih =>
    intro hi
    have h0 := h i (by omega)
    rw [ZS (by omega), ZaP]
    exact Zgm (ih (by omega)) (fun hf => Yl (Za0 h0) hf) fun hf => ((Zct h0).2.1 hf).2
theorem Zlg (h : KInv d k fs hm tm bf) (hk : k < d.frames.length) : YV (alH (ge d.frames k)).length (hyK d.consts d.vars fs hm tm (ge d.frames k)) = Zke d k := by
  have key : ∀ i, i < (alH (ge d.frames k)).length → (∀ j, j < i → Zam d k j = 0) → hyK d.consts d.vars fs hm tm (ge d.frames k) i = Zam d k i ∧ TyI ((alH (ge d.frames k)).take i) (tsK ((alH (ge d.frames k)).take i)) := by
    intro i
    induction i with
    | zero =>
      intro _ _
      have ht : TyI ((alH (ge d.frames k)).take 0) (tsK ((alH (ge d.frames k)).take 0)) := ⟨fun x hx => by simp at hx, fun v t ht => by simp [tsK, X7] at ht⟩
      exact ⟨ZgY h hk ht, ht⟩
    | succ i ih =>
      intro hi hj
      have h0 := hj i (by omega)
      have ht : TyI ((alH (ge d.frames k)).take (i + 1)) (tsK ((alH (ge d.frames k)).take (i + 1))) := by
        rw [ZS (by omega), ZaP]
        exact Zgm (ih (by omega) fun j hj' => hj j (by omega)).2 (fun hf => Yl (Za0 h0) hf) fun hf => ((Zct h0).2.1 hf).2
      exact ⟨ZgY h hk ht, ht⟩
  exact (Zfa fun i hi hj => (key i hi hj).1.symm).symm
theorem Zhv : ∀ {l : List Hy}, (∀ i, i < l.length → (ge l i).floating = true → (ge l i).text.length = 2 ∧ (l.take i).any (hOf (ge l i)) = false) → (Zaf l).Nodup := by
  intro l h
  have key : ∀ i, i ≤ l.length → (Zaf (l.take i)).Nodup := by
    intro i
    induction i with
    | zero => intro _; simp [Zaf]
    | succ i ih =>
      intro hi
      rw [Zaf, ZM (by omega), List.map_append]
      by_cases hf : (ge l i).floating = true
      · simp only [hf, if_true, List.map_cons, List.map_nil]
        rw [List.nodup_append]
        refine ⟨ih (by omega), by simp, fun x hx z hz e => ?_⟩
        rw [List.mem_singleton.1 hz] at e
        obtain ⟨w, hw, rfl⟩ := List.mem_map.1 hx
        rw [List.mem_filter] at hw
        have h1 := h i (by omega) hf
        have h2 := List.any_eq_false.1 h1.2 w hw.1
        refine h2 ?_
        rw [hOf, Zad h1.1]
        obtain ⟨q, hq, rfl⟩ := Xj hw.1
        have hq' : q < i := by simp at hq; omega
        have e2 : ge (l.take i) q = ge l q := by simp [ge, List.getD_eq_getElem?_getD, hq']
        rw [e2] at hw e ⊢
        exact ofB_one.2 ⟨by simpa using hw.2, (h q (by omega) (by simpa using hw.2)).1, e⟩
      · simp only [hf, Bool.false_eq_true, if_false, List.map_nil, List.append_nil]
        exact ih (by omega)
  have := key l.length (Nat.le_refl _)
  rwa [Zp (Nat.le_refl _)] at this
theorem ZnK {α : Type} [Inhabited α] {xs ys : List α} {i : Nat} (h : i < xs.length) : ge (xs ++ ys) i = ge xs i := by
  simp [ge, List.getD_eq_getElem?_getD, List.getElem?_append_left h]
theorem Zno (h : ∀ j, j < (alH (ge d.frames k)).length → Zam d k j = 0) : ZmK d.vars (ge d.frames k) = ZaI d (ge d.frames k) := by
  have hf0 : ∀ i, i < (ge d.frames k).hyps.length → (ge (ge d.frames k).hyps i).floating = true → (ge (ge d.frames k).hyps i).text.length = 2 ∧ ((ge d.frames k).hyps.take i).any (hOf (ge (ge d.frames k).hyps i)) = false := fun i hi hf => by
    have h0 := h i (by simp [alH]; omega)
    rw [Zam] at h0
    rw [ZnK hi] at h0
    rw [List.take_append_of_le_length (by omega)] at h0
    exact ⟨Yl (Za0 h0) hf, ((Zct h0).2.1 hf).2⟩
  have hnd := Zhv hf0
  have hm0 : ZeV d.vars (ge d.frames k) = Y4 d (ge d.frames k) := rfl
  have hmn : (Y4 d (ge d.frames k)).Nodup := (Zcn _ _).1
  unfold ZmK ZaI
  rw [Zj8 rfl, hm0]
  have e1 : (ge d.frames k).hyps.all (Zfq (Y4 d (ge d.frames k))) = (ge d.frames k).hyps.all (hIn (Y4 d (ge d.frames k))) := by
    rw [Bool.eq_iff_iff, List.all_eq_true, List.all_eq_true]
    refine forall_congr' fun x => ⟨fun hx hm => ?_, fun hx hm => ?_⟩ <;> have := hx hm
    · obtain ⟨i, hi, rfl⟩ := Xj hm
      cases hf : (ge (ge d.frames k).hyps i).floating with
      | false => simp [hIn, hf]
      | true =>
        simp only [Zfq, hf, Bool.not_true, Bool.false_or, decide_eq_true_eq] at this
        simp [hIn, ofB, hf, (hf0 i hi hf).1, this]
    · obtain ⟨i, hi, rfl⟩ := Xj hm
      cases hf : (ge (ge d.frames k).hyps i).floating with
      | false => simp [Zfq, hf]
      | true =>
        simp only [hIn, ofB, hf, Bool.not_true, Bool.false_or, Bool.true_and, Bool.and_eq_true, decide_eq_true_eq] at this
        simp [Zfq, hf, this.2]
  rw [e1]
  by_cases ha : (ge d.frames k).hyps.all (hIn (Y4 d (ge d.frames k))) = true
  · have hsub : ∀ s ∈ Zaf (ge d.frames k).hyps, s ∈ Y4 d (ge d.frames k) := fun s hs => by
      obtain ⟨x, hx, rfl⟩ := List.mem_map.1 hs
      rw [List.mem_filter] at hx
      have := List.all_eq_true.1 (e1.trans ha) x hx.1
      simpa [Zfq, hx.2] using this
    have e2 : decide ((Zaf (ge d.frames k).hyps).length = (Y4 d (ge d.frames k)).length) = (Y4 d (ge d.frames k)).all fun s => decide (s ∈ Zaf (ge d.frames k).hyps) := by
      rw [Bool.eq_iff_iff, decide_eq_true_eq, List.all_eq_true]
      constructor
      · intro e s hs
        rw [decide_eq_true_eq]
        refine Classical.byContradiction fun hn => ?_
        have := Zal (ys := (Y4 d (ge d.frames k)).erase s) hnd fun z hz => (List.mem_erase_of_ne (fun e' : z = s => hn (by rw [← e']; exact hz))).2 (hsub z hz)
        rw [List.length_erase_of_mem hs] at this
        have := List.length_pos_of_mem hs
        omega
      · intro e
        have h1 := Zal hnd hsub
        have h2 := Zal hmn fun s hs => by simpa using e s hs
        omega
    rw [e2, ha]
    simp only [Bool.true_and, Bool.and_assoc]
  · rw [show (ge d.frames k).hyps.all (hIn (Y4 d (ge d.frames k))) = false by simpa using ha]
    rfl
theorem Zbu (h : KInv d k fs hm tm bf) (hk : k < d.frames.length) : Y7 d.consts d.vars fs hm tm (ge d.frames k) bf = frE d k := by
  unfold Y7 frE Zbi
  by_cases h1 : (!Q8 (ge d.frames k).label) = true
  · rw [if_pos h1, if_pos h1]
  rw [if_neg h1, if_neg h1, h.hy.some, ← Zjx]
  have q : ((hyL d k (ge d.frames k).label || (decide ((ge d.frames k).label ∈ d.consts) || decide ((ge d.frames k).label ∈ d.vars))) || decide ((ge d.frames k).label ∈ fs)) = ((frL d k (ge d.frames k).label || hyL d k (ge d.frames k).label) || Zag d (ge d.frames k).label) := by
    rw [show decide ((ge d.frames k).label ∈ fs) = frL d k (ge d.frames k).label by rw [Bool.eq_iff_iff, decide_eq_true_eq]; exact h.fr _, ← Zag]
    cases hyL d k (ge d.frames k).label <;> cases frL d k (ge d.frames k).label <;> cases Zag d (ge d.frames k).label <;> rfl
  rw [q]
  by_cases h2 : ((frL d k (ge d.frames k).label || hyL d k (ge d.frames k).label) || Zag d (ge d.frames k).label) = true
  · rw [if_pos h2, if_pos h2]
  rw [if_neg h2, if_neg h2]
  by_cases h3 : (decide ((40 : Int) < (((ge d.frames k).hyps.length : Nat) : Int)) || decide ((40 : Int) < (((ge d.frames k).dummies.length : Nat) : Int))) = true
  · rw [if_pos h3, if_pos h3]
  rw [if_neg h3, if_neg h3, Zlg h hk]
  by_cases h4 : (!decide (Zke d k = 0)) = true
  · rw [if_pos h4, if_pos h4]
  rw [if_neg h4, if_neg h4, Zer]
  have h4' : ∀ j, j < (alH (ge d.frames k)).length → Zam d k j = 0 := Zao (n := (alH (ge d.frames k)).length) (show Zke d k = 0 by simpa using h4)
  by_cases h5 : (decide ((((ge d.frames k).text.length : Nat) : Int) = 0) || decide (200 < (((ge d.frames k).text.length : Nat) : Int))) = true
  · rw [if_pos h5, if_pos h5, if_pos (by decide)]
  rw [if_neg h5, if_neg h5]
  by_cases h6 : (!decide (XJ d (ge d.frames k).text = 0)) = true
  · rw [if_pos h6, if_pos h6]
  rw [if_neg h6, if_neg h6, ZaJ, Zno h4']
  by_cases h7 : ZaI d (ge d.frames k) = true
  · rw [if_pos h7, if_neg (show ¬ (!decide ((0 : Int) = 0)) = true by decide), if_neg (show ¬ (!ZaI d (ge d.frames k)) = true by simp [h7])]
    have e8 : ZoE (ge d.frames k) = (((decide (0 < (((ge d.frames k).proof.length : Nat) : Int)) && !(ge d.frames k).thm) || decide (8000 < (((ge d.frames k).proof.length : Nat) : Int))) || !(ge d.frames k).proof.all Yb) := by
      rw [show (!(ge d.frames k).proof.all Yb) = (ge d.frames k).proof.any fun s => !Yb s from List.not_all_eq_any_not ..]
      unfold ZoE
      by_cases h0 : (ge d.frames k).proof = []
      · simp [h0]
      · have : 0 < (ge d.frames k).proof.length := List.length_pos_iff.2 h0
        simp [this]
    have e9 : (((ZZ (ge d.frames k).hyps).drop (Zae (bf.map Hy.label) ((ZZ (ge d.frames k).hyps).map Hy.label))).any fun y => (Zq hm y.label).isSome) = ordB d k (ge d.frames k) := by
      rw [ordB, h.bf, ← List.map_drop, List.any_map]
      congr 1
      funext y
      rw [h.hy.some, ← Zjx]; rfl
    rw [e8, e9]
    by_cases h8 : ((decide (0 < (((ge d.frames k).proof.length : Nat) : Int)) && !(ge d.frames k).thm) || decide (8000 < (((ge d.frames k).proof.length : Nat) : Int))) = true
    · rw [if_pos (by rw [h8]; rfl), if_pos h8]
    · rw [if_neg h8, show ((decide (0 < (((ge d.frames k).proof.length : Nat) : Int)) && !(ge d.frames k).thm) || decide (8000 < (((ge d.frames k).proof.length : Nat) : Int))) = false by simpa using h8, Bool.false_or]
  · rw [if_neg h7, if_pos (show (!decide ((70 : Int) = 0)) = true by decide), if_pos (show (!ZaI d (ge d.frames k)) = true by simpa using h7)]
theorem Zlt (h : frE d k = 0) : ∀ j, j < (alH (ge d.frames k)).length → Zam d k j = 0 := by
  refine Zao (n := (alH (ge d.frames k)).length) ?_
  change Zke d k = 0
  unfold frE Zbi at h
  refine Classical.byContradiction fun hn => ?_
  by_cases h1 : (!Q8 (ge d.frames k).label) = true
  · rw [if_pos h1] at h; exact absurd h (by decide)
  rw [if_neg h1] at h
  by_cases h2 : ((frL d k (ge d.frames k).label || hyL d k (ge d.frames k).label) || Zag d (ge d.frames k).label) = true
  · rw [if_pos h2] at h; exact absurd h (by decide)
  rw [if_neg h2] at h
  by_cases h3 : (decide ((40 : Int) < (((ge d.frames k).hyps.length : Nat) : Int)) || decide ((40 : Int) < (((ge d.frames k).dummies.length : Nat) : Int))) = true
  · rw [if_pos h3] at h; exact absurd h (by decide)
  rw [if_neg h3, if_pos (by simpa using hn)] at h
  exact hn h
theorem Zjq (h : KInv d k fs hm tm bf) (hk : k < d.frames.length) (h0 : frE d k = 0) {tn : List (ByteArray × ByteArray)}
    (ht : ∀ v, Zq tn v = if (Zq (tsK (alH (ge d.frames k))) v).isSome then Zq (tsK (alH (ge d.frames k))) v else Zq tm v) :
    KInv d (k + 1) (Z5 fs (ge d.frames k).label) (hmK hm (alH (ge d.frames k))) tn (ZZ (ge d.frames k).hyps) := by
  have hl := Zlt h0
  have hT := Zji hl (alH (ge d.frames k)).length (Nat.le_refl _)
  rw [Zp (Nat.le_refl _)] at hT
  have hat : ∀ y ∈ alH (ge d.frames k), (y.floating = true → (oth d k).any (Zc1 y) = false) ∧ (oth d k).any (Zaa y) = false := fun y hy => by
    obtain ⟨j, hj, rfl⟩ := Xj hy
    have := Zct (hl j hj)
    refine ⟨fun hf => ?_, this.2.2⟩
    have := (this.2.1 hf).1
    rw [List.any_append, Bool.or_eq_false_iff] at this
    exact this.1
  have hdist : ∀ x ∈ alH (ge d.frames k), ∀ y ∈ alH (ge d.frames k), y.label = x.label → y = x := fun x hx y hy e => by
    obtain ⟨i, hi, rfl⟩ := Xj hx
    obtain ⟨j, hj, rfl⟩ := Xj hy
    have key : ∀ p q, p < q → q < (alH (ge d.frames k)).length → (ge (alH (ge d.frames k)) p).label ≠ (ge (alH (ge d.frames k)) q).label := fun p q hpq hq e => by
      have := (Zct (hl q hq)).1
      rw [List.any_eq_false] at this
      refine this (ge (alH (ge d.frames k)) p) ?_ (by simpa [ZfT] using e)
      have e2 : ge ((alH (ge d.frames k)).take q) p = ge (alH (ge d.frames k)) p := by simp [ge, List.getD_eq_getElem?_getD, hpq]
      rw [← e2]
      exact Zb (show p < ((alH (ge d.frames k)).take q).length by rw [List.length_take]; omega)
    rcases Nat.lt_trichotomy i j with h1 | h1 | h1
    · exact absurd e.symm (key i j h1 hj)
    · rw [h1]
    · exact absurd e (key j i h1 hi)
  have hsam : ∀ x ∈ oth d k, ∀ y ∈ alH (ge d.frames k), y.label = x.label → y = x := fun x hx y hy e => by
    have := List.any_eq_false.1 (hat y hy).2 x hx
    simp only [Zaa, Bool.and_eq_true, Bool.not_eq_true', decide_eq_true_eq, not_and, Bool.not_eq_false] at this
    exact (hyEq_iff.1 (this e.symm)).symm
  refine ⟨h.fr' hk, ⟨fun x hx => ?_, fun s x hx => ?_⟩, ⟨fun x hx v hv => ?_, fun v t hv => ?_⟩, ?_⟩
  · rw [Zak hk] at hx
    rcases List.mem_append.1 hx with hx | hx
    · exact ZfS _ _ _ (hsam x hx) (.inr (h.hy.hit x hx))
    · exact ZfS _ _ _ (hdist x hx) (.inl hx)
  · rw [Zak hk]
    rcases Zjy _ _ _ _ hx with ⟨h1, h2⟩ | h1
    · exact ⟨List.mem_append_right _ h1, h2⟩
    · have := h.hy.got _ _ h1
      exact ⟨List.mem_append_left _ this.1, this.2⟩
  · rw [Zak hk] at hx
    rw [ht]
    rcases List.mem_append.1 hx with hx | hx
    · cases hs : Zq (tsK (alH (ge d.frames k))) v with
      | none => simpa using h.ty.hit x hx v hv
      | some t =>
        obtain ⟨y, hy, h1, h2⟩ := hT.got v t hs
        have hy1 := ofB_one.1 h1
        have := List.any_eq_false.1 ((hat y hy).1 hy1.1) x hx
        simp only [Zc1, Zad hy1.2.1, hy1.2.2, hv, Bool.true_and, Bool.not_eq_true', decide_eq_false_iff_not, Classical.not_not] at this
        simp [this, h2]
    · rw [hT.hit x hx v hv]; rfl
  · rw [Zak hk]
    rw [ht] at hv
    split at hv
    · obtain ⟨y, hy, h1⟩ := hT.got v t hv
      exact ⟨y, List.mem_append_right _ hy, h1⟩
    · obtain ⟨y, hy, h1⟩ := h.ty.got v t hv
      exact ⟨y, List.mem_append_left _ hy, h1⟩
  · rw [ZcN, if_neg (by omega), Nat.add_sub_cancel]
end
end Go.Proofs.YtnpgmdffjemnbaaGreatDoor
set_option maxHeartbeats 8000000
set_option maxRecDepth 100000
namespace Go.Proofs.YtnpgmdffjemnbaaGreatDoor
open Go.RowKit

theorem ZnA {J : World → Prop} (hJ : Stab J) (d : Db) (hw : ∀ f ∈ d.frames, f.wide.length * 32 ≤ 140737488351232) (hG : X5 J) : Fn Tryz.prog J 54 [.agg (dbC d)] (.int (Yz d)) := by
 refine Zx (N := 55) Tryz.func54 rfl rfl (lb rfl) fun S w0 hS hJ0 => ?_
 refine tw Yi ?_
 refine Za (rgo tb hJ [1000] [_, _] [0] [(_, .ptr (dbC d))] rfl rfl rfl rfl ⟨fun _ _ hk hx hl _ => Yv rfl (hl.env 0 0 _ rfl rfl) (Zr hS _ hk hx _ (Nat.le_refl _)) (jo hJ hx), trivial⟩ (nx (Za (Za (rgo tb hJ [0, 1001, 1015] [_, _, .int d.frames.length, _, _, _, _, .int d.consts.length, _, _, _, _, _, .int d.vars.length, _, _] [2, 7, 13] [(_, _), (_, .rd (Yn d.frames)), (_, .bool (((decide ((400 : Int) < (d.frames.length : Int))) || (decide ((8000 : Int) < (d.consts.length : Int)))) || (decide ((8000 : Int) < (d.vars.length : Int)))))] rfl rfl rfl rfl ⟨Ys YH rfl rfl rfl rfl, fun _ _ _ hx hl hc => Yy ZB rfl (hl.dep 6 15 _ rfl rfl rfl hc) hx, fun _ _ _ hx hl hc => Yy ZB rfl (hl.dep 12 21 _ rfl rfl rfl hc) hx, trivial⟩ (nx (Zf (fun a w h => Zj h 1 rfl) fun hl1 => tc 2 rfl rfl (fun hb1 => ?_) (fun hb1 => ?_))))))))
 ·
  have e9 : Yz d = 8 := by rw [Yz, if_pos hb1]
  refine Za (rgo tb hJ [1000] [_] [] [(_, .int (8 : Int))] rfl rfl rfl rfl trivial (nx (Zi (fun a w h => Zh (m := 0) rfl (Zl h) rfl (congrArg AV.int (show (8 : Int) = (Yz d) from e9.symm))))))
 ·
  replace hb1 := (Bool.not_eq_true _).mpr hb1
  refine Zd (nx (Za (Zn (ZaC keyS hJ rfl rfl rfl (lb rfl) fun m1 => ?_))))
  refine ZaC keyS hJ rfl rfl rfl (lb rfl) fun m2 => ?_
  refine ZaC keyS hJ rfl rfl rfl (lb rfl) fun m3 => ?_
  refine Zdb keyS (fun z' : Hy => AV.agg (hyC z')) hJ rfl rfl rfl (lb rfl) fun m4 => ?_
  refine Zdb keyS (fun z' : ByteArray => AV.str z') hJ rfl rfl rfl (lb rfl) fun m5 => ?_
  refine sq (.agg [.lit (.map (some m1)), .lit (.map (some m2)), .lit (.map (some m3)), .lit (.map (some m4)), .lit (.map (some m5))]) rfl rfl (lb rfl) (fun a _ h => ZfH (us := [a.eval (Go.Operand.tmp 25), a.eval (Go.Operand.tmp 26), a.eval (Go.Operand.tmp 27), a.eval (Go.Operand.tmp 28), a.eval (Go.Operand.tmp 29)]) Zgf rfl (by simp) (ZX (h.get 4 rfl) (ZX (h.get 3 rfl) (ZX (h.get 2 rfl) (ZX (h.get 1 rfl) (ZX (h.get 0 rfl) X0))))) rfl h.x) (sq (.ptr [.lit (.map (some m1)), .lit (.map (some m2)), .lit (.map (some m3)), .lit (.map (some m4)), .lit (.map (some m5))]) rfl rfl (lb rfl) (fun _ _ h => Yv rfl (h.get 0 rfl) (Zr hS _ h.keep h.x _ (Nat.le_refl _)) (jo hJ h.x)) (sv tb rfl rfl rfl rfl (Zy ?_)))
  refine kw (lz [0, 8] (env' := [(_, _), (_, _)]) rfl) ?_
  refine nx (Za (Za (Zn (sv tb rfl rfl rfl rfl (sv (av := .agg (dbC d)) tb rfl rfl rfl rfl ?_)))))
  refine kw pm2 ?_
  refine kw pm2 ?_
  refine kw pm2 ?_
  refine kw pm3 ?_
  refine kw pm4 ?_
  refine Zat (O := [OB.set keyS m1 ([] : List ByteArray), OB.set keyS m2 ([] : List ByteArray)]) (R := [OB.map keyS (fun z' : ByteArray => AV.str z') m5 ([] : List (ByteArray × ByteArray)), OB.map keyS (fun z' : Hy => AV.agg (hyC z')) m4 ([] : List (ByteArray × Hy)), OB.set keyS m3 ([] : List ByteArray)]) (ZiZ hJ (M1 := m1) (M2 := m2) (M3 := m3) (M4 := m4) (M5 := m5) (d := d) ) Zof rfl rfl rfl (lb rfl) hS hJ0 ZP (fun a w h => (Zc (h.get 1 rfl) (Zc (h.get 0 rfl) Zm))) fun z6 => ?_
  refine sv tb rfl rfl rfl rfl (Zy ?_)
  refine kw (lz [0, 4, 5] (env' := [(_, _), (_, _), (_, _)]) rfl) ?_
  refine nx (Za (rgo tb hJ [0, 1, 2, 1001] [_, _] [] [(_, _), (_, _), (_, _), (_, .bool (!decide (Xf d = (0 : Int))))] rfl rfl rfl rfl trivial (nx (tc 3 rfl rfl (fun hb2 => ?_) (fun hb2 => ?_)))))
  ·
   have e9 : Yz d = Xf d := by rw [Yz, if_neg hb1, if_pos hb2]
   refine Za (rgo tb hJ [1001] [_, _] [] [(_, .int (Xf d))] rfl rfl rfl rfl trivial (nx (Zi (fun a w h => Zh (m := 0) rfl (Zl h) rfl (congrArg AV.int (show (Xf d) = (Yz d) from e9.symm))))))
  ·
   have e2 : Xf d = 0 := Zek hb2
   have z2 := z6.2 e2
   replace hb2 := (Bool.not_eq_true _).mpr hb2
   refine tw (ob0 (congrArg (fun z' => OB.set keyS m1 (z')) (show z6.1.1 = d.consts from by rw [z2]))) ?_
   refine tw (ob1 (congrArg (fun z' => OB.set keyS m2 (z')) (show z6.1.2 = d.vars from by rw [z2]))) ?_
   refine Zd (nx (Za (rgo tb hJ [1, 2, 1000] [_] [] [(_, _), (_, _), (_, .lit (.slice none 0 0))] rfl rfl rfl rfl trivial (nx (Za (Za (rgo tb hJ [0, 2, 1001, 1002, 1003] [_, _, _, _] [2] [(_, _), (_, _), (_, .rd (Yn d.frames)), (_, .int d.frames.length), (_, .int (0 : Int))] rfl rfl rfl rfl ⟨Ys YH rfl rfl rfl rfl, trivial⟩ (nx (Ze ?_)))))))))
   refine tw (fun h => Y8 h (m := 1) (s := 5) rfl) ?_
   refine Zw (ι := Nat × (List Hy) × (List ByteArray) × (List (ByteArray × Hy)) × (List (ByteArray × ByteArray))) (fun (ii' : Nat × (List Hy) × (List ByteArray) × (List (ByteArray × Hy)) × (List (ByteArray × ByteArray))) a w => match ii' with | (k, bf, fs, hm, tm) => ((k ≤ d.frames.length) ∧ (KInv d k fs hm tm bf) ∧ (∀ j, j < k → frE d j = 0)) ∧ St All (SO S [OB.set keyS m1 d.consts, OB.set keyS m2 d.vars, OB.map keyS (fun z' : ByteArray => AV.str z') m5 tm, OB.map keyS (fun z' : Hy => AV.agg (hyC z')) m4 hm, OB.set keyS m3 fs]) w0 55 [(3, .ptr [.lit (.map (some m1)), .lit (.map (some m2)), .lit (.map (some m3)), .lit (.map (some m4)), .lit (.map (some m5))]), (39, .rd (Yn d.frames)), (40, .int d.frames.length), (41, .int k), (5, .rd (Z4 bf))] (XO J S w0.heap.size [OB.set keyS m1 d.consts, OB.set keyS m2 d.vars, OB.map keyS (fun z' : ByteArray => AV.str z') m5 tm, OB.map keyS (fun z' : Hy => AV.agg (hyC z')) m4 hm, OB.set keyS m3 fs]) a w) (fun (ii' : Nat × (List Hy) × (List ByteArray) × (List (ByteArray × Hy)) × (List (ByteArray × ByteArray))) => match ii' with | (k, _, _, _, _) => (d.frames.length - k : Nat)) ?_ ?_
   ·
    intro a w h
    exact ⟨(0, [], ([] : List ByteArray), ([] : List (ByteArray × Hy)), ([] : List (ByteArray × ByteArray))), (show (0 ≤ d.frames.length) ∧ (KInv d 0 ([] : List ByteArray) ([] : List (ByteArray × Hy)) ([] : List (ByteArray × ByteArray)) ([])) ∧ (∀ j, j < 0 → frE d j = 0) from ⟨Nat.zero_le _, Zjp d, fun j hj => by omega⟩), lz [1, 2, 3, 4, 0] rfl h⟩
   ·
    rintro ⟨k, bf, fs, hm, tm⟩
    refine ZD fun hF => ?_
    obtain ⟨f1_1, f1_2, f1_3⟩ := hF
    refine Za (rgo tb hJ [0, 1, 2, 3, 4, 1000] [_] [] [(_, _), (_, _), (_, _), (_, _), (_, _), (_, .bool (decide ((k : Int) < (d.frames.length : Int))))] rfl rfl rfl rfl trivial (nx (Zf (fun a w h => Zj h 4 rfl) fun hl2 => Za (tc 5 rfl rfl (fun hb3 => ?_) (fun hb3 => ?_)))))
    ·
     try simp at hb3
     refine Zd (nx (Za (Ze (Za (Zn (sq (.ptr (frC (ge d.frames k))) rfl rfl (lb rfl) (fun _ _ h => ZI (i := (k : Int)) Ye rfl (h.get 1 rfl) (h.get 3 rfl) (Int.natCast_nonneg _) (ZL (xs := d.frames) (k := k) (by first | omega | (simp; omega) | grind [Zb])) rfl h.x) (sv (av := .agg (frC (ge d.frames k))) tb rfl rfl rfl rfl (QZ (cs := frC (ge d.frames k)) ZdC rfl rfl rfl (lb rfl) rfl rfl rfl (by decide) (m := 0) rfl rfl (fun a w h => Zr hS _ h.keep h.x _ (Nat.le_refl _)) (fun a w h w' hk' => YY hJ _ _ hk' h.x) (Zy ?_)))))))))
     refine kw (lz [0, 3, 4, 5, 6, 7] (env' := [(_, _), (_, _), (_, _), (_, _), (_, _), (_, _)]) rfl) ?_
     refine nx (Za (Za (Zn (sv tb rfl rfl rfl rfl (sv (av := .agg (frC (ge d.frames k))) tb rfl rfl rfl rfl (sv tb rfl rfl rfl rfl ?_))))))
     refine kw pm2 ?_
     refine kw pm3 ?_
     refine kw pm4 ?_
     refine kw pm4 ?_
     refine kw pm4 ?_
     refine Zat (O := [OB.set keyS m1 d.consts, OB.set keyS m2 d.vars, OB.set keyS m3 fs, OB.map keyS (fun z' : Hy => AV.agg (hyC z')) m4 hm, OB.map keyS (fun z' : ByteArray => AV.str z') m5 tm]) (R := []) (Znw hJ (M1 := m1) (M2 := m2) (M3 := m3) (M4 := m4) (M5 := m5) (cs := d.consts) (vs := d.vars) (fs := fs) (hm := hm) (tm := tm) (f := (ge d.frames k)) (bf := bf) (hw _ (Zb (by omega))) (hG)) Zoe rfl rfl rfl (lb rfl) hS hJ0 ZP (fun a w h => (Zc (h.get 2 rfl) (Zc (h.get 1 rfl) (Zc (h.get 0 rfl) Zm)))) fun z7 => ?_
     refine sv tb rfl rfl rfl rfl (Zy ?_)
     refine kw (lz [0, 5, 6, 7, 8, 9] (env' := [(_, _), (_, _), (_, _), (_, _), (_, _), (_, _)]) rfl) ?_
     refine nx (Za (rgo tb hJ [0, 1, 2, 3, 4, 5, 1001] [_, _] [] [(_, _), (_, _), (_, _), (_, _), (_, _), (_, _), (_, .bool (!decide (Y7 d.consts d.vars fs hm tm (ge d.frames k) bf = (0 : Int))))] rfl rfl rfl rfl trivial (nx (tc 6 rfl rfl (fun hb4 => ?_) (fun hb4 => ?_)))))
     ·
      have e4 : frE d k ≠ 0 := by rw [← Zbu f1_2 (by omega)]; exact ZaX hb4
      have e9 : Yz d = Y7 d.consts d.vars fs hm tm (ge d.frames k) bf := by rw [Yz, if_neg hb1, if_neg hb2, Z9 (by omega) f1_3 e4, Zbu f1_2 (by omega)]
      refine Za (rgo tb hJ [1001] [_, _] [] [(_, .int (Y7 d.consts d.vars fs hm tm (ge d.frames k) bf))] rfl rfl rfl rfl trivial (nx (Zi (fun a w h => Zh (m := 0) rfl (Zl h) rfl (congrArg AV.int (show (Y7 d.consts d.vars fs hm tm (ge d.frames k) bf) = (Yz d) from e9.symm))))))
     ·
      have e4 : frE d k = 0 := by rw [← Zbu f1_2 (by omega)]; exact Zek hb4
      have z4 := z7.2 (Zek hb4)
      refine Zd (nx (rgo tb hJ [2, 3, 4, 5, 1001, 1002] [_, _, _] [1] [(_, _), (_, _), (_, _), (_, _), (_, .rd (Z4 (ZZ (ge d.frames k).hyps))), (_, .rd (Z4 (ZZ (ge d.frames k).hyps)))] rfl rfl rfl rfl ⟨hFo hS hJ (ZbC hJ (f := (ge d.frames k)) (by have := (Zg5 e4).1; omega)) ZjT rfl rfl rfl rfl, trivial⟩ (nx (Zf (fun a w h => Zj h 4 rfl) fun hl3 => rgo tb hJ [0, 1, 2, 5, 1001] [.int ((k + 1 : Nat) : Int), _] [0] [(_, _), (_, _), (_, _), (_, _), (_, .int ((k + 1 : Nat) : Int))] rfl rfl rfl rfl ⟨Yc (by first | omega | (simp; omega) | grind [Zb]) rfl rfl rfl rfl rfl, trivial⟩ ?_))))
      refine kw pm2 ?_
      refine kw pm3 ?_
      refine kw pm4 ?_
      refine kw pm4 ?_
      refine kw pm4 ?_
      intro a w h; change ∃ j, _ ∧ _
      exact ⟨(k + 1, (ZZ (ge d.frames k).hyps), z7.1.1, z7.1.2.1, z7.1.2.2), ⟨⟨(show (k + 1) ≤ d.frames.length from by omega), (show KInv d (k + 1) z7.1.1 z7.1.2.1 z7.1.2.2 (ZZ (ge d.frames k).hyps) from by rw [z4.1, z4.2.1]; exact Zjq f1_2 (by omega) e4 z4.2.2), (show ∀ j, j < (k + 1) → frE d j = 0 from ZW f1_3 e4)⟩, lz [0, 1, 2, 4, 3] rfl h⟩, (show d.frames.length - (k + 1) < d.frames.length - k from by first | omega | (simp; omega))⟩
    ·
     try simp at hb3
     have e9 : Yz d = 0 := by rw [Yz, if_neg hb1, if_neg hb2]; exact Xl fun j hj => f1_3 j (by omega)
     refine Zv (nx (Za (rgo tb hJ [1000] [_] [] [(_, .int (0 : Int))] rfl rfl rfl rfl trivial (nx (Zi (fun a w h => Zh (m := 0) rfl (Zl h) rfl (congrArg AV.int (show (0 : Int) = (Yz d) from e9.symm))))))))

end Go.Proofs.YtnpgmdffjemnbaaGreatDoor
