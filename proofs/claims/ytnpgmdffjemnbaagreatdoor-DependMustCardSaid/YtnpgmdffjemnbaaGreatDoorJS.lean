/-
  CONTRACTS of the program: a frame.
  PLAIN LAW: what the program knows of a database and what the reference computes anew.
  PLAIN LAW: the program's check of a database is the reference's.
  CONTRACTS of the program: the check of a database.
-/
import Derived.Test.YtnpgmdffjemnbaaGreatDoorJR
set_option maxHeartbeats 8000000
set_option maxRecDepth 100000
namespace Go.Proofs.YtnpgmdffjemnbaaGreatDoor
open Go.RowKit

theorem p_frame {J : World → Prop} (hJ : Stab J) (M1 : Nat) (M2 : Nat) (M3 : Nat) (M4 : Nat) (M5 : Nat) (cs : List ByteArray) (vs : List ByteArray) (fs : List ByteArray) (hm : List (ByteArray × Hy)) (tm : List (ByteArray × ByteArray)) (f : Fr) (bf : List Hy) (hw : f.wide.length * 32 ≤ 140737488351232) (hG : FormsJ J) : FnM (ι := { q' : List ByteArray × List (ByteArray × Hy) × List (ByteArray × ByteArray) // frmK cs vs fs hm tm f bf = 0 → q'.1 = addS fs f.label ∧ q'.2.1 = hmK hm (alH f) ∧ ∀ k', mget q'.2.2 k' = if (mget (tsK (alH f)) k').isSome then mget (tsK (alH f)) k' else mget tm k' }) Tryz.prog J 76 [] [.ptr [.lit (.map (some M1)), .lit (.map (some M2)), .lit (.map (some M3)), .lit (.map (some M4)), .lit (.map (some M5))], .agg (frC f), .rd (hysC bf)] [OB.set keyS M1 cs, OB.set keyS M2 vs, OB.set keyS M3 fs, OB.map keyS (fun z' : Hy => AV.agg (hyC z')) M4 hm, OB.map keyS (fun z' : ByteArray => AV.str z') M5 tm] (fun _ => .int (frmK cs vs fs hm tm f bf)) (fun i' => [OB.set keyS M1 cs, OB.set keyS M2 vs, OB.set keyS M3 (i'.1.1), OB.map keyS (fun z' : Hy => AV.agg (hyC z')) M4 (i'.1.2.1), OB.map keyS (fun z' : ByteArray => AV.str z') M5 (i'.1.2.2)]) := by
 refine fn_enterM (N := 183) Tryz.func76 rfl rfl (lb rfl) fun S w0 R hS hJ0 hH => ?_
 refine tr_weak (B := St All (SO S (OB.set keyS M1 cs :: OB.set keyS M2 vs :: OB.set keyS M3 fs :: OB.map keyS (fun z' : Hy => AV.agg (hyC z')) M4 hm :: OB.map keyS (fun z' : ByteArray => AV.str z') M5 tm :: R)) w0 183 [(0, .ptr [.lit (.map (some M1)), .lit (.map (some M2)), .lit (.map (some M3)), .lit (.map (some M4)), .lit (.map (some M5))]), (1, .agg (frC f)), (2, .rd (hysC bf))] (XO J S w0.heap.size (OB.set keyS M1 cs :: OB.set keyS M2 vs :: OB.set keyS M3 fs :: OB.map keyS (fun z' : Hy => AV.agg (hyC z')) M4 hm :: OB.map keyS (fun z' : ByteArray => AV.str z') M5 tm :: R))) ?_ fun a w h => h
 refine tr_fact (fun a w h => len_le h 2 rfl) fun hl1 => tr_fact (fun a w h => fr_small (h.get 1 rfl)) fun hsm => ?_
 refine k_seq (rgo tb hJ [2, 1000, 1001] [_, _, _] [0, 1] [(_, _), (_, .ptr [.ptr [.lit (.map (some M1)), .lit (.map (some M2)), .lit (.map (some M3)), .lit (.map (some M4)), .lit (.map (some M5))]]), (_, .ptr (frC f))] rfl rfl rfl rfl ⟨fun _ _ hk hx hl _ => r_box1p rfl (hl.env 0 0 _ rfl rfl) (xo_new hS _ hk hx _ (Nat.le_refl _)) (jo hJ hx), fun _ _ hk hx hl _ => r_box rfl (hl.env 1 1 _ rfl rfl) (xo_new hS _ hk hx _ (Nat.le_refl _)) (jo hJ hx), trivial⟩ (nx (k_seq (k_seq (rgo tb hJ [0, 1, 2, 1003] [_, _, .bool (labB f.label), _] [2] [(_, _), (_, _), (_, _), (_, .bool (!(labB f.label)))] rfl rfl rfl rfl ⟨hFo hS hJ (p_IsLabel hJ (s := f.label) ) call_88 rfl rfl rfl rfl, trivial⟩ (nx (tc 3 rfl rfl (fun hb1 => ?_) (fun hb1 => ?_))))))))
 ·
  have e9 : frmK cs vs fs hm tm f bf = 2 := by rw [frmK, if_pos hb1]
  refine k_seq (rgo tb hJ [1000] [_] [] [(_, .int (2 : Int))] rfl rfl rfl rfl trivial (nx ?_))
  refine tw (ob2 (congrArg (fun z' => OB.set keyS M3 (z')) (show fs = (((⟨(fs, hm, tm), by first | (intro h9; rw [e9] at h9; exact absurd h9 (by first | decide | exact nz)) | (intro _; exact ⟨rfl, by rw [f2_2, take_all (by omega)], fun k' => by rw [NOGHOST.2 k', e3]⟩)⟩ : { q' : List ByteArray × List (ByteArray × Hy) × List (ByteArray × ByteArray) // frmK cs vs fs hm tm f bf = 0 → q'.1 = addS fs f.label ∧ q'.2.1 = hmK hm (alH f) ∧ ∀ k', mget q'.2.2 k' = if (mget (tsK (alH f)) k').isSome then mget (tsK (alH f)) k' else mget tm k' }).1.1)) from rfl))) ?_
  refine tw (ob3 (congrArg (fun z' => OB.map keyS (fun z' : Hy => AV.agg (hyC z')) M4 (z')) (show hm = (((⟨(fs, hm, tm), by first | (intro h9; rw [e9] at h9; exact absurd h9 (by first | decide | exact nz)) | (intro _; exact ⟨rfl, by rw [f2_2, take_all (by omega)], fun k' => by rw [NOGHOST.2 k', e3]⟩)⟩ : { q' : List ByteArray × List (ByteArray × Hy) × List (ByteArray × ByteArray) // frmK cs vs fs hm tm f bf = 0 → q'.1 = addS fs f.label ∧ q'.2.1 = hmK hm (alH f) ∧ ∀ k', mget q'.2.2 k' = if (mget (tsK (alH f)) k').isSome then mget (tsK (alH f)) k' else mget tm k' }).1.2.1)) from rfl))) ?_
  refine tw (ob4 (congrArg (fun z' => OB.map keyS (fun z' : ByteArray => AV.str z') M5 (z')) (show tm = (((⟨(fs, hm, tm), by first | (intro h9; rw [e9] at h9; exact absurd h9 (by first | decide | exact nz)) | (intro _; exact ⟨rfl, by rw [f2_2, take_all (by omega)], fun k' => by rw [NOGHOST.2 k', e3]⟩)⟩ : { q' : List ByteArray × List (ByteArray × Hy) × List (ByteArray × ByteArray) // frmK cs vs fs hm tm f bf = 0 → q'.1 = addS fs f.label ∧ q'.2.1 = hmK hm (alH f) ∧ ∀ k', mget q'.2.2 k' = if (mget (tsK (alH f)) k').isSome then mget (tsK (alH f)) k' else mget tm k' }).1.2.2)) from rfl))) ?_
  refine tr_ret (fun a w h => leaveM1  (m := 0) (⟨(fs, hm, tm), by first | (intro h9; rw [e9] at h9; exact absurd h9 (by first | decide | exact nz)) | (intro _; exact ⟨rfl, by rw [f2_2, take_all (by omega)], fun k' => by rw [NOGHOST.2 k', e3]⟩)⟩ : { q' : List ByteArray × List (ByteArray × Hy) × List (ByteArray × ByteArray) // frmK cs vs fs hm tm f bf = 0 → q'.1 = addS fs f.label ∧ q'.2.1 = hmK hm (alH f) ∧ ∀ k', mget q'.2.2 k' = if (mget (tsK (alH f)) k').isSome then mget (tsK (alH f)) k' else mget tm k' }) rfl h rfl (congrArg AV.int (show (2 : Int) = (frmK cs vs fs hm tm f bf) from e9.symm)))
 ·
  refine tr_skip (nx (k_seq (k_seq ?_)))
  refine fun a w h => region_G (γ := Nat) (fun ix' => ([.ptr [.lit (.map (some M1)), .lit (.map (some M2)), .lit (.map (some M3)), .lit (.map (some M4)), .lit (.map (some M5))], .ptr [.lit (.map (some M1)), .lit (.map (some M2)), .lit (.map (some M3)), .lit (.map (some M4)), .lit (.map (some M5))], .ptr [.lit (.map (some M4)), .lit (.map (some M5))], .lit (.map (some M4)), .ptr (frC f), .str f.label, .tup [.agg (hyC (((mget hm f.label).getD default))), .bool ((mget hm f.label).isSome)], .tup [.agg (hyC (((mget hm f.label).getD default))), .bool ((mget hm f.label).isSome)], .agg (hyC (((mget hm f.label).getD default))), .bool ((mget hm f.label).isSome), .any, .any, .bool ((mget hm f.label).isSome)] : List AV).getD ix' .any) (fun ix' => ([true, true, true, true, true, true, true, true, true, true, true, true, true] : List Bool).getD ix' true) [(2, fun (g : Nat) => .rd (hysC bf)), (3, fun (g : Nat) => .ptr [.ptr [.lit (.map (some M1)), .lit (.map (some M2)), .lit (.map (some M3)), .lit (.map (some M4)), .lit (.map (some M5))]]), (4, fun (g : Nat) => .ptr (frC f)), (8, fun (g : Nat) => .bool ((mget hm f.label).isSome))] (fun (j' : Nat) (g : Nat) => match j' with | 0 => (OB.set keyS M1 cs :: OB.set keyS M2 vs :: OB.set keyS M3 fs :: OB.map keyS (fun z' : Hy => AV.agg (hyC z')) M4 hm :: OB.map keyS (fun z' : ByteArray => AV.str z') M5 tm :: R) | 1 => (OB.var g [.lit (.string (⟨#[]⟩ : ByteArray)), .lit (.bool false), strsC ([] : List ByteArray)] :: OB.set keyS M1 cs :: OB.set keyS M2 vs :: OB.set keyS M3 fs :: OB.map keyS (fun z' : Hy => AV.agg (hyC z')) M4 hm :: OB.map keyS (fun z' : ByteArray => AV.str z') M5 tm :: R) | _ => (OB.var g [.lit (.string ((((mget hm f.label).getD default)).label)), .lit (.bool ((((mget hm f.label).getD default)).floating)), strsC ((((mget hm f.label).getD default)).text)] :: OB.set keyS M1 cs :: OB.set keyS M2 vs :: OB.set keyS M3 fs :: OB.map keyS (fun z' : Hy => AV.agg (hyC z')) M4 hm :: OB.map keyS (fun z' : ByteArray => AV.str z') M5 tm :: R)) (fun (k' : Nat) (g : Nat) => match k' with | 0 => (.pointer (some ⟨g, 0, none⟩)) | 1 => undef | _ => undef) [10, 11] 2 0 (fun _ => rfl) h hJ mixedE rfl rfl rfl rfl rfl rfl (fun j' g hj p hp => by rcases j' with _ | _ | _ | j' <;> first | exact hp | exact List.mem_cons_of_mem _ hp | exact List.mem_cons_of_mem _ (List.mem_cons_of_mem _ hp) | (exfalso; omega)) ⟨?o3_1_0, ⟨?o3_1_1, ⟨?o3_1_2, ⟨?o3_1_3, ⟨?o3_1_4, ⟨?o3_1_5, ⟨?o3_1_6, ⟨?o3_1_7, ⟨?o3_1_8, ⟨?o3_1_9, ⟨?o3_1_10, ⟨?o3_1_11, ⟨?o3_1_12, trivial⟩⟩⟩⟩⟩⟩⟩⟩⟩⟩⟩⟩⟩ ⟨?e3_1_0, ⟨?e3_1_1, trivial⟩⟩ ⟨.old 0 2 _ rfl rfl, ⟨.old 1 3 _ rfl rfl, ⟨.old 2 4 _ rfl rfl, ⟨.new 12 8 _ rfl rfl rfl, trivial⟩⟩⟩⟩ ?n3_1
  case o3_1_0 => exact fun _ O' _ => ⟨rfl, fun _ _ _ hx hl _ => r_load1p one_97 rfl (hl.env 1 3 _ rfl rfl) hx⟩
  case o3_1_1 => exact fun _ O' _ => ⟨rfl, fun _ _ _ hx hl _ => r_nilCheck rfl (hl.dep 0 24 _ rfl rfl rfl rfl) hx⟩
  case o3_1_2 => exact fun _ O' _ => ⟨rfl, fun _ _ _ hx hl _ => r_field fld_103_3_3 rfl (hl.dep 1 25 _ rfl rfl rfl rfl) hx⟩
  case o3_1_3 => exact fun _ O' _ => ⟨rfl, fun _ _ _ hx hl _ => r_load1 one_100 rfl (hl.dep 2 26 _ rfl rfl rfl rfl) hx⟩
  case o3_1_4 => exact fun _ O' _ => ⟨rfl, fun _ _ _ hx hl _ => r_field fld_59_0_0 rfl (hl.env 2 4 _ rfl rfl) hx⟩
  case o3_1_5 => exact fun _ O' _ => ⟨rfl, fun _ _ _ hx hl _ => r_load1 one_9 rfl (hl.dep 4 28 _ rfl rfl rfl rfl) hx⟩
  case o3_1_6 => exact fun _ O' hO' => ⟨rfl, fun _ _ _ hx hl _ => r_lookup2 (Kd := keyS) (f := (fun z' : Hy => AV.agg (hyC z'))) (L := hm) mapT_100_9_109 zeroF_109_hy f.label rfl (own_now hx (hO' _ (mo 3 rfl))) (hl.dep 3 27 _ rfl rfl rfl rfl) (hl.dep 5 29 _ rfl rfl rfl rfl) hx⟩
  case o3_1_7 => exact fun _ O' _ => ⟨rfl, fun _ _ _ hx hl _ => r_move rfl (hl.dep 6 30 _ rfl rfl rfl rfl) hx⟩
  case o3_1_8 => exact fun _ O' _ => ⟨rfl, fun _ _ _ hx hl _ => r_extract rfl (hl.dep 7 23 _ rfl rfl rfl rfl) rfl hx⟩
  case o3_1_9 => exact fun _ O' _ => ⟨rfl, fun _ _ _ hx hl _ => r_extract rfl (hl.dep 7 23 _ rfl rfl rfl rfl) rfl hx⟩
  case o3_1_10 => exact not_in_row rfl
  case o3_1_11 => exact not_in_row rfl
  case o3_1_12 => exact fun _ O' _ => ⟨rfl, fun _ _ _ hx hl _ => r_assign rfl (hl.dep 9 32 _ rfl rfl rfl rfl) hx⟩
  case e3_1_0 => exact ⟨_, rfl, rfl, rfl, rfl, fun g _ w hk hx _ _ => does_mono (d_alloc varC_109_sbl hJ rfl hk hx) fun v w' ⟨g', hv, hp⟩ => ⟨g', rfl, fun k' hk' => absurd hk' (Nat.not_lt_zero _), fun _ => hv, hp⟩⟩
  case e3_1_1 => exact ⟨_, rfl, rfl, rfl, rfl, fun g _ w hk hx hl hs => (by obtain ⟨us2, hv2, hr3⟩ := rel_agg (cs := [.lit (.string ((((mget hm f.label).getD default)).label)), .lit (.bool ((((mget hm f.label).getD default)).floating)), strsC ((((mget hm f.label).getD default)).text)]) (hl.dep 8 31 _ rfl rfl rfl rfl); exact does_mono (d_storeV (S' := S) (off := 0) (cs := [.lit (.string (⟨#[]⟩ : ByteArray)), .lit (.bool false), strsC ([] : List ByteArray)]) (news := [.lit (.string ((((mget hm f.label).getD default)).label)), .lit (.bool ((((mget hm f.label).getD default)).floating)), strsC ((((mget hm f.label).getD default)).text)]) (es := [.lit (.string ((((mget hm f.label).getD default)).label)), .lit (.bool ((((mget hm f.label).getD default)).floating)), strsC ((((mget hm f.label).getD default)).text)]) (us := us2) hJ hJ0 size_109_3 rfl hk hx (rel_at (hs 0 10 _ 7 (by omega) rfl rfl rfl)) (by rw [hv2]; rfl) hr3 (lb rfl) rfl) fun v w' hp => ⟨g, rfl, fun _ _ => rfl, fun e => (by cases e), hp⟩)⟩
  clear a w h
  intro b1
  change ∀ a w, St All (SO S (OB.var b1 [.lit (.string ((((mget hm f.label).getD default)).label)), .lit (.bool ((((mget hm f.label).getD default)).floating)), strsC (((((mget hm f.label).getD default)).text))] :: OB.set keyS M1 cs :: OB.set keyS M2 vs :: OB.set keyS M3 fs :: OB.map keyS (fun z' : Hy => AV.agg (hyC z')) M4 hm :: OB.map keyS (fun z' : ByteArray => AV.str z') M5 tm :: R)) w0 183 [(2, .rd (hysC bf)), (3, .ptr [.ptr [.lit (.map (some M1)), .lit (.map (some M2)), .lit (.map (some M3)), .lit (.map (some M4)), .lit (.map (some M5))]]), (4, .ptr (frC f)), (8, .bool ((mget hm f.label).isSome))] (XO J S w0.heap.size (OB.var b1 [.lit (.string ((((mget hm f.label).getD default)).label)), .lit (.bool ((((mget hm f.label).getD default)).floating)), strsC (((((mget hm f.label).getD default)).text))] :: OB.set keyS M1 cs :: OB.set keyS M2 vs :: OB.set keyS M3 fs :: OB.map keyS (fun z' : Hy => AV.agg (hyC z')) M4 hm :: OB.map keyS (fun z' : ByteArray => AV.str z') M5 tm :: R)) a w → _
  refine kw st_drop ?_
  refine nx (k_seq (rgo tb hJ [0, 1, 2, 1015] [_, _, _, _, _, .bool (decide (f.label ∈ cs) || decide (f.label ∈ vs)), _, _, _, _, _, _, _, _, .bool (decide (f.label ∈ fs)), _] [5, 14] [(_, _), (_, _), (_, _), (_, .bool ((((mget hm f.label).isSome) || (decide (f.label ∈ cs) || decide (f.label ∈ vs))) || (decide (f.label ∈ fs))))] rfl rfl rfl rfl ⟨fun _ _ hk hx hl hc => r_fnR (p_isSymbol hJ (M1 := M1) (M2 := M2) (M3 := M3) (M4 := M4) (M5 := M5) (cs := cs) (vs := vs) (s := f.label) ) call_87 rfl (xo_new hS _ hk hx) (hx.1) (has_cons (own_now hx (mo 0 rfl)) (has_cons (own_now hx (mo 1 rfl)) has_nil)) (relL_cons (hl.dep 2 35 _ rfl rfl rfl hc) (relL_cons (hl.dep 4 37 _ rfl rfl rfl hc) relL_nil)) (jo hJ hx), fun _ _ _ hx hl hc => r_lookupS (Kd := keyS) (xs := fs) mapT_99_9_4 zeroF_4_set f.label rfl (own_now hx (mo 2 rfl)) (hl.dep 11 44 _ rfl rfl rfl hc) (hl.dep 13 46 _ rfl rfl rfl hc) hx, trivial⟩ (nx (tc 3 rfl rfl (fun hb2 => ?_) (fun hb2 => ?_)))))
  ·
   have e9 : frmK cs vs fs hm tm f bf = 6 := by rw [frmK, if_neg (by rw [hb1]; decide), if_pos hb2]
   refine k_seq (rgo tb hJ [1000] [_] [] [(_, .int (6 : Int))] rfl rfl rfl rfl trivial (nx ?_))
   refine tw (ob2 (congrArg (fun z' => OB.set keyS M3 (z')) (show fs = (((⟨(fs, hm, tm), by first | (intro h9; rw [e9] at h9; exact absurd h9 (by first | decide | exact nz)) | (intro _; exact ⟨rfl, by rw [f2_2, take_all (by omega)], fun k' => by rw [NOGHOST.2 k', e3]⟩)⟩ : { q' : List ByteArray × List (ByteArray × Hy) × List (ByteArray × ByteArray) // frmK cs vs fs hm tm f bf = 0 → q'.1 = addS fs f.label ∧ q'.2.1 = hmK hm (alH f) ∧ ∀ k', mget q'.2.2 k' = if (mget (tsK (alH f)) k').isSome then mget (tsK (alH f)) k' else mget tm k' }).1.1)) from rfl))) ?_
   refine tw (ob3 (congrArg (fun z' => OB.map keyS (fun z' : Hy => AV.agg (hyC z')) M4 (z')) (show hm = (((⟨(fs, hm, tm), by first | (intro h9; rw [e9] at h9; exact absurd h9 (by first | decide | exact nz)) | (intro _; exact ⟨rfl, by rw [f2_2, take_all (by omega)], fun k' => by rw [NOGHOST.2 k', e3]⟩)⟩ : { q' : List ByteArray × List (ByteArray × Hy) × List (ByteArray × ByteArray) // frmK cs vs fs hm tm f bf = 0 → q'.1 = addS fs f.label ∧ q'.2.1 = hmK hm (alH f) ∧ ∀ k', mget q'.2.2 k' = if (mget (tsK (alH f)) k').isSome then mget (tsK (alH f)) k' else mget tm k' }).1.2.1)) from rfl))) ?_
   refine tw (ob4 (congrArg (fun z' => OB.map keyS (fun z' : ByteArray => AV.str z') M5 (z')) (show tm = (((⟨(fs, hm, tm), by first | (intro h9; rw [e9] at h9; exact absurd h9 (by first | decide | exact nz)) | (intro _; exact ⟨rfl, by rw [f2_2, take_all (by omega)], fun k' => by rw [NOGHOST.2 k', e3]⟩)⟩ : { q' : List ByteArray × List (ByteArray × Hy) × List (ByteArray × ByteArray) // frmK cs vs fs hm tm f bf = 0 → q'.1 = addS fs f.label ∧ q'.2.1 = hmK hm (alH f) ∧ ∀ k', mget q'.2.2 k' = if (mget (tsK (alH f)) k').isSome then mget (tsK (alH f)) k' else mget tm k' }).1.2.2)) from rfl))) ?_
   refine tr_ret (fun a w h => leaveM1  (m := 0) (⟨(fs, hm, tm), by first | (intro h9; rw [e9] at h9; exact absurd h9 (by first | decide | exact nz)) | (intro _; exact ⟨rfl, by rw [f2_2, take_all (by omega)], fun k' => by rw [NOGHOST.2 k', e3]⟩)⟩ : { q' : List ByteArray × List (ByteArray × Hy) × List (ByteArray × ByteArray) // frmK cs vs fs hm tm f bf = 0 → q'.1 = addS fs f.label ∧ q'.2.1 = hmK hm (alH f) ∧ ∀ k', mget q'.2.2 k' = if (mget (tsK (alH f)) k').isSome then mget (tsK (alH f)) k' else mget tm k' }) rfl h rfl (congrArg AV.int (show (6 : Int) = (frmK cs vs fs hm tm f bf) from e9.symm)))
  ·
   refine tr_skip (nx (k_seq (k_seq (rgo tb hJ [0, 1, 2, 1001, 1009] [_, _, .int (((f.hyps.length : Nat) : Int)), _, _, _, _, .int (((f.dummies.length : Nat) : Int)), _, _] [2, 7] [(_, _), (_, _), (_, _), (_, .rd (hysC f.hyps)), (_, .bool ((decide ((40 : Int) < ((f.hyps.length : Nat) : Int))) || (decide ((40 : Int) < ((f.dummies.length : Nat) : Int)))))] rfl rfl rfl rfl ⟨hLen unds_56_109 rfl rfl rfl rfl, fun _ _ _ hx hl hc => r_lenM unds_56_109 rfl (hl.dep 6 55 _ rfl rfl rfl hc) hx, trivial⟩ (nx (tr_fact (fun a w h => len_le h 3 rfl) fun hl2 => tc 4 rfl rfl (fun hb3 => ?_) (fun hb3 => ?_)))))))
   ·
    have e9 : frmK cs vs fs hm tm f bf = 4 := by rw [frmK, if_neg (by rw [hb1]; decide), if_neg (by rw [hb2]; decide), if_pos hb3]
    refine k_seq (rgo tb hJ [1000] [_] [] [(_, .int (4 : Int))] rfl rfl rfl rfl trivial (nx ?_))
    refine tw (ob2 (congrArg (fun z' => OB.set keyS M3 (z')) (show fs = (((⟨(fs, hm, tm), by first | (intro h9; rw [e9] at h9; exact absurd h9 (by first | decide | exact nz)) | (intro _; exact ⟨rfl, by rw [f2_2, take_all (by omega)], fun k' => by rw [NOGHOST.2 k', e3]⟩)⟩ : { q' : List ByteArray × List (ByteArray × Hy) × List (ByteArray × ByteArray) // frmK cs vs fs hm tm f bf = 0 → q'.1 = addS fs f.label ∧ q'.2.1 = hmK hm (alH f) ∧ ∀ k', mget q'.2.2 k' = if (mget (tsK (alH f)) k').isSome then mget (tsK (alH f)) k' else mget tm k' }).1.1)) from rfl))) ?_
    refine tw (ob3 (congrArg (fun z' => OB.map keyS (fun z' : Hy => AV.agg (hyC z')) M4 (z')) (show hm = (((⟨(fs, hm, tm), by first | (intro h9; rw [e9] at h9; exact absurd h9 (by first | decide | exact nz)) | (intro _; exact ⟨rfl, by rw [f2_2, take_all (by omega)], fun k' => by rw [NOGHOST.2 k', e3]⟩)⟩ : { q' : List ByteArray × List (ByteArray × Hy) × List (ByteArray × ByteArray) // frmK cs vs fs hm tm f bf = 0 → q'.1 = addS fs f.label ∧ q'.2.1 = hmK hm (alH f) ∧ ∀ k', mget q'.2.2 k' = if (mget (tsK (alH f)) k').isSome then mget (tsK (alH f)) k' else mget tm k' }).1.2.1)) from rfl))) ?_
    refine tw (ob4 (congrArg (fun z' => OB.map keyS (fun z' : ByteArray => AV.str z') M5 (z')) (show tm = (((⟨(fs, hm, tm), by first | (intro h9; rw [e9] at h9; exact absurd h9 (by first | decide | exact nz)) | (intro _; exact ⟨rfl, by rw [f2_2, take_all (by omega)], fun k' => by rw [NOGHOST.2 k', e3]⟩)⟩ : { q' : List ByteArray × List (ByteArray × Hy) × List (ByteArray × ByteArray) // frmK cs vs fs hm tm f bf = 0 → q'.1 = addS fs f.label ∧ q'.2.1 = hmK hm (alH f) ∧ ∀ k', mget q'.2.2 k' = if (mget (tsK (alH f)) k').isSome then mget (tsK (alH f)) k' else mget tm k' }).1.2.2)) from rfl))) ?_
    refine tr_ret (fun a w h => leaveM1  (m := 0) (⟨(fs, hm, tm), by first | (intro h9; rw [e9] at h9; exact absurd h9 (by first | decide | exact nz)) | (intro _; exact ⟨rfl, by rw [f2_2, take_all (by omega)], fun k' => by rw [NOGHOST.2 k', e3]⟩)⟩ : { q' : List ByteArray × List (ByteArray × Hy) × List (ByteArray × ByteArray) // frmK cs vs fs hm tm f bf = 0 → q'.1 = addS fs f.label ∧ q'.2.1 = hmK hm (alH f) ∧ ∀ k', mget q'.2.2 k' = if (mget (tsK (alH f)) k').isSome then mget (tsK (alH f)) k' else mget tm k' }) rfl h rfl (congrArg AV.int (show (4 : Int) = (frmK cs vs fs hm tm f bf) from e9.symm)))
   ·
    have hb3a : f.hyps.length ≤ 40 ∧ f.dummies.length ≤ 40 := by simp at hb3; omega
    refine tr_skip (nx (k_seq ?_))
    refine tw pm2 ?_
    refine fun a w h => region_G (γ := Unit) (fun ix' => ([.ptr [.lit (.map (some M1)), .lit (.map (some M2)), .lit (.map (some M3)), .lit (.map (some M4)), .lit (.map (some M5))], .ptr [.lit (.map (some M1)), .lit (.map (some M2)), .lit (.map (some M3)), .lit (.map (some M4)), .lit (.map (some M5))], .ptr [.lit (.map (some M3)), .lit (.map (some M4)), .lit (.map (some M5))], .lit (.map (some M3)), .ptr (frC f), .str f.label, .any] : List AV).getD ix' .any) (fun ix' => ([true, true, true, true, true, true, true] : List Bool).getD ix' true) [(2, fun (g : Unit) => .rd (hysC bf)), (3, fun (g : Unit) => .ptr [.ptr [.lit (.map (some M1)), .lit (.map (some M2)), .lit (.map (some M3)), .lit (.map (some M4)), .lit (.map (some M5))]]), (4, fun (g : Unit) => .ptr (frC f))] (fun (j' : Nat) (g : Unit) => match j' with | 0 => (OB.set keyS M3 fs :: OB.set keyS M1 cs :: OB.set keyS M2 vs :: OB.map keyS (fun z' : Hy => AV.agg (hyC z')) M4 hm :: OB.map keyS (fun z' : ByteArray => AV.str z') M5 tm :: R) | _ => (OB.set keyS M3 (addS fs f.label) :: OB.set keyS M1 cs :: OB.set keyS M2 vs :: OB.map keyS (fun z' : Hy => AV.agg (hyC z')) M4 hm :: OB.map keyS (fun z' : ByteArray => AV.str z') M5 tm :: R)) (fun (k' : Nat) (g : Unit) => match k' with | 0 => undef | _ => undef) [6] 0 () (fun _ => rfl) h hJ mixedE rfl rfl rfl rfl rfl rfl (fun j' g hj p hp => by rcases j' with _ | _ | _ | j' <;> first | exact hp | exact List.mem_cons_of_mem _ hp | exact List.mem_cons_of_mem _ (List.mem_cons_of_mem _ hp) | (exfalso; omega)) ⟨?o8_2_0, ⟨?o8_2_1, ⟨?o8_2_2, ⟨?o8_2_3, ⟨?o8_2_4, ⟨?o8_2_5, ⟨?o8_2_6, trivial⟩⟩⟩⟩⟩⟩⟩ ⟨?e8_2_0, trivial⟩ ⟨.old 0 2 _ rfl rfl, ⟨.old 1 3 _ rfl rfl, ⟨.old 2 4 _ rfl rfl, trivial⟩⟩⟩ ?n8_2
    case o8_2_0 => exact fun _ O' _ => ⟨rfl, fun _ _ _ hx hl _ => r_load1p one_97 rfl (hl.env 1 3 _ rfl rfl) hx⟩
    case o8_2_1 => exact fun _ O' _ => ⟨rfl, fun _ _ _ hx hl _ => r_nilCheck rfl (hl.dep 0 59 _ rfl rfl rfl rfl) hx⟩
    case o8_2_2 => exact fun _ O' _ => ⟨rfl, fun _ _ _ hx hl _ => r_field fld_103_2_2 rfl (hl.dep 1 60 _ rfl rfl rfl rfl) hx⟩
    case o8_2_3 => exact fun _ O' _ => ⟨rfl, fun _ _ _ hx hl _ => r_load1 one_99 rfl (hl.dep 2 61 _ rfl rfl rfl rfl) hx⟩
    case o8_2_4 => exact fun _ O' _ => ⟨rfl, fun _ _ _ hx hl _ => r_field fld_59_0_0 rfl (hl.env 2 4 _ rfl rfl) hx⟩
    case o8_2_5 => exact fun _ O' _ => ⟨rfl, fun _ _ _ hx hl _ => r_load1 one_9 rfl (hl.dep 4 63 _ rfl rfl rfl rfl) hx⟩
    case o8_2_6 => exact not_in_row rfl
    case e8_2_0 => exact ⟨_, rfl, rfl, rfl, rfl, fun g _ w hk hx hl _ => does_mono (d_putS mapT_99_9_4 hJ hJ0 f.label (.inl rfl) hk hx (hl.dep 3 62 _ rfl rfl rfl rfl) (hl.dep 5 64 _ rfl rfl rfl rfl) (Rel.of_lit (Go.Value.bool true))) fun v w' ⟨_, hp⟩ => ⟨g, rfl, fun _ _ => rfl, fun e => (by cases e), hp⟩⟩
    clear a w h
    intro _
    change ∀ a w, St All (SO S (OB.set keyS M3 (addS fs f.label) :: OB.set keyS M1 cs :: OB.set keyS M2 vs :: OB.map keyS (fun z' : Hy => AV.agg (hyC z')) M4 hm :: OB.map keyS (fun z' : ByteArray => AV.str z') M5 tm :: R)) w0 183 [(2, .rd (hysC bf)), (3, .ptr [.ptr [.lit (.map (some M1)), .lit (.map (some M2)), .lit (.map (some M3)), .lit (.map (some M4)), .lit (.map (some M5))]]), (4, .ptr (frC f))] (XO J S w0.heap.size (OB.set keyS M3 (addS fs f.label) :: OB.set keyS M1 cs :: OB.set keyS M2 vs :: OB.map keyS (fun z' : Hy => AV.agg (hyC z')) M4 hm :: OB.map keyS (fun z' : ByteArray => AV.str z') M5 tm :: R)) a w → _
    refine nx (k_seq (tr_text (sq_mapS keyS hJ rfl rfl rfl (lb rfl) fun m2 => ?_)))
    refine sq_map keyS (fun z' : ByteArray => AV.str z') hJ rfl rfl rfl (lb rfl) fun m3 => ?_
    refine sq (.agg [.lit (.map (some m2)), .lit (.map (some m3))]) rfl rfl (lb rfl) (fun a _ h => r_build (us := [a.eval (Go.Operand.tmp 65), a.eval (Go.Operand.tmp 66)]) build_112_2 rfl (by simp) (rdL_cons (h.get 1 rfl) (rdL_cons (h.get 0 rfl) rdL_nil)) rfl h.x) (sq_alloc varC_112_mm hJ rfl rfl rfl (lb rfl) fun b4 => ?_)
    refine sq_storeN (b := b4) (off := 0) (cs := [.lit (.map none), .lit (.map none)]) (es := [.lit (.map (some m2)), .lit (.map (some m3))]) (news := [.lit (.map (some m2)), .lit (.map (some m3))]) hJ hJ0 size_112_2 rfl rfl rfl (lb rfl) rfl (fun a w h => ⟨(h.get 0 rfl), (h.get 1 rfl)⟩) ?_
    refine kw (fun h => st_freezeV hS h (m := 0) (s := 9) rfl) ?_
    refine sq_end ?_
    refine kw (lz [0, 4, 5, 6] (env' := [(_, _), (_, _), (_, _), (_, _)]) rfl) ?_
    refine nx (k_seq (k_seq (rgo tb hJ [0, 1, 2, 3, 1003, 1004, 1005, 1006, 1007] [_, _, _, _, _, _, _, _] [4, 5, 6] [(_, _), (_, _), (_, _), (_, _), (_, .rd (hysC f.dummies)), (_, .rd (hyssC (([f.hyps, f.dummies] : List (List Hy))))), (_, .rd (hysC (((([f.hyps, f.dummies] : List (List Hy))).flatten)))), (_, .int ((((((([f.hyps, f.dummies] : List (List Hy))).flatten)).length : Nat) : Int))), (_, .int (0 : Int))] rfl rfl rfl rfl ⟨fun a _ hk hx hl _ => r_buildK (k := 2) (us := [a.eval (Go.Operand.tmp 69), a.eval (Go.Operand.tmp 71)]) elem_140_56_1 zeroK_56_1 rfl (by simp) (rdL_cons (hl.dep 1 69 _ rfl rfl rfl rfl) (rdL_cons (hl.dep 3 71 _ rfl rfl rfl rfl) rdL_nil)) rfl (by decide) (by decide) (xo_new hS _ hk hx _ (Nat.le_refl _)) (jo hJ hx), hFo hS hJ (p_ConcatH hJ (ls := (([f.hyps, f.dummies] : List (List Hy)))) (by refine small48 ?_; simp; omega)) call_89 rfl rfl rfl rfl, hLen unds_56_109 rfl rfl rfl rfl, trivial⟩ ?_)))
    refine kw (sa 6 rfl (congrArg (fun z' => AV.rd (hysC z')) (show (((([f.hyps, f.dummies] : List (List Hy))).flatten)) = (alH f) from by simp))) ?_
    refine kw (sa 7 rfl (congrArg AV.int (show (((((([f.hyps, f.dummies] : List (List Hy))).flatten)).length : Nat) : Int) = (((alH f).length : Nat) : Int) from by simp))) ?_
    refine nx (tr_fact (fun a w h => len_le h 4 rfl) fun hl3 => tr_fact (fun a w h => len_le h 5 rfl) fun hl4 => tr_fact (fun a w h => len_le h 6 rfl) fun hl5 => tr_block (tr_loop (ι := Nat × (List ByteArray) × (List (ByteArray × ByteArray))) (fun (ii' : Nat × (List ByteArray) × (List (ByteArray × ByteArray))) a w => match ii' with | (k, ls, ts) => ((k ≤ (alH f).length) ∧ (ls = lsK ((alH f).take k)) ∧ (ts = tsK ((alH f).take k)) ∧ (∀ j, j < k → hyK cs vs fs hm tm f j = 0)) ∧ St All (SO S (OB.map keyS (fun z' : ByteArray => AV.str z') m3 ts :: OB.set keyS m2 ls :: OB.set keyS M3 (addS fs f.label) :: OB.set keyS M1 cs :: OB.set keyS M2 vs :: OB.map keyS (fun z' : Hy => AV.agg (hyC z')) M4 hm :: OB.map keyS (fun z' : ByteArray => AV.str z') M5 tm :: R)) w0 183 [(9, .ptr [.lit (.map (some m2)), .lit (.map (some m3))]), (2, .rd (hysC bf)), (3, .ptr [.ptr [.lit (.map (some M1)), .lit (.map (some M2)), .lit (.map (some M3)), .lit (.map (some M4)), .lit (.map (some M5))]]), (4, .ptr (frC f)), (73, .rd (hysC (alH f))), (74, .int ((((alH f).length : Nat) : Int))), (75, .int (((k : Nat) : Int)))] (XO J S w0.heap.size (OB.map keyS (fun z' : ByteArray => AV.str z') m3 ts :: OB.set keyS m2 ls :: OB.set keyS M3 (addS fs f.label) :: OB.set keyS M1 cs :: OB.set keyS M2 vs :: OB.map keyS (fun z' : Hy => AV.agg (hyC z')) M4 hm :: OB.map keyS (fun z' : ByteArray => AV.str z') M5 tm :: R)) a w) (fun (ii' : Nat × (List ByteArray) × (List (ByteArray × ByteArray))) => match ii' with | (k, _, _) => ((alH f).length - k : Nat)) ?_ ?_))
    ·
     intro a w h
     exact ⟨(0, ([] : List ByteArray), ([] : List (ByteArray × ByteArray))), (show (0 ≤ (alH f).length) ∧ (([] : List ByteArray) = lsK ((alH f).take 0)) ∧ ((([] : List (ByteArray × ByteArray))) = tsK ((alH f).take 0)) ∧ (∀ j, j < 0 → hyK cs vs fs hm tm f j = 0) from ⟨Nat.zero_le _, rfl, rfl, fun j hj => by omega⟩), lz [0, 1, 2, 3, 6, 7, 8] rfl h⟩
    ·
     rintro ⟨k, ls, ts⟩
     refine tr_and fun hF => ?_
     obtain ⟨f1_1, f1_2, f1_3, f1_4⟩ := hF
     refine k_seq (rgo tb hJ [0, 1, 2, 3, 4, 5, 6, 1000] [_] [] [(_, _), (_, _), (_, _), (_, _), (_, _), (_, _), (_, _), (_, .bool (decide (((k : Nat) : Int) < (((alH f).length : Nat) : Int))))] rfl rfl rfl rfl trivial (nx (k_seq (tc 7 rfl rfl (fun hb4 => ?_) (fun hb4 => ?_)))))
     ·
      have hk4 : k < (alH f).length := Int.ofNat_lt.1 (of_decide_eq_true hb4)
      refine tr_skip (nx (k_seq (tr_block (k_seq (tr_text (sv tb rfl rfl rfl rfl (sq (.ptr (hyC ((ge (alH f) k)))) rfl rfl (lb rfl) (fun _ _ h => r_index (i := ((k : Nat) : Int)) elem_56_109_3 rfl (h.get 5 rfl) (h.get 7 rfl) (Int.natCast_nonneg _) (row_nat (xs := alH f) (k := k) (by first | omega | (simp; omega) | grind [ge_mem])) rfl h.x) (sv (av := .agg (hyC ((ge (alH f) k)))) tb rfl rfl rfl rfl (sq_alloc varC_109_sbl hJ rfl rfl rfl (lb rfl) fun b5 => ?_)))))))))
      refine sv tb rfl rfl rfl rfl (sq_storeN (b := b5) (off := 0) (cs := [.lit (.string (⟨#[]⟩ : ByteArray)), .lit (.bool false), strsC ([] : List ByteArray)]) (es := [.lit (.string (((ge (alH f) k)).label)), .lit (.bool (((ge (alH f) k)).floating)), strsC (((ge (alH f) k)).text)]) (news := [.lit (.string (((ge (alH f) k)).label)), .lit (.bool (((ge (alH f) k)).floating)), strsC (((ge (alH f) k)).text)]) hJ hJ0 size_109_3 rfl rfl rfl (lb rfl) rfl (fun a w h => ⟨(h.get 1 rfl), (h.get 2 rfl)⟩) ?_)
      refine kw (fun h => st_freezeV hS h (m := 1) (s := 11) rfl) ?_
      refine sq_end ?_
      refine kw (lz [0, 1, 5, 6, 7, 8, 9, 10, 11] (env' := [(_, _), (_, _), (_, _), (_, _), (_, _), (_, _), (_, _), (_, _), (_, _)]) rfl) ?_
      refine nx (k_seq (k_seq (rgo tb hJ [0, 2, 3, 4, 5, 6, 7, 8, 1009] [_, _, _, _, _, _, .int (((f.hyps.length : Nat) : Int)), _, .int (hypK cs vs (addS fs f.label) hm tm ls ts ((ge (alH f) k)) (decide (((f.hyps.length : Nat) : Int) ≤ ((k : Nat) : Int)))), _] [6, 8] [(_, _), (_, _), (_, _), (_, _), (_, _), (_, _), (_, _), (_, _), (_, .int (hypK cs vs (addS fs f.label) hm tm ls ts ((ge (alH f) k)) (decide (((f.hyps.length : Nat) : Int) ≤ ((k : Nat) : Int)))))] rfl rfl rfl rfl ⟨hLen unds_56_109 rfl rfl rfl rfl, fun _ _ hk hx hl _ => r_fnR (p_hyp hJ (M1 := M1) (M2 := M2) (M3 := M3) (M4 := M4) (M5 := M5) (L1 := m2) (T1 := m3) (cs := cs) (vs := vs) (fs := (addS fs f.label)) (hm := hm) (tm := tm) (ls := ls) (ts := ts) (y := ((ge (alH f) k))) (dm := (decide (((f.hyps.length : Nat) : Int) ≤ ((k : Nat) : Int)))) ) call_90 rfl (xo_new hS _ hk hx) (hx.1) (has_cons (own_now hx (mo 3 rfl)) (has_cons (own_now hx (mo 4 rfl)) (has_cons (own_now hx (mo 2 rfl)) (has_cons (own_now hx (mo 5 rfl)) (has_cons (own_now hx (mo 6 rfl)) (has_cons (own_now hx (mo 1 rfl)) (has_cons (own_now hx (mo 0 rfl)) has_nil))))))) (relL_cons (hl.dep 0 80 _ rfl rfl rfl rfl) (relL_cons (hl.dep 1 81 _ rfl rfl rfl rfl) (relL_cons (hl.dep 2 82 _ rfl rfl rfl rfl) (relL_cons (hl.dep 7 87 _ rfl rfl rfl rfl) relL_nil)))) (jo hJ hx), trivial⟩ (nx (k_seq (rgo tb hJ [0, 1, 2, 3, 4, 5, 6, 7, 8, 1001] [_, _] [] [(_, _), (_, _), (_, _), (_, _), (_, _), (_, _), (_, _), (_, _), (_, _), (_, .bool (!decide (hypK cs vs (addS fs f.label) hm tm ls ts ((ge (alH f) k)) (decide (((f.hyps.length : Nat) : Int) ≤ ((k : Nat) : Int))) = (0 : Int))))] rfl rfl rfl rfl trivial (nx (tc 9 rfl rfl (fun hb5 => ?_) (fun hb5 => ?_)))))))))
      ·
       have nz := nd_t hb5
       have e0 : hyK cs vs fs hm tm f k = hypK cs vs (addS fs f.label) hm tm ls ts (ge (alH f) k) (decide (((f.hyps.length : Nat) : Int) ≤ ((k : Nat) : Int))) := by rw [hyK, ← f1_2, ← f1_3]
       have e5 : firstE (alH f).length (hyK cs vs fs hm tm f) = hyK cs vs fs hm tm f k := firstE_hit (by omega) f1_4 (by rw [e0]; exact nz)
       have e9 : frmK cs vs fs hm tm f bf = hypK cs vs (addS fs f.label) hm tm ls ts (ge (alH f) k) (decide (((f.hyps.length : Nat) : Int) ≤ ((k : Nat) : Int))) := by rw [frmK, if_neg (by rw [hb1]; decide), if_neg (by rw [hb2]; decide), if_neg (by rw [hb3]; decide), if_pos (by rw [e5, e0]; exact hb5), e5, e0]
       refine k_seq (rgo tb hJ [1001] [_, _] [] [(_, .int (hypK cs vs (addS fs f.label) hm tm ls ts ((ge (alH f) k)) (decide (((f.hyps.length : Nat) : Int) ≤ ((k : Nat) : Int)))))] rfl rfl rfl rfl trivial (nx ?_))
       refine tw st_drop ?_
       refine tw st_drop ?_
       refine tw pm4 ?_
       refine tw pm4 ?_
       refine tw pm2 ?_
       refine tw pm4 ?_
       refine tw pm4 ?_
       refine tw (ob2 (congrArg (fun z' => OB.set keyS M3 (z')) (show (addS fs f.label) = (((⟨((addS fs f.label), hm, tm), by first | (intro h9; rw [e9] at h9; exact absurd h9 (by first | decide | exact nz)) | (intro _; exact ⟨rfl, by rw [f2_2, take_all (by omega)], fun k' => by rw [NOGHOST.2 k', e3]⟩)⟩ : { q' : List ByteArray × List (ByteArray × Hy) × List (ByteArray × ByteArray) // frmK cs vs fs hm tm f bf = 0 → q'.1 = addS fs f.label ∧ q'.2.1 = hmK hm (alH f) ∧ ∀ k', mget q'.2.2 k' = if (mget (tsK (alH f)) k').isSome then mget (tsK (alH f)) k' else mget tm k' }).1.1)) from rfl))) ?_
       refine tw (ob3 (congrArg (fun z' => OB.map keyS (fun z' : Hy => AV.agg (hyC z')) M4 (z')) (show hm = (((⟨((addS fs f.label), hm, tm), by first | (intro h9; rw [e9] at h9; exact absurd h9 (by first | decide | exact nz)) | (intro _; exact ⟨rfl, by rw [f2_2, take_all (by omega)], fun k' => by rw [NOGHOST.2 k', e3]⟩)⟩ : { q' : List ByteArray × List (ByteArray × Hy) × List (ByteArray × ByteArray) // frmK cs vs fs hm tm f bf = 0 → q'.1 = addS fs f.label ∧ q'.2.1 = hmK hm (alH f) ∧ ∀ k', mget q'.2.2 k' = if (mget (tsK (alH f)) k').isSome then mget (tsK (alH f)) k' else mget tm k' }).1.2.1)) from rfl))) ?_
       refine tw (ob4 (congrArg (fun z' => OB.map keyS (fun z' : ByteArray => AV.str z') M5 (z')) (show tm = (((⟨((addS fs f.label), hm, tm), by first | (intro h9; rw [e9] at h9; exact absurd h9 (by first | decide | exact nz)) | (intro _; exact ⟨rfl, by rw [f2_2, take_all (by omega)], fun k' => by rw [NOGHOST.2 k', e3]⟩)⟩ : { q' : List ByteArray × List (ByteArray × Hy) × List (ByteArray × ByteArray) // frmK cs vs fs hm tm f bf = 0 → q'.1 = addS fs f.label ∧ q'.2.1 = hmK hm (alH f) ∧ ∀ k', mget q'.2.2 k' = if (mget (tsK (alH f)) k').isSome then mget (tsK (alH f)) k' else mget tm k' }).1.2.2)) from rfl))) ?_
       refine tr_ret (fun a w h => leaveM1  (m := 0) (⟨((addS fs f.label), hm, tm), by first | (intro h9; rw [e9] at h9; exact absurd h9 (by first | decide | exact nz)) | (intro _; exact ⟨rfl, by rw [f2_2, take_all (by omega)], fun k' => by rw [NOGHOST.2 k', e3]⟩)⟩ : { q' : List ByteArray × List (ByteArray × Hy) × List (ByteArray × ByteArray) // frmK cs vs fs hm tm f bf = 0 → q'.1 = addS fs f.label ∧ q'.2.1 = hmK hm (alH f) ∧ ∀ k', mget q'.2.2 k' = if (mget (tsK (alH f)) k').isSome then mget (tsK (alH f)) k' else mget tm k' }) rfl h rfl (congrArg AV.int (show (hypK cs vs (addS fs f.label) hm tm ls ts ((ge (alH f) k)) (decide (((f.hyps.length : Nat) : Int) ≤ ((k : Nat) : Int)))) = (frmK cs vs fs hm tm f bf) from e9.symm)))
      ·
       have q5 := nd_f hb5
       have hf5 := hypK_form q5
       refine tr_skip (nx (k_seq (tr_text (sv (av := .ptr [.lit (.map (some m2)), .lit (.map (some m3))]) tb rfl rfl rfl rfl (sv (av := .lit (.map (some m2))) tb rfl rfl rfl rfl (sv (av := .ptr (hyC ((ge (alH f) k)))) tb rfl rfl rfl rfl (sv (av := .str (((ge (alH f) k)).label)) tb rfl rfl rfl rfl ?_)))))))
       refine kw pm1 ?_
       refine sq_putS mapT_99_9_4 hJ hJ0 (((ge (alH f) k)).label) rfl rfl (.inl rfl) (fun a w h => ⟨(h.get 2 rfl), (h.get 0 rfl), (Rel.of_lit (Go.Value.bool true))⟩) (sq_end ?_)
       refine kw (lz [4, 5, 6, 7, 8, 9, 10, 11] (env' := [(_, _), (_, _), (_, _), (_, _), (_, _), (_, _), (_, _), (_, _)]) rfl) ?_
       refine nx (k_seq (rgo tb hJ [0, 1, 2, 3, 4, 5, 6, 7, 1001] [_, _] [] [(_, _), (_, _), (_, _), (_, _), (_, _), (_, _), (_, _), (_, _), (_, .bool (((ge (alH f) k)).floating))] rfl rfl rfl rfl trivial (nx (tc 8 rfl rfl (fun hb6 => ?_) (fun hb6 => ?_)))))
       ·
        try simp at hb6
        refine tw pm1 ?_
        refine fun a w h => region_G (γ := Unit) (fun ix' => ([.ptr [.lit (.map (some m3))], .lit (.map (some m3)), .ptr [strsC (((ge (alH f) k)).text)], .rd (strsC (((ge (alH f) k)).text)), .ptr [.lit (.string ((ge (((ge (alH f) k)).text) 1)))], .str ((ge (((ge (alH f) k)).text) 1)), .ptr [strsC (((ge (alH f) k)).text)], .rd (strsC (((ge (alH f) k)).text)), .ptr [.lit (.string ((ge (((ge (alH f) k)).text) 0)))], .str ((ge (((ge (alH f) k)).text) 0)), .any] : List AV).getD ix' .any) (fun ix' => ([true, true, true, true, true, true, true, true, true, true, true] : List Bool).getD ix' true) [(9, fun (g : Unit) => .ptr [.lit (.map (some m2)), .lit (.map (some m3))]), (2, fun (g : Unit) => .rd (hysC bf)), (3, fun (g : Unit) => .ptr [.ptr [.lit (.map (some M1)), .lit (.map (some M2)), .lit (.map (some M3)), .lit (.map (some M4)), .lit (.map (some M5))]]), (4, fun (g : Unit) => .ptr (frC f)), (73, fun (g : Unit) => .rd (hysC (alH f))), (74, fun (g : Unit) => .int ((((alH f).length : Nat) : Int))), (75, fun (g : Unit) => .int (((k : Nat) : Int)))] (fun (j' : Nat) (g : Unit) => match j' with | 0 => (OB.map keyS (fun z' : ByteArray => AV.str z') m3 ts :: OB.set keyS m2 (addS ls (((ge (alH f) k)).label)) :: OB.set keyS M3 (addS fs f.label) :: OB.set keyS M1 cs :: OB.set keyS M2 vs :: OB.map keyS (fun z' : Hy => AV.agg (hyC z')) M4 hm :: OB.map keyS (fun z' : ByteArray => AV.str z') M5 tm :: R) | _ => (OB.map keyS (fun z' : ByteArray => AV.str z') m3 (mput ts ((ge (((ge (alH f) k)).text) 1)) ((ge (((ge (alH f) k)).text) 0))) :: OB.set keyS m2 (addS ls (((ge (alH f) k)).label)) :: OB.set keyS M3 (addS fs f.label) :: OB.set keyS M1 cs :: OB.set keyS M2 vs :: OB.map keyS (fun z' : Hy => AV.agg (hyC z')) M4 hm :: OB.map keyS (fun z' : ByteArray => AV.str z') M5 tm :: R)) (fun (k' : Nat) (g : Unit) => match k' with | 0 => undef | _ => undef) [10] 0 () (fun _ => rfl) h hJ mixedE rfl rfl rfl rfl rfl rfl (fun j' g hj p hp => by rcases j' with _ | _ | _ | j' <;> first | exact hp | exact List.mem_cons_of_mem _ hp | exact List.mem_cons_of_mem _ (List.mem_cons_of_mem _ hp) | (exfalso; omega)) ⟨?o18_3_0, ⟨?o18_3_1, ⟨?o18_3_2, ⟨?o18_3_3, ⟨?o18_3_4, ⟨?o18_3_5, ⟨?o18_3_6, ⟨?o18_3_7, ⟨?o18_3_8, ⟨?o18_3_9, ⟨?o18_3_10, trivial⟩⟩⟩⟩⟩⟩⟩⟩⟩⟩⟩ ⟨?e18_3_0, trivial⟩ ⟨.old 1 9 _ rfl rfl, ⟨.old 2 2 _ rfl rfl, ⟨.old 3 3 _ rfl rfl, ⟨.old 4 4 _ rfl rfl, ⟨.old 5 73 _ rfl rfl, ⟨.old 6 74 _ rfl rfl, ⟨.old 7 75 _ rfl rfl, trivial⟩⟩⟩⟩⟩⟩⟩ ?n18_3
        case o18_3_0 => exact fun _ O' _ => ⟨rfl, fun _ _ _ hx hl _ => r_field fld_112_1_1 rfl (hl.env 1 9 _ rfl rfl) hx⟩
        case o18_3_1 => exact fun _ O' _ => ⟨rfl, fun _ _ _ hx hl _ => r_load1 one_101 rfl (hl.dep 0 98 _ rfl rfl rfl rfl) hx⟩
        case o18_3_2 => exact fun _ O' _ => ⟨rfl, fun _ _ _ hx hl _ => r_field fld_109_2_2 rfl (hl.env 0 11 _ rfl rfl) hx⟩
        case o18_3_3 => exact fun _ O' _ => ⟨rfl, fun _ _ _ hx hl _ => r_load1 one_22 rfl (hl.dep 2 100 _ rfl rfl rfl rfl) hx⟩
        case o18_3_4 => exact fun _ O' _ => ⟨rfl, fun _ _ _ hx hl _ => r_index (i := ((1 : Nat) : Int)) elem_22_9_1 rfl (hl.dep 3 101 _ rfl rfl rfl rfl) (Rel.of_lit (Go.Value.int Go.IntKind.i64 1)) (Int.natCast_nonneg _) (row_nat (xs := ((ge (alH f) k)).text) (k := 1) (by have := hForm_two hf5 hb6; omega)) rfl hx⟩
        case o18_3_5 => exact fun _ O' _ => ⟨rfl, fun _ _ _ hx hl _ => r_load1 one_9 rfl (hl.dep 4 102 _ rfl rfl rfl rfl) hx⟩
        case o18_3_6 => exact fun _ O' _ => ⟨rfl, fun _ _ _ hx hl _ => r_field fld_109_2_2 rfl (hl.env 0 11 _ rfl rfl) hx⟩
        case o18_3_7 => exact fun _ O' _ => ⟨rfl, fun _ _ _ hx hl _ => r_load1 one_22 rfl (hl.dep 6 104 _ rfl rfl rfl rfl) hx⟩
        case o18_3_8 => exact fun _ O' _ => ⟨rfl, fun _ _ _ hx hl _ => r_index (i := ((0 : Nat) : Int)) elem_22_9_1 rfl (hl.dep 7 105 _ rfl rfl rfl rfl) (Rel.of_lit (Go.Value.int Go.IntKind.i64 0)) (Int.natCast_nonneg _) (row_nat (xs := ((ge (alH f) k)).text) (k := 0) (by have := hForm_two hf5 hb6; omega)) rfl hx⟩
        case o18_3_9 => exact fun _ O' _ => ⟨rfl, fun _ _ _ hx hl _ => r_load1 one_9 rfl (hl.dep 8 106 _ rfl rfl rfl rfl) hx⟩
        case o18_3_10 => exact not_in_row rfl
        case e18_3_0 => exact ⟨_, rfl, rfl, rfl, rfl, fun g _ w hk hx hl _ => does_mono (d_put (f := (fun z' : ByteArray => AV.str z')) mapT_101_9_9 hJ hJ0 ((ge (((ge (alH f) k)).text) 1)) ((ge (((ge (alH f) k)).text) 0)) (.inl rfl) hk hx (hl.dep 1 99 _ rfl rfl rfl rfl) (hl.dep 5 103 _ rfl rfl rfl rfl) (hl.dep 9 107 _ rfl rfl rfl rfl)) fun v w' ⟨_, hp⟩ => ⟨g, rfl, fun _ _ => rfl, fun e => (by cases e), hp⟩⟩
        clear a w h
        intro _
        change ∀ a w, St All (SO S (OB.map keyS (fun z' : ByteArray => AV.str z') m3 (mput ts ((ge (((ge (alH f) k)).text) 1)) ((ge (((ge (alH f) k)).text) 0))) :: OB.set keyS m2 (addS ls (((ge (alH f) k)).label)) :: OB.set keyS M3 (addS fs f.label) :: OB.set keyS M1 cs :: OB.set keyS M2 vs :: OB.map keyS (fun z' : Hy => AV.agg (hyC z')) M4 hm :: OB.map keyS (fun z' : ByteArray => AV.str z') M5 tm :: R)) w0 183 [(9, .ptr [.lit (.map (some m2)), .lit (.map (some m3))]), (2, .rd (hysC bf)), (3, .ptr [.ptr [.lit (.map (some M1)), .lit (.map (some M2)), .lit (.map (some M3)), .lit (.map (some M4)), .lit (.map (some M5))]]), (4, .ptr (frC f)), (73, .rd (hysC (alH f))), (74, .int ((((alH f).length : Nat) : Int))), (75, .int (((k : Nat) : Int)))] (XO J S w0.heap.size (OB.map keyS (fun z' : ByteArray => AV.str z') m3 (mput ts ((ge (((ge (alH f) k)).text) 1)) ((ge (((ge (alH f) k)).text) 0))) :: OB.set keyS m2 (addS ls (((ge (alH f) k)).label)) :: OB.set keyS M3 (addS fs f.label) :: OB.set keyS M1 cs :: OB.set keyS M2 vs :: OB.map keyS (fun z' : Hy => AV.agg (hyC z')) M4 hm :: OB.map keyS (fun z' : ByteArray => AV.str z') M5 tm :: R)) a w → _
        refine nx (rgo tb hJ [0, 1, 2, 3, 4, 5, 1001] [.int (((k + 1 : Nat) : Int)), _] [0] [(_, _), (_, _), (_, _), (_, _), (_, _), (_, _), (_, .int (((k + 1 : Nat) : Int)))] rfl rfl rfl rfl ⟨hAdd (by first | omega | (simp; omega) | grind [ge_mem]) rfl rfl rfl rfl rfl, trivial⟩ ?_)
        intro a w h; change ∃ j, _ ∧ _
        exact ⟨(k + 1, addS ls (((ge (alH f) k)).label), mput ts ((ge (((ge (alH f) k)).text) 1)) ((ge (((ge (alH f) k)).text) 0))), ⟨⟨(show (k + 1) ≤ (alH f).length from by omega), (show (addS ls (((ge (alH f) k)).label)) = lsK ((alH f).take (k + 1)) from by rw [take_ge (by omega), lsK_snoc, ← f1_2]), (show (mput ts ((ge (((ge (alH f) k)).text) 1)) ((ge (((ge (alH f) k)).text) 0))) = tsK ((alH f).take (k + 1)) from by rw [take_ge (by omega), tsK_snoc, ← f1_3, if_pos hb6]), (show ∀ j, j < (k + 1) → hyK cs vs fs hm tm f j = 0 from step_all f1_4 (by rw [hyK, ← f1_2, ← f1_3]; exact q5))⟩, lz [0, 1, 2, 3, 4, 5, 6] rfl h⟩, (show (alH f).length - (k + 1) < (alH f).length - k from by first | omega | (simp; omega))⟩
       ·
        try simp at hb6
        refine tr_skip (nx (rgo tb hJ [1, 2, 3, 4, 5, 6, 1001] [.int (((k + 1 : Nat) : Int)), _] [0] [(_, _), (_, _), (_, _), (_, _), (_, _), (_, _), (_, .int (((k + 1 : Nat) : Int)))] rfl rfl rfl rfl ⟨hAdd (by first | omega | (simp; omega) | grind [ge_mem]) rfl rfl rfl rfl rfl, trivial⟩ ?_))
        refine kw pm6 ?_
        refine kw pm6 ?_
        refine kw pm6 ?_
        refine kw pm6 ?_
        refine kw pm6 ?_
        refine kw pm5 ?_
        refine kw pm6 ?_
        intro a w h; change ∃ j, _ ∧ _
        exact ⟨(k + 1, addS ls (((ge (alH f) k)).label), ts), ⟨⟨(show (k + 1) ≤ (alH f).length from by omega), (show (addS ls (((ge (alH f) k)).label)) = lsK ((alH f).take (k + 1)) from by rw [take_ge (by omega), lsK_snoc, ← f1_2]), (show ts = tsK ((alH f).take (k + 1)) from by rw [take_ge (by omega), tsK_snoc, ← f1_3, if_neg (by simp [hb6])]), (show ∀ j, j < (k + 1) → hyK cs vs fs hm tm f j = 0 from step_all f1_4 (by rw [hyK, ← f1_2, ← f1_3]; exact q5))⟩, lz [0, 1, 2, 3, 4, 5, 6] rfl h⟩, (show (alH f).length - (k + 1) < (alH f).length - k from by first | omega | (simp; omega))⟩
     ·
      have hk4 : (alH f).length ≤ k := by have := of_decide_eq_false hb4; omega
      have e4 : firstE (alH f).length (hyK cs vs fs hm tm f) = 0 := firstE_ok fun j hj => f1_4 j (by omega)
      have e3 : ts = tsK (alH f) := by rw [f1_3, take_all (by omega)]
      have hfm : ∀ y ∈ alH f, ∃ dm, hForm y dm = false := fun y hy => by obtain ⟨j, hj, rfl⟩ := mem_ge hy; exact ⟨_, hypK_form (f1_4 j (by omega))⟩
      have h2t : ∀ y ∈ alH f, y.floating = true → y.text.length = 2 := fun y hy hf => by obtain ⟨dm, hd⟩ := hfm y hy; exact hForm_two hd hf
      refine tr_exit (nx (k_seq (k_seq (rgo tb hJ [0, 1, 2, 3, 1002, 1004] [_, _, _, .int (txtE cs vs f.text), _] [3] [(_, _), (_, _), (_, _), (_, _), (_, .rd (strsC f.text)), (_, .int (txtE cs vs f.text))] rfl rfl rfl rfl ⟨fun _ _ hk hx hl _ => r_fnR (p_text hJ (M1 := M1) (M2 := M2) (M3 := M3) (M4 := M4) (M5 := M5) (cs := cs) (vs := vs) (l := f.text) ) call_91 rfl (xo_new hS _ hk hx) (hx.1) (has_cons (own_now hx (mo 3 rfl)) (has_cons (own_now hx (mo 4 rfl)) has_nil)) (relL_cons (hl.dep 0 109 _ rfl rfl rfl rfl) (relL_cons (hl.dep 2 111 _ rfl rfl rfl rfl) relL_nil)) (jo hJ hx), trivial⟩ (nx (tr_fact (fun a w h => len_le h 4 rfl) fun hl6 => k_seq (rgo tb hJ [0, 1, 2, 3, 5, 1001] [_, _] [] [(_, _), (_, _), (_, _), (_, _), (_, _), (_, .bool (!decide (txtE cs vs f.text = (0 : Int))))] rfl rfl rfl rfl trivial (nx (tc 5 rfl rfl (fun hb7 => ?_) (fun hb7 => ?_))))))))))
      ·
       have nz := nd_t hb7
       have e9 : frmK cs vs fs hm tm f bf = txtE cs vs f.text := by rw [frmK, if_neg (by rw [hb1]; decide), if_neg (by rw [hb2]; decide), if_neg (by rw [hb3]; decide), if_neg (by rw [e4]; decide), if_pos hb7]
       refine k_seq (rgo tb hJ [1001] [_, _] [] [(_, .int (txtE cs vs f.text))] rfl rfl rfl rfl trivial (nx ?_))
       refine tw st_drop ?_
       refine tw st_drop ?_
       refine tw pm4 ?_
       refine tw pm4 ?_
       refine tw pm2 ?_
       refine tw pm4 ?_
       refine tw pm4 ?_
       refine tw (ob2 (congrArg (fun z' => OB.set keyS M3 (z')) (show (addS fs f.label) = (((⟨((addS fs f.label), hm, tm), by first | (intro h9; rw [e9] at h9; exact absurd h9 (by first | decide | exact nz)) | (intro _; exact ⟨rfl, by rw [f2_2, take_all (by omega)], fun k' => by rw [NOGHOST.2 k', e3]⟩)⟩ : { q' : List ByteArray × List (ByteArray × Hy) × List (ByteArray × ByteArray) // frmK cs vs fs hm tm f bf = 0 → q'.1 = addS fs f.label ∧ q'.2.1 = hmK hm (alH f) ∧ ∀ k', mget q'.2.2 k' = if (mget (tsK (alH f)) k').isSome then mget (tsK (alH f)) k' else mget tm k' }).1.1)) from rfl))) ?_
       refine tw (ob3 (congrArg (fun z' => OB.map keyS (fun z' : Hy => AV.agg (hyC z')) M4 (z')) (show hm = (((⟨((addS fs f.label), hm, tm), by first | (intro h9; rw [e9] at h9; exact absurd h9 (by first | decide | exact nz)) | (intro _; exact ⟨rfl, by rw [f2_2, take_all (by omega)], fun k' => by rw [NOGHOST.2 k', e3]⟩)⟩ : { q' : List ByteArray × List (ByteArray × Hy) × List (ByteArray × ByteArray) // frmK cs vs fs hm tm f bf = 0 → q'.1 = addS fs f.label ∧ q'.2.1 = hmK hm (alH f) ∧ ∀ k', mget q'.2.2 k' = if (mget (tsK (alH f)) k').isSome then mget (tsK (alH f)) k' else mget tm k' }).1.2.1)) from rfl))) ?_
       refine tw (ob4 (congrArg (fun z' => OB.map keyS (fun z' : ByteArray => AV.str z') M5 (z')) (show tm = (((⟨((addS fs f.label), hm, tm), by first | (intro h9; rw [e9] at h9; exact absurd h9 (by first | decide | exact nz)) | (intro _; exact ⟨rfl, by rw [f2_2, take_all (by omega)], fun k' => by rw [NOGHOST.2 k', e3]⟩)⟩ : { q' : List ByteArray × List (ByteArray × Hy) × List (ByteArray × ByteArray) // frmK cs vs fs hm tm f bf = 0 → q'.1 = addS fs f.label ∧ q'.2.1 = hmK hm (alH f) ∧ ∀ k', mget q'.2.2 k' = if (mget (tsK (alH f)) k').isSome then mget (tsK (alH f)) k' else mget tm k' }).1.2.2)) from rfl))) ?_
       refine tr_ret (fun a w h => leaveM1  (m := 0) (⟨((addS fs f.label), hm, tm), by first | (intro h9; rw [e9] at h9; exact absurd h9 (by first | decide | exact nz)) | (intro _; exact ⟨rfl, by rw [f2_2, take_all (by omega)], fun k' => by rw [NOGHOST.2 k', e3]⟩)⟩ : { q' : List ByteArray × List (ByteArray × Hy) × List (ByteArray × ByteArray) // frmK cs vs fs hm tm f bf = 0 → q'.1 = addS fs f.label ∧ q'.2.1 = hmK hm (alH f) ∧ ∀ k', mget q'.2.2 k' = if (mget (tsK (alH f)) k').isSome then mget (tsK (alH f)) k' else mget tm k' }) rfl h rfl (congrArg AV.int (show (txtE cs vs f.text) = (frmK cs vs fs hm tm f bf) from e9.symm)))
      ·
       refine tr_skip (nx (k_seq (k_seq (rgo tb hJ [0, 1, 2, 3, 1003] [_, _, .int (setE vs f), _] [2] [(_, _), (_, _), (_, _), (_, _), (_, .int (setE vs f))] rfl rfl rfl rfl ⟨fun _ _ hk hx hl _ => r_fnR (p_sets hJ (M1 := M1) (M2 := M2) (M3 := M3) (M4 := M4) (M5 := M5) (vs := vs) (f := f) (hb3a.1) (hw) (fun x hx => h2t x (List.mem_append_left _ hx))) call_92 rfl (xo_new hS _ hk hx) (hx.1) (has_cons (own_now hx (mo 4 rfl)) has_nil) (relL_cons (hl.dep 0 116 _ rfl rfl rfl rfl) (relL_cons (hl.dep 1 117 _ rfl rfl rfl rfl) relL_nil)) (jo hJ hx), trivial⟩ (nx (k_seq (rgo tb hJ [0, 1, 2, 3, 4, 1001] [_, _] [] [(_, _), (_, _), (_, _), (_, _), (_, _), (_, .bool (!decide (setE vs f = (0 : Int))))] rfl rfl rfl rfl trivial (nx (tc 5 rfl rfl (fun hb8 => ?_) (fun hb8 => ?_))))))))))
       ·
        have nz := nd_t hb8
        have e9 : frmK cs vs fs hm tm f bf = setE vs f := by rw [frmK, if_neg (by rw [hb1]; decide), if_neg (by rw [hb2]; decide), if_neg (by rw [hb3]; decide), if_neg (by rw [e4]; decide), if_neg (by rw [hb7]; decide), if_pos hb8]
        refine k_seq (rgo tb hJ [1001] [_, _] [] [(_, .int (setE vs f))] rfl rfl rfl rfl trivial (nx ?_))
        refine tw st_drop ?_
        refine tw st_drop ?_
        refine tw pm4 ?_
        refine tw pm4 ?_
        refine tw pm2 ?_
        refine tw pm4 ?_
        refine tw pm4 ?_
        refine tw (ob2 (congrArg (fun z' => OB.set keyS M3 (z')) (show (addS fs f.label) = (((⟨((addS fs f.label), hm, tm), by first | (intro h9; rw [e9] at h9; exact absurd h9 (by first | decide | exact nz)) | (intro _; exact ⟨rfl, by rw [f2_2, take_all (by omega)], fun k' => by rw [NOGHOST.2 k', e3]⟩)⟩ : { q' : List ByteArray × List (ByteArray × Hy) × List (ByteArray × ByteArray) // frmK cs vs fs hm tm f bf = 0 → q'.1 = addS fs f.label ∧ q'.2.1 = hmK hm (alH f) ∧ ∀ k', mget q'.2.2 k' = if (mget (tsK (alH f)) k').isSome then mget (tsK (alH f)) k' else mget tm k' }).1.1)) from rfl))) ?_
        refine tw (ob3 (congrArg (fun z' => OB.map keyS (fun z' : Hy => AV.agg (hyC z')) M4 (z')) (show hm = (((⟨((addS fs f.label), hm, tm), by first | (intro h9; rw [e9] at h9; exact absurd h9 (by first | decide | exact nz)) | (intro _; exact ⟨rfl, by rw [f2_2, take_all (by omega)], fun k' => by rw [NOGHOST.2 k', e3]⟩)⟩ : { q' : List ByteArray × List (ByteArray × Hy) × List (ByteArray × ByteArray) // frmK cs vs fs hm tm f bf = 0 → q'.1 = addS fs f.label ∧ q'.2.1 = hmK hm (alH f) ∧ ∀ k', mget q'.2.2 k' = if (mget (tsK (alH f)) k').isSome then mget (tsK (alH f)) k' else mget tm k' }).1.2.1)) from rfl))) ?_
        refine tw (ob4 (congrArg (fun z' => OB.map keyS (fun z' : ByteArray => AV.str z') M5 (z')) (show tm = (((⟨((addS fs f.label), hm, tm), by first | (intro h9; rw [e9] at h9; exact absurd h9 (by first | decide | exact nz)) | (intro _; exact ⟨rfl, by rw [f2_2, take_all (by omega)], fun k' => by rw [NOGHOST.2 k', e3]⟩)⟩ : { q' : List ByteArray × List (ByteArray × Hy) × List (ByteArray × ByteArray) // frmK cs vs fs hm tm f bf = 0 → q'.1 = addS fs f.label ∧ q'.2.1 = hmK hm (alH f) ∧ ∀ k', mget q'.2.2 k' = if (mget (tsK (alH f)) k').isSome then mget (tsK (alH f)) k' else mget tm k' }).1.2.2)) from rfl))) ?_
        refine tr_ret (fun a w h => leaveM1  (m := 0) (⟨((addS fs f.label), hm, tm), by first | (intro h9; rw [e9] at h9; exact absurd h9 (by first | decide | exact nz)) | (intro _; exact ⟨rfl, by rw [f2_2, take_all (by omega)], fun k' => by rw [NOGHOST.2 k', e3]⟩)⟩ : { q' : List ByteArray × List (ByteArray × Hy) × List (ByteArray × ByteArray) // frmK cs vs fs hm tm f bf = 0 → q'.1 = addS fs f.label ∧ q'.2.1 = hmK hm (alH f) ∧ ∀ k', mget q'.2.2 k' = if (mget (tsK (alH f)) k').isSome then mget (tsK (alH f)) k' else mget tm k' }) rfl h rfl (congrArg AV.int (show (setE vs f) = (frmK cs vs fs hm tm f bf) from e9.symm)))
       ·
        refine tr_skip (nx (k_seq (k_seq (rgo tb hJ [0, 1, 2, 3, 1001, 1019] [_, _, .int (((f.proof.length : Nat) : Int)), _, _, _, _, _, _, _, _, .int (((f.proof.length : Nat) : Int)), _, _, _, _, _, .bool (f.proof.any (fun s => !proofB s)), _, _] [2, 11, 17] [(_, _), (_, _), (_, _), (_, _), (_, .rd (strsC f.proof)), (_, .bool ((decide ((0 : Int) < ((f.proof.length : Nat) : Int))) && (((!f.thm) || (decide ((8000 : Int) < ((f.proof.length : Nat) : Int)))) || (f.proof.any (fun s => !proofB s)))))] rfl rfl rfl rfl ⟨hLen unds_22_9 rfl rfl rfl rfl, fun _ _ _ hx hl hc => r_lenM unds_22_9 rfl (hl.dep 10 132 _ rfl rfl rfl hc) hx, fun _ _ hk hx hl hc => r_fnR (p_ContainsFuncS hJ (xs := f.proof) (f := 94) (caps := []) (Os := []) (p := (fun s => !proofB s)) (fun q' => (p_frame1 hJ q' hG).r) (call_94)) call_93 rfl (xo_new hS _ hk hx) (hx.1) has_nil (relL_cons (hl.dep 16 138 _ rfl rfl rfl hc) (relL_cons (rel_func 94) relL_nil)) (jo hJ hx), trivial⟩ (nx (tr_fact (fun a w h => len_le h 4 rfl) fun hl7 => tc 5 rfl rfl (fun hb9 => ?_) (fun hb9 => ?_)))))))
        ·
         have e9 : frmK cs vs fs hm tm f bf = 2 := by rw [frmK, if_neg (by rw [hb1]; decide), if_neg (by rw [hb2]; decide), if_neg (by rw [hb3]; decide), if_neg (by rw [e4]; decide), if_neg (by rw [hb7]; decide), if_neg (by rw [hb8]; decide), if_pos (show prfB f = true from hb9)]
         refine k_seq (rgo tb hJ [1000] [_] [] [(_, .int (2 : Int))] rfl rfl rfl rfl trivial (nx ?_))
         refine tw st_drop ?_
         refine tw st_drop ?_
         refine tw pm4 ?_
         refine tw pm4 ?_
         refine tw pm2 ?_
         refine tw pm4 ?_
         refine tw pm4 ?_
         refine tw (ob2 (congrArg (fun z' => OB.set keyS M3 (z')) (show (addS fs f.label) = (((⟨((addS fs f.label), hm, tm), by first | (intro h9; rw [e9] at h9; exact absurd h9 (by first | decide | exact nz)) | (intro _; exact ⟨rfl, by rw [f2_2, take_all (by omega)], fun k' => by rw [NOGHOST.2 k', e3]⟩)⟩ : { q' : List ByteArray × List (ByteArray × Hy) × List (ByteArray × ByteArray) // frmK cs vs fs hm tm f bf = 0 → q'.1 = addS fs f.label ∧ q'.2.1 = hmK hm (alH f) ∧ ∀ k', mget q'.2.2 k' = if (mget (tsK (alH f)) k').isSome then mget (tsK (alH f)) k' else mget tm k' }).1.1)) from rfl))) ?_
         refine tw (ob3 (congrArg (fun z' => OB.map keyS (fun z' : Hy => AV.agg (hyC z')) M4 (z')) (show hm = (((⟨((addS fs f.label), hm, tm), by first | (intro h9; rw [e9] at h9; exact absurd h9 (by first | decide | exact nz)) | (intro _; exact ⟨rfl, by rw [f2_2, take_all (by omega)], fun k' => by rw [NOGHOST.2 k', e3]⟩)⟩ : { q' : List ByteArray × List (ByteArray × Hy) × List (ByteArray × ByteArray) // frmK cs vs fs hm tm f bf = 0 → q'.1 = addS fs f.label ∧ q'.2.1 = hmK hm (alH f) ∧ ∀ k', mget q'.2.2 k' = if (mget (tsK (alH f)) k').isSome then mget (tsK (alH f)) k' else mget tm k' }).1.2.1)) from rfl))) ?_
         refine tw (ob4 (congrArg (fun z' => OB.map keyS (fun z' : ByteArray => AV.str z') M5 (z')) (show tm = (((⟨((addS fs f.label), hm, tm), by first | (intro h9; rw [e9] at h9; exact absurd h9 (by first | decide | exact nz)) | (intro _; exact ⟨rfl, by rw [f2_2, take_all (by omega)], fun k' => by rw [NOGHOST.2 k', e3]⟩)⟩ : { q' : List ByteArray × List (ByteArray × Hy) × List (ByteArray × ByteArray) // frmK cs vs fs hm tm f bf = 0 → q'.1 = addS fs f.label ∧ q'.2.1 = hmK hm (alH f) ∧ ∀ k', mget q'.2.2 k' = if (mget (tsK (alH f)) k').isSome then mget (tsK (alH f)) k' else mget tm k' }).1.2.2)) from rfl))) ?_
         refine tr_ret (fun a w h => leaveM1  (m := 0) (⟨((addS fs f.label), hm, tm), by first | (intro h9; rw [e9] at h9; exact absurd h9 (by first | decide | exact nz)) | (intro _; exact ⟨rfl, by rw [f2_2, take_all (by omega)], fun k' => by rw [NOGHOST.2 k', e3]⟩)⟩ : { q' : List ByteArray × List (ByteArray × Hy) × List (ByteArray × ByteArray) // frmK cs vs fs hm tm f bf = 0 → q'.1 = addS fs f.label ∧ q'.2.1 = hmK hm (alH f) ∧ ∀ k', mget q'.2.2 k' = if (mget (tsK (alH f)) k').isSome then mget (tsK (alH f)) k' else mget tm k' }) rfl h rfl (congrArg AV.int (show (2 : Int) = (frmK cs vs fs hm tm f bf) from e9.symm)))
        ·
         refine tr_skip (nx (k_seq (rgo tb hJ [0, 1, 2, 3, 1001, 1002] [_, _, _] [1] [(_, _), (_, _), (_, _), (_, _), (_, .rd (hysC (essF f.hyps))), (_, .rd (hysC (essF f.hyps)))] rfl rfl rfl rfl ⟨hFo hS hJ (p_essentials hJ (f := f) (by refine small48 ?_; omega)) call_77 rfl rfl rfl rfl, trivial⟩ ?_)))
         refine nx (tr_fact (fun a w h => len_le h 4 rfl) fun hl8 => k_seq (rgo tb hJ [0, 2, 3, 1008, 1009] [_, _, _, .int (((comL (bf.map Hy.label) ((essF f.hyps).map Hy.label) : Nat) : Int)), _, .int ((((essF f.hyps).length : Nat) : Int)), _, .int ((((essF f.hyps).length : Nat) : Int)), _, _] [3, 5, 7, 8] [(_, _), (_, _), (_, _), (_, .rd (hysC ((essF f.hyps).drop (comL (bf.map Hy.label) ((essF f.hyps).map Hy.label))))), (_, .rd (hysC ((essF f.hyps).drop (comL (bf.map Hy.label) ((essF f.hyps).map Hy.label)))))] rfl rfl rfl rfl ⟨hFo hS hJ (p_common hJ (xs := bf) (ys := (essF f.hyps)) ) call_96 rfl rfl rfl rfl, hLen unds_56_109 rfl rfl rfl rfl, hLen unds_56_109 rfl rfl rfl rfl, fun _ _ _ hx hl _ => r_slice3 (ys := (essF f.hyps).drop (comL (bf.map Hy.label) ((essF f.hyps).map Hy.label))) (lo := comL (bf.map Hy.label) ((essF f.hyps).map Hy.label)) rfl elem_56_109_3 (fun _ => rfl) rfl (hl.dep 0 144 _ rfl rfl rfl rfl) (hl.dep 3 147 _ rfl rfl rfl rfl) (hl.dep 5 149 _ rfl rfl rfl rfl) (hl.dep 7 151 _ rfl rfl rfl rfl) (by have := comL_le (bf.map Hy.label) ((essF f.hyps).map Hy.label); simpa using this) hx, trivial⟩ (nx (tr_fact (fun a w h => len_le h 3 rfl) fun hl9 => k_seq (k_seq (rgo tb hJ [0, 1, 2, 1002] [_, .fn 98 [.ptr [.ptr [.lit (.map (some M1)), .lit (.map (some M2)), .lit (.map (some M3)), .lit (.map (some M4)), .lit (.map (some M5))]]], _] [1, 2] [(_, _), (_, _), (_, _), (_, .bool (((essF f.hyps).drop (comL (bf.map Hy.label) ((essF f.hyps).map Hy.label))).any (fun y => (mget hm y.label).isSome)))] rfl rfl rfl rfl ⟨fun _ _ _ hx hl _ => r_makeFunc (caps := [(Go.Operand.tmp 3)]) rfl (relL_cons (hl.env 1 3 _ rfl rfl) relL_nil) hx, fun _ _ hk hx hl _ => r_fnR (p_ContainsFuncH hJ (xs := ((essF f.hyps).drop (comL (bf.map Hy.label) ((essF f.hyps).map Hy.label)))) (f := 98) (caps := [.ptr [.ptr [.lit (.map (some M1)), .lit (.map (some M2)), .lit (.map (some M3)), .lit (.map (some M4)), .lit (.map (some M5))]]]) (Os := [OB.map keyS (fun z' : Hy => AV.agg (hyC z')) M4 hm]) (p := (fun y => (mget hm y.label).isSome)) (fun q' => p_frame2 hJ M1 M2 M3 M4 M5 hm q') (call_98)) call_97 rfl (xo_new hS _ hk hx) (hx.1) (has_cons (own_now hx (mo 5 rfl)) has_nil) (relL_cons (hl.dep 0 153 _ rfl rfl rfl rfl) (relL_cons (hl.dep 1 154 _ rfl rfl rfl rfl) relL_nil)) (jo hJ hx), trivial⟩ (nx (tc 3 rfl rfl (fun hb10 => ?_) (fun hb10 => ?_)))))))))
         ·
          have e9 : frmK cs vs fs hm tm f bf = 7 := by rw [frmK, if_neg (by rw [hb1]; decide), if_neg (by rw [hb2]; decide), if_neg (by rw [hb3]; decide), if_neg (by rw [e4]; decide), if_neg (by rw [hb7]; decide), if_neg (by rw [hb8]; decide), if_neg (by rw [show prfB f = _ from hb9]; decide), if_pos hb10]
          refine k_seq (rgo tb hJ [1000] [_] [] [(_, .int (7 : Int))] rfl rfl rfl rfl trivial (nx ?_))
          refine tw st_drop ?_
          refine tw st_drop ?_
          refine tw pm4 ?_
          refine tw pm4 ?_
          refine tw pm2 ?_
          refine tw pm4 ?_
          refine tw pm4 ?_
          refine tw (ob2 (congrArg (fun z' => OB.set keyS M3 (z')) (show (addS fs f.label) = (((⟨((addS fs f.label), hm, tm), by first | (intro h9; rw [e9] at h9; exact absurd h9 (by first | decide | exact nz)) | (intro _; exact ⟨rfl, by rw [f2_2, take_all (by omega)], fun k' => by rw [NOGHOST.2 k', e3]⟩)⟩ : { q' : List ByteArray × List (ByteArray × Hy) × List (ByteArray × ByteArray) // frmK cs vs fs hm tm f bf = 0 → q'.1 = addS fs f.label ∧ q'.2.1 = hmK hm (alH f) ∧ ∀ k', mget q'.2.2 k' = if (mget (tsK (alH f)) k').isSome then mget (tsK (alH f)) k' else mget tm k' }).1.1)) from rfl))) ?_
          refine tw (ob3 (congrArg (fun z' => OB.map keyS (fun z' : Hy => AV.agg (hyC z')) M4 (z')) (show hm = (((⟨((addS fs f.label), hm, tm), by first | (intro h9; rw [e9] at h9; exact absurd h9 (by first | decide | exact nz)) | (intro _; exact ⟨rfl, by rw [f2_2, take_all (by omega)], fun k' => by rw [NOGHOST.2 k', e3]⟩)⟩ : { q' : List ByteArray × List (ByteArray × Hy) × List (ByteArray × ByteArray) // frmK cs vs fs hm tm f bf = 0 → q'.1 = addS fs f.label ∧ q'.2.1 = hmK hm (alH f) ∧ ∀ k', mget q'.2.2 k' = if (mget (tsK (alH f)) k').isSome then mget (tsK (alH f)) k' else mget tm k' }).1.2.1)) from rfl))) ?_
          refine tw (ob4 (congrArg (fun z' => OB.map keyS (fun z' : ByteArray => AV.str z') M5 (z')) (show tm = (((⟨((addS fs f.label), hm, tm), by first | (intro h9; rw [e9] at h9; exact absurd h9 (by first | decide | exact nz)) | (intro _; exact ⟨rfl, by rw [f2_2, take_all (by omega)], fun k' => by rw [NOGHOST.2 k', e3]⟩)⟩ : { q' : List ByteArray × List (ByteArray × Hy) × List (ByteArray × ByteArray) // frmK cs vs fs hm tm f bf = 0 → q'.1 = addS fs f.label ∧ q'.2.1 = hmK hm (alH f) ∧ ∀ k', mget q'.2.2 k' = if (mget (tsK (alH f)) k').isSome then mget (tsK (alH f)) k' else mget tm k' }).1.2.2)) from rfl))) ?_
          refine tr_ret (fun a w h => leaveM1  (m := 0) (⟨((addS fs f.label), hm, tm), by first | (intro h9; rw [e9] at h9; exact absurd h9 (by first | decide | exact nz)) | (intro _; exact ⟨rfl, by rw [f2_2, take_all (by omega)], fun k' => by rw [NOGHOST.2 k', e3]⟩)⟩ : { q' : List ByteArray × List (ByteArray × Hy) × List (ByteArray × ByteArray) // frmK cs vs fs hm tm f bf = 0 → q'.1 = addS fs f.label ∧ q'.2.1 = hmK hm (alH f) ∧ ∀ k', mget q'.2.2 k' = if (mget (tsK (alH f)) k').isSome then mget (tsK (alH f)) k' else mget tm k' }) rfl h rfl (congrArg AV.int (show (7 : Int) = (frmK cs vs fs hm tm f bf) from e9.symm)))
         ·
          have e9 : frmK cs vs fs hm tm f bf = 0 := by rw [frmK, if_neg (by rw [hb1]; decide), if_neg (by rw [hb2]; decide), if_neg (by rw [hb3]; decide), if_neg (by rw [e4]; decide), if_neg (by rw [hb7]; decide), if_neg (by rw [hb8]; decide), if_neg (by rw [show prfB f = _ from hb9]; decide), if_neg (by rw [hb10]; decide)]
          refine tr_skip (nx (k_seq (k_seq (rgo tb hJ [0, 1, 1005, 1006, 1007] [_, _, _, _, .rd (hyssC (([f.hyps, f.dummies] : List (List Hy)))), _, _, _] [4, 5, 6] [(_, _), (_, _), (_, .rd (hysC (((([f.hyps, f.dummies] : List (List Hy))).flatten)))), (_, .int ((((((([f.hyps, f.dummies] : List (List Hy))).flatten)).length : Nat) : Int))), (_, .int (0 : Int))] rfl rfl rfl rfl ⟨fun a _ hk hx hl _ => r_buildK (k := 2) (us := [a.eval (Go.Operand.tmp 157), a.eval (Go.Operand.tmp 159)]) elem_140_56_1 zeroK_56_1 rfl (by simp) (rdL_cons (hl.dep 1 157 _ rfl rfl rfl rfl) (rdL_cons (hl.dep 3 159 _ rfl rfl rfl rfl) rdL_nil)) rfl (by decide) (by decide) (xo_new hS _ hk hx _ (Nat.le_refl _)) (jo hJ hx), hFo hS hJ (p_ConcatH hJ (ls := (([f.hyps, f.dummies] : List (List Hy)))) (by refine small48 ?_; simp; omega)) call_89 rfl rfl rfl rfl, hLen unds_56_109 rfl rfl rfl rfl, trivial⟩ ?_))))
          refine kw (sa 2 rfl (congrArg (fun z' => AV.rd (hysC z')) (show (((([f.hyps, f.dummies] : List (List Hy))).flatten)) = (alH f) from by simp))) ?_
          refine kw (sa 3 rfl (congrArg AV.int (show (((((([f.hyps, f.dummies] : List (List Hy))).flatten)).length : Nat) : Int) = (((alH f).length : Nat) : Int) from by simp))) ?_
          refine nx (tr_block (tr_loop (ι := Nat × (List (ByteArray × Hy))) (fun (ii' : Nat × (List (ByteArray × Hy))) a w => match ii' with | (k, hn) => ((k ≤ (alH f).length) ∧ (hn = hmK hm ((alH f).take k))) ∧ St All (SO S (OB.map keyS (fun z' : ByteArray => AV.str z') m3 ts :: OB.set keyS m2 ls :: OB.set keyS M3 (addS fs f.label) :: OB.set keyS M1 cs :: OB.set keyS M2 vs :: OB.map keyS (fun z' : Hy => AV.agg (hyC z')) M4 hn :: OB.map keyS (fun z' : ByteArray => AV.str z') M5 tm :: R)) w0 183 [(9, .ptr [.lit (.map (some m2)), .lit (.map (some m3))]), (3, .ptr [.ptr [.lit (.map (some M1)), .lit (.map (some M2)), .lit (.map (some M3)), .lit (.map (some M4)), .lit (.map (some M5))]]), (161, .rd (hysC (alH f))), (162, .int ((((alH f).length : Nat) : Int))), (163, .int (((k : Nat) : Int)))] (XO J S w0.heap.size (OB.map keyS (fun z' : ByteArray => AV.str z') m3 ts :: OB.set keyS m2 ls :: OB.set keyS M3 (addS fs f.label) :: OB.set keyS M1 cs :: OB.set keyS M2 vs :: OB.map keyS (fun z' : Hy => AV.agg (hyC z')) M4 hn :: OB.map keyS (fun z' : ByteArray => AV.str z') M5 tm :: R)) a w) (fun (ii' : Nat × (List (ByteArray × Hy))) => match ii' with | (k, _) => ((alH f).length - k : Nat)) ?_ ?_))
          ·
           intro a w h
           exact ⟨(0, hm), (show (0 ≤ (alH f).length) ∧ (hm = hmK hm ((alH f).take 0)) from ⟨Nat.zero_le _, rfl⟩), lz [0, 1, 2, 3, 4] rfl h⟩
          ·
           rintro ⟨k, hn⟩
           refine tr_and fun hF => ?_
           obtain ⟨f2_1, f2_2⟩ := hF
           refine k_seq (rgo tb hJ [0, 1, 2, 3, 4, 1000] [_] [] [(_, _), (_, _), (_, _), (_, _), (_, _), (_, .bool (decide (((k : Nat) : Int) < (((alH f).length : Nat) : Int))))] rfl rfl rfl rfl trivial (nx (k_seq (tc 5 rfl rfl (fun hb11 => ?_) (fun hb11 => ?_)))))
           ·
            have hk4 : k < (alH f).length := Int.ofNat_lt.1 (of_decide_eq_true hb11)
            refine tr_skip (nx (k_seq (tr_block (k_seq (tr_text (sq (.ptr (hyC ((ge (alH f) k)))) rfl rfl (lb rfl) (fun _ _ h => r_index (i := ((k : Nat) : Int)) elem_56_109_3 rfl (h.get 2 rfl) (h.get 4 rfl) (Int.natCast_nonneg _) (row_nat (xs := alH f) (k := k) (by first | omega | (simp; omega) | grind [ge_mem])) rfl h.x) (sv (av := .agg (hyC ((ge (alH f) k)))) tb rfl rfl rfl rfl (sq_var (cs := hyC ((ge (alH f) k))) var_109_3 rfl rfl rfl (lb rfl) rfl rfl rfl (by decide) (m := 0) rfl rfl (fun a w h => xo_new hS _ h.keep h.x _ (Nat.le_refl _)) (fun a w h w' hk' => xo_stab hJ _ _ hk' h.x) (sq_end ?_)))))))))
            refine kw (lz [0, 3, 4, 5, 6, 7] (env' := [(_, _), (_, _), (_, _), (_, _), (_, _), (_, _)]) rfl) ?_
            refine nx ?_
            refine tw pm5 ?_
            refine fun a w h => region_G (γ := Unit) (fun ix' => ([.ptr [.lit (.map (some M1)), .lit (.map (some M2)), .lit (.map (some M3)), .lit (.map (some M4)), .lit (.map (some M5))], .ptr [.lit (.map (some M1)), .lit (.map (some M2)), .lit (.map (some M3)), .lit (.map (some M4)), .lit (.map (some M5))], .ptr [.lit (.map (some M4)), .lit (.map (some M5))], .lit (.map (some M4)), .ptr (hyC ((ge (alH f) k))), .str (((ge (alH f) k)).label), .agg (hyC ((ge (alH f) k))), .agg (hyC ((((ge (alH f) k))))), .any] : List AV).getD ix' .any) (fun ix' => ([true, true, true, true, true, true, true, true, true] : List Bool).getD ix' true) [(9, fun (g : Unit) => .ptr [.lit (.map (some m2)), .lit (.map (some m3))]), (3, fun (g : Unit) => .ptr [.ptr [.lit (.map (some M1)), .lit (.map (some M2)), .lit (.map (some M3)), .lit (.map (some M4)), .lit (.map (some M5))]]), (161, fun (g : Unit) => .rd (hysC (alH f))), (162, fun (g : Unit) => .int ((((alH f).length : Nat) : Int))), (163, fun (g : Unit) => .int (((k : Nat) : Int)))] (fun (j' : Nat) (g : Unit) => match j' with | 0 => (OB.map keyS (fun z' : Hy => AV.agg (hyC z')) M4 hn :: OB.map keyS (fun z' : ByteArray => AV.str z') m3 ts :: OB.set keyS m2 ls :: OB.set keyS M3 (addS fs f.label) :: OB.set keyS M1 cs :: OB.set keyS M2 vs :: OB.map keyS (fun z' : ByteArray => AV.str z') M5 tm :: R) | _ => (OB.map keyS (fun z' : Hy => AV.agg (hyC z')) M4 (mput hn (((ge (alH f) k)).label) ((((ge (alH f) k))))) :: OB.map keyS (fun z' : ByteArray => AV.str z') m3 ts :: OB.set keyS m2 ls :: OB.set keyS M3 (addS fs f.label) :: OB.set keyS M1 cs :: OB.set keyS M2 vs :: OB.map keyS (fun z' : ByteArray => AV.str z') M5 tm :: R)) (fun (k' : Nat) (g : Unit) => match k' with | 0 => undef | _ => undef) [8] 0 () (fun _ => rfl) h hJ mixedE rfl rfl rfl rfl rfl rfl (fun j' g hj p hp => by rcases j' with _ | _ | _ | j' <;> first | exact hp | exact List.mem_cons_of_mem _ hp | exact List.mem_cons_of_mem _ (List.mem_cons_of_mem _ hp) | (exfalso; omega)) ⟨?o35_4_0, ⟨?o35_4_1, ⟨?o35_4_2, ⟨?o35_4_3, ⟨?o35_4_4, ⟨?o35_4_5, ⟨?o35_4_6, ⟨?o35_4_7, ⟨?o35_4_8, trivial⟩⟩⟩⟩⟩⟩⟩⟩⟩ ⟨?e35_4_0, trivial⟩ ⟨.old 1 9 _ rfl rfl, ⟨.old 2 3 _ rfl rfl, ⟨.old 3 161 _ rfl rfl, ⟨.old 4 162 _ rfl rfl, ⟨.old 5 163 _ rfl rfl, trivial⟩⟩⟩⟩⟩ ?n35_4
            case o35_4_0 => exact fun _ O' _ => ⟨rfl, fun _ _ _ hx hl _ => r_load1p one_97 rfl (hl.env 2 3 _ rfl rfl) hx⟩
            case o35_4_1 => exact fun _ O' _ => ⟨rfl, fun _ _ _ hx hl _ => r_nilCheck rfl (hl.dep 0 167 _ rfl rfl rfl rfl) hx⟩
            case o35_4_2 => exact fun _ O' _ => ⟨rfl, fun _ _ _ hx hl _ => r_field fld_103_3_3 rfl (hl.dep 1 168 _ rfl rfl rfl rfl) hx⟩
            case o35_4_3 => exact fun _ O' _ => ⟨rfl, fun _ _ _ hx hl _ => r_load1 one_100 rfl (hl.dep 2 169 _ rfl rfl rfl rfl) hx⟩
            case o35_4_4 => exact fun _ O' _ => ⟨rfl, fun _ _ _ hx hl _ => r_field fld_109_0_0 rfl (hl.env 0 18 _ rfl rfl) hx⟩
            case o35_4_5 => exact fun _ O' _ => ⟨rfl, fun _ _ _ hx hl _ => r_load1 one_9 rfl (hl.dep 4 171 _ rfl rfl rfl rfl) hx⟩
            case o35_4_6 => exact fun _ O' _ => ⟨rfl, fun _ _ _ hx hl _ => r_loadN agg_109_3 rfl (hl.env 0 18 _ rfl rfl) (Nat.le_refl _) hx⟩
            case o35_4_7 => exact fun _ O' _ => ⟨rfl, fun _ _ hk hx hl _ => r_fn (p_copied hJ (y := ((ge (alH f) k))) (by refine small16 ?_; obtain ⟨dm, hd⟩ := hfm _ (ge_mem (by omega : k < (alH f).length)); have := hForm_len hd; omega)) call_99 rfl (xo_new hS _ hk hx) (hx.1) (relL_cons (hl.dep 6 173 _ rfl rfl rfl rfl) relL_nil) (jo hJ hx)⟩
            case o35_4_8 => exact not_in_row rfl
            case e35_4_0 => exact ⟨_, rfl, rfl, rfl, rfl, fun g _ w hk hx hl _ => does_mono (d_put (f := (fun z' : Hy => AV.agg (hyC z'))) mapT_100_9_109 hJ hJ0 (((ge (alH f) k)).label) ((((ge (alH f) k)))) (.inl rfl) hk hx (hl.dep 3 170 _ rfl rfl rfl rfl) (hl.dep 5 172 _ rfl rfl rfl rfl) (hl.dep 7 174 _ rfl rfl rfl rfl)) fun v w' ⟨_, hp⟩ => ⟨g, rfl, fun _ _ => rfl, fun e => (by cases e), hp⟩⟩
            clear a w h
            intro _
            change ∀ a w, St All (SO S (OB.map keyS (fun z' : Hy => AV.agg (hyC z')) M4 (mput hn (((ge (alH f) k)).label) ((((ge (alH f) k))))) :: OB.map keyS (fun z' : ByteArray => AV.str z') m3 ts :: OB.set keyS m2 ls :: OB.set keyS M3 (addS fs f.label) :: OB.set keyS M1 cs :: OB.set keyS M2 vs :: OB.map keyS (fun z' : ByteArray => AV.str z') M5 tm :: R)) w0 183 [(9, .ptr [.lit (.map (some m2)), .lit (.map (some m3))]), (3, .ptr [.ptr [.lit (.map (some M1)), .lit (.map (some M2)), .lit (.map (some M3)), .lit (.map (some M4)), .lit (.map (some M5))]]), (161, .rd (hysC (alH f))), (162, .int ((((alH f).length : Nat) : Int))), (163, .int (((k : Nat) : Int)))] (XO J S w0.heap.size (OB.map keyS (fun z' : Hy => AV.agg (hyC z')) M4 (mput hn (((ge (alH f) k)).label) ((((ge (alH f) k))))) :: OB.map keyS (fun z' : ByteArray => AV.str z') m3 ts :: OB.set keyS m2 ls :: OB.set keyS M3 (addS fs f.label) :: OB.set keyS M1 cs :: OB.set keyS M2 vs :: OB.map keyS (fun z' : ByteArray => AV.str z') M5 tm :: R)) a w → _
            refine nx (rgo tb hJ [0, 1, 2, 3, 1001] [.int (((k + 1 : Nat) : Int)), _] [0] [(_, _), (_, _), (_, _), (_, _), (_, .int (((k + 1 : Nat) : Int)))] rfl rfl rfl rfl ⟨hAdd (by first | omega | (simp; omega) | grind [ge_mem]) rfl rfl rfl rfl rfl, trivial⟩ ?_)
            refine kw pm6 ?_
            refine kw pm1 ?_
            refine kw pm6 ?_
            refine kw pm6 ?_
            refine kw pm6 ?_
            refine kw pm6 ?_
            refine kw pm6 ?_
            intro a w h; change ∃ j, _ ∧ _
            exact ⟨(k + 1, mput hn (((ge (alH f) k)).label) ((((ge (alH f) k))))), ⟨⟨(show (k + 1) ≤ (alH f).length from by omega), (show (mput hn (((ge (alH f) k)).label) ((((ge (alH f) k))))) = hmK hm ((alH f).take (k + 1)) from by rw [take_ge (by omega), hmK_snoc, ← f2_2])⟩, lz [0, 1, 2, 3, 4] rfl h⟩, (show (alH f).length - (k + 1) < (alH f).length - k from by first | omega | (simp; omega))⟩
           ·
            have hk4 : (alH f).length ≤ k := by have := of_decide_eq_false hb11; omega
            refine tr_exit (nx (k_seq ?_))
            refine tw pm6 ?_
            refine fun a w h => region_G (γ := { q' : List (ByteArray × ByteArray) // ∀ k', mget q' k' = if (mget ts k').isSome then mget ts k' else mget tm k' }) (fun ix' => ([.ptr [.lit (.map (some M1)), .lit (.map (some M2)), .lit (.map (some M3)), .lit (.map (some M4)), .lit (.map (some M5))], .ptr [.lit (.map (some M1)), .lit (.map (some M2)), .lit (.map (some M3)), .lit (.map (some M4)), .lit (.map (some M5))], .ptr [.lit (.map (some M5))], .lit (.map (some M5)), .ptr [.lit (.map (some m3))], .lit (.map (some m3)), .any] : List AV).getD ix' .any) (fun ix' => ([true, true, true, true, true, true, true] : List Bool).getD ix' true) [] (fun (j' : Nat) (g : { q' : List (ByteArray × ByteArray) // ∀ k', mget q' k' = if (mget ts k').isSome then mget ts k' else mget tm k' }) => match j' with | 0 => (OB.map keyS (fun z' : ByteArray => AV.str z') M5 tm :: OB.map keyS (fun z' : ByteArray => AV.str z') m3 ts :: OB.set keyS m2 ls :: OB.set keyS M3 (addS fs f.label) :: OB.set keyS M1 cs :: OB.set keyS M2 vs :: OB.map keyS (fun z' : Hy => AV.agg (hyC z')) M4 hn :: R) | _ => (OB.map keyS (fun z' : ByteArray => AV.str z') M5 g.1 :: OB.map keyS (fun z' : ByteArray => AV.str z') m3 ts :: OB.set keyS m2 ls :: OB.set keyS M3 (addS fs f.label) :: OB.set keyS M1 cs :: OB.set keyS M2 vs :: OB.map keyS (fun z' : Hy => AV.agg (hyC z')) M4 hn :: R)) (fun (k' : Nat) (g : { q' : List (ByteArray × ByteArray) // ∀ k', mget q' k' = if (mget ts k').isSome then mget ts k' else mget tm k' }) => match k' with | 0 => (.tuple #[]) | _ => undef) [6] 0 ⟨copyL tm ts, copyL_get tm ts⟩ (fun _ => rfl) h hJ mixedE rfl rfl rfl rfl rfl rfl (fun j' g hj p hp => by rcases j' with _ | _ | _ | j' <;> first | exact hp | exact List.mem_cons_of_mem _ hp | exact List.mem_cons_of_mem _ (List.mem_cons_of_mem _ hp) | (exfalso; omega)) ⟨?o37_5_0, ⟨?o37_5_1, ⟨?o37_5_2, ⟨?o37_5_3, ⟨?o37_5_4, ⟨?o37_5_5, ⟨?o37_5_6, trivial⟩⟩⟩⟩⟩⟩⟩ ⟨?e37_5_0, trivial⟩ trivial ?n37_5
            case o37_5_0 => exact fun _ O' _ => ⟨rfl, fun _ _ _ hx hl _ => r_load1p one_97 rfl (hl.env 1 3 _ rfl rfl) hx⟩
            case o37_5_1 => exact fun _ O' _ => ⟨rfl, fun _ _ _ hx hl _ => r_nilCheck rfl (hl.dep 0 176 _ rfl rfl rfl rfl) hx⟩
            case o37_5_2 => exact fun _ O' _ => ⟨rfl, fun _ _ _ hx hl _ => r_field fld_103_4_4 rfl (hl.dep 1 177 _ rfl rfl rfl rfl) hx⟩
            case o37_5_3 => exact fun _ O' _ => ⟨rfl, fun _ _ _ hx hl _ => r_load1 one_101 rfl (hl.dep 2 178 _ rfl rfl rfl rfl) hx⟩
            case o37_5_4 => exact fun _ O' _ => ⟨rfl, fun _ _ _ hx hl _ => r_field fld_112_1_1 rfl (hl.env 0 9 _ rfl rfl) hx⟩
            case o37_5_5 => exact fun _ O' _ => ⟨rfl, fun _ _ _ hx hl _ => r_load1 one_101 rfl (hl.dep 4 180 _ rfl rfl rfl rfl) hx⟩
            case o37_5_6 => exact not_in_row rfl
            case e37_5_0 => exact ⟨_, rfl, rfl, rfl, rfl, fun _ _ w hk hx hl _ => does_mono (d_fn (O := [OB.map keyS (fun z' : ByteArray => AV.str z') M5 tm, OB.map keyS (fun z' : ByteArray => AV.str z') m3 ts]) (R := (OB.set keyS m2 ls :: OB.set keyS M3 (addS fs f.label) :: OB.set keyS M1 cs :: OB.set keyS M2 vs :: OB.map keyS (fun z' : Hy => AV.agg (hyC z')) M4 hn :: R)) (p_CopySS hJ (M5 := M5) (T1 := m3) (tm := tm) (ts := ts) (by rw [e3]; exact tsK_keys _ h2t hsm)) call_100 rfl hS hJ0 has_nil hk hx (relL_cons (hl.dep 3 179 _ rfl rfl rfl rfl) (relL_cons (hl.dep 5 181 _ rfl rfl rfl rfl) relL_nil))) fun v w' ⟨i, hp, hv⟩ => ⟨i, rfl, fun k' hk' => absurd hk' (Nat.not_lt_zero _), fun _ => rel_tup0 hv, hp⟩⟩
            clear a w h
            intro z6
            change ∀ a w, St All (SO S (OB.map keyS (fun z' : ByteArray => AV.str z') M5 z6.1 :: OB.map keyS (fun z' : ByteArray => AV.str z') m3 ts :: OB.set keyS m2 ls :: OB.set keyS M3 (addS fs f.label) :: OB.set keyS M1 cs :: OB.set keyS M2 vs :: OB.map keyS (fun z' : Hy => AV.agg (hyC z')) M4 hn :: R)) w0 183 [] (XO J S w0.heap.size (OB.map keyS (fun z' : ByteArray => AV.str z') M5 z6.1 :: OB.map keyS (fun z' : ByteArray => AV.str z') m3 ts :: OB.set keyS m2 ls :: OB.set keyS M3 (addS fs f.label) :: OB.set keyS M1 cs :: OB.set keyS M2 vs :: OB.map keyS (fun z' : Hy => AV.agg (hyC z')) M4 hn :: R)) a w → _
            refine nx (k_seq (rgo tb hJ [1000] [_] [] [(_, .int (0 : Int))] rfl rfl rfl rfl trivial (nx ?_)))
            refine tw pm1 ?_
            refine tw st_drop ?_
            refine tw pm1 ?_
            refine tw st_drop ?_
            refine tw pm4 ?_
            refine tw pm2 ?_
            refine tw pm4 ?_
            refine tw pm4 ?_
            refine tw (ob2 (congrArg (fun z' => OB.set keyS M3 (z')) (show (addS fs f.label) = (((⟨((addS fs f.label), hn, z6.1), by first | (intro h9; rw [e9] at h9; exact absurd h9 (by first | decide | exact nz)) | (intro _; exact ⟨rfl, by rw [f2_2, take_all (by omega)], fun k' => by rw [z6.2 k', e3]⟩)⟩ : { q' : List ByteArray × List (ByteArray × Hy) × List (ByteArray × ByteArray) // frmK cs vs fs hm tm f bf = 0 → q'.1 = addS fs f.label ∧ q'.2.1 = hmK hm (alH f) ∧ ∀ k', mget q'.2.2 k' = if (mget (tsK (alH f)) k').isSome then mget (tsK (alH f)) k' else mget tm k' }).1.1)) from rfl))) ?_
            refine tw (ob3 (congrArg (fun z' => OB.map keyS (fun z' : Hy => AV.agg (hyC z')) M4 (z')) (show hn = (((⟨((addS fs f.label), hn, z6.1), by first | (intro h9; rw [e9] at h9; exact absurd h9 (by first | decide | exact nz)) | (intro _; exact ⟨rfl, by rw [f2_2, take_all (by omega)], fun k' => by rw [z6.2 k', e3]⟩)⟩ : { q' : List ByteArray × List (ByteArray × Hy) × List (ByteArray × ByteArray) // frmK cs vs fs hm tm f bf = 0 → q'.1 = addS fs f.label ∧ q'.2.1 = hmK hm (alH f) ∧ ∀ k', mget q'.2.2 k' = if (mget (tsK (alH f)) k').isSome then mget (tsK (alH f)) k' else mget tm k' }).1.2.1)) from rfl))) ?_
            refine tw (ob4 (congrArg (fun z' => OB.map keyS (fun z' : ByteArray => AV.str z') M5 (z')) (show z6.1 = (((⟨((addS fs f.label), hn, z6.1), by first | (intro h9; rw [e9] at h9; exact absurd h9 (by first | decide | exact nz)) | (intro _; exact ⟨rfl, by rw [f2_2, take_all (by omega)], fun k' => by rw [z6.2 k', e3]⟩)⟩ : { q' : List ByteArray × List (ByteArray × Hy) × List (ByteArray × ByteArray) // frmK cs vs fs hm tm f bf = 0 → q'.1 = addS fs f.label ∧ q'.2.1 = hmK hm (alH f) ∧ ∀ k', mget q'.2.2 k' = if (mget (tsK (alH f)) k').isSome then mget (tsK (alH f)) k' else mget tm k' }).1.2.2)) from rfl))) ?_
            refine tr_ret (fun a w h => leaveM1  (m := 0) (⟨((addS fs f.label), hn, z6.1), by first | (intro h9; rw [e9] at h9; exact absurd h9 (by first | decide | exact nz)) | (intro _; exact ⟨rfl, by rw [f2_2, take_all (by omega)], fun k' => by rw [z6.2 k', e3]⟩)⟩ : { q' : List ByteArray × List (ByteArray × Hy) × List (ByteArray × ByteArray) // frmK cs vs fs hm tm f bf = 0 → q'.1 = addS fs f.label ∧ q'.2.1 = hmK hm (alH f) ∧ ∀ k', mget q'.2.2 k' = if (mget (tsK (alH f)) k').isSome then mget (tsK (alH f)) k' else mget tm k' }) rfl h rfl (congrArg AV.int (show (0 : Int) = (frmK cs vs fs hm tm f bf) from e9.symm)))

end Go.Proofs.YtnpgmdffjemnbaaGreatDoor
namespace Go.Proofs.YtnpgmdffjemnbaaGreatDoor

/-! The order of pairs -/
theorem bl_trans : ∀ x y z : List UInt8, Op.bytesLess x y = true → Op.bytesLess y z = true → Op.bytesLess x z = true
  | _, _, [], _, h => by cases ‹List UInt8› <;> simp [Op.bytesLess] at h
  | x, [], _ :: _, h, _ => by cases x <;> simp [Op.bytesLess] at h
  | [], _ :: _, _ :: _, _, _ => rfl
  | a :: x, b :: y, c :: z, h1, h2 => by
    simp only [Op.bytesLess, Bool.or_eq_true, Bool.and_eq_true, decide_eq_true_eq, beq_iff_eq] at h1 h2 ⊢
    rcases h1 with h1 | ⟨rfl, h1⟩
    · rcases h2 with h2 | ⟨rfl, h2⟩
      · exact Or.inl (UInt8.lt_trans h1 h2)
      · exact Or.inl h1
    · rcases h2 with h2 | ⟨rfl, h2⟩
      · exact Or.inl h2
      · exact Or.inr ⟨rfl, bl_trans x y z h1 h2⟩
theorem bl_total : ∀ x y : List UInt8, Op.bytesLess x y = false → Op.bytesLess y x = false → x = y
  | [], [], _, _ => rfl
  | [], _ :: _, h, _ => by simp [Op.bytesLess] at h
  | _ :: _, [], _, h => by simp [Op.bytesLess] at h
  | a :: x, b :: y, h1, h2 => by
    simp only [Op.bytesLess, Bool.or_eq_false_iff, Bool.and_eq_false_iff, decide_eq_false_iff_not] at h1 h2
    have hab : a = b := by
      have h3 := h1.1
      have h4 := h2.1
      rw [UInt8.lt_iff_toNat_lt] at h3 h4
      exact UInt8.toNat_inj.1 (by omega)
    subst hab
    have h3 := h1.2
    have h4 := h2.2
    simp at h3 h4
    rw [bl_total x y h3 h4]
theorem toList_inj {a b : ByteArray} (h : a.toList = b.toList) : a = b := by
  rw [ByteArray.toList_eq, ByteArray.toList_eq] at h
  exact ByteArray.ext (Array.toList_inj.1 h)
theorem ltP_trans {x y z : Pr} (h1 : ltP x y = true) (h2 : ltP y z = true) : ltP x z = true := by
  simp only [ltP, Bool.or_eq_true, Bool.and_eq_true, decide_eq_true_eq] at h1 h2 ⊢
  rcases h1 with h1 | ⟨e1, h1⟩
  · rcases h2 with h2 | ⟨e2, h2⟩
    · exact .inl (bl_trans _ _ _ h1 h2)
    · exact .inl (e2 ▸ h1)
  · rcases h2 with h2 | ⟨e2, h2⟩
    · exact .inl (e1 ▸ h2)
    · exact .inr ⟨e1.trans e2, bl_trans _ _ _ h1 h2⟩
theorem ltP_total {x y : Pr} (h1 : ltP x y = false) (h2 : prEq x y = false) : ltP y x = true := by
  simp only [ltP, Bool.or_eq_false_iff, Bool.and_eq_false_iff, decide_eq_false_iff_not] at h1
  simp only [ltP, Bool.or_eq_true, Bool.and_eq_true, decide_eq_true_eq]
  by_cases ha : x.a = y.a
  · right
    refine ⟨ha.symm, ?_⟩
    have h3 := h1.2.resolve_left (fun h => h ha)
    cases hb : Op.bytesLess y.b.toList x.b.toList with
    | true => rfl
    | false => simp [prEq, ha, toList_inj (bl_total _ _ h3 hb)] at h2
  · left
    cases hb : Op.bytesLess y.a.toList x.a.toList with
    | true => rfl
    | false => exact absurd (toList_inj (bl_total _ _ h1.1 hb)) ha
def SrtP (l : List Pr) : Prop := l.Pairwise fun x y => ltP x y = true
theorem putF_mem : ∀ {l : List Pr} {p x : Pr}, x ∈ putF l p → x ∈ l ∨ x = p
  | [], p, x, h => by simpa [putF] using h
  | y :: l, p, x, h => by
    simp only [putF] at h
    split at h
    · rcases List.mem_cons.1 h with rfl | h
      · exact .inl (by simp)
      · rcases putF_mem h with h | h
        · exact .inl (by simp [h])
        · exact .inr h
    · split at h
      · exact .inl h
      · rcases List.mem_cons.1 h with rfl | h
        · exact .inr rfl
        · exact .inl h
theorem putF_srt : ∀ {l : List Pr} {p : Pr}, SrtP l → SrtP (putF l p)
  | [], _, _ => by simp [putF, SrtP]
  | y :: l, p, h => by
    have h' := List.pairwise_cons.1 h
    simp only [putF]
    by_cases h1 : ltP y p = true
    · rw [if_pos h1]
      refine List.pairwise_cons.2 ⟨fun x hx => ?_, putF_srt h'.2⟩
      rcases putF_mem hx with hx | rfl
      · exact h'.1 x hx
      · exact h1
    · rw [if_neg h1]
      by_cases h2 : prEq y p = true
      · rw [if_pos h2]; exact h
      · rw [if_neg h2]
        have h3 := ltP_total (by simpa using h1) (by simpa using h2)
        refine List.pairwise_cons.2 ⟨fun x hx => ?_, h⟩
        rcases List.mem_cons.1 hx with rfl | hx
        · exact h3
        · exact ltP_trans h3 (h'.1 x hx)
theorem foldl_put_srt : ∀ (w : List Pr) {a : List Pr}, SrtP a → SrtP (w.foldl putF a)
  | [], _, h => h
  | _ :: w, _, h => foldl_put_srt w (putF_srt h)
theorem putF_end : ∀ {l : List Pr} {p : Pr}, (∀ x ∈ l, ltP x p = true) → putF l p = l ++ [p]
  | [], _, _ => rfl
  | y :: l, p, h => by
    have ih : putF l p = l ++ [p] := putF_end fun x hx => h x (List.mem_cons_of_mem _ hx)
    simp only [putF, h y (by simp), if_true, ih, List.cons_append]
theorem foldl_put_id : ∀ (w a : List Pr), SrtP (a ++ w) → w.foldl putF a = a ++ w
  | [], a, _ => by simp
  | p :: w, a, h => by
    have h1 : ∀ x ∈ a, ltP x p = true := fun x hx => (List.pairwise_append.1 h).2.2 x hx p (by simp)
    rw [List.foldl_cons, putF_end h1, foldl_put_id w (a ++ [p]) (by simpa using h)]
    simp
theorem joinF_srt (w : List Pr) : w = joinF w [] ↔ SrtP w := by
  unfold joinF
  rw [List.append_nil]
  constructor
  · intro h
    rw [h]
    exact foldl_put_srt w .nil
  · intro h
    rw [foldl_put_id w [] (by simpa using h)]
    simp
theorem srt_chain {w : List Pr} (h : ∀ i, 0 < i → i < w.length → ltP (ge w (i - 1)) (ge w i) = true) : SrtP w := by
  have key : ∀ d i, i + 1 + d < w.length → ltP (ge w i) (ge w (i + 1 + d)) = true := by
    intro d
    induction d with
    | zero => intro i hi; simpa using h (i + 1) (by omega) (by omega)
    | succ d ih =>
      intro i hi
      refine ltP_trans (ih i (by omega)) ?_
      have := h (i + 1 + d + 1) (by omega) (by omega)
      rw [show i + 1 + d + 1 - 1 = i + 1 + d by omega] at this
      exact this
  rw [SrtP, List.pairwise_iff_getElem]
  intro i j hi hj hij
  have := key (j - i - 1) i (by omega)
  rw [show i + 1 + (j - i - 1) = j by omega] at this
  rwa [ge_eq hi, ge_eq hj] at this
theorem badK_wide {vs : List ByteArray} {d : Db} (hv : vs = d.vars) (w : List Pr) : ((List.range w.length).all fun i => !badK vs w i) = (!w.any (badW d) && decide (w = joinF w [])) := by
  subst hv
  have hk : ∀ i, 0 < i → (0 ≤ cmpPr (ge w (((i : Nat) : Int) - 1).toNat) (ge w i) ↔ ltP (ge w (i - 1)) (ge w i) = false) := fun i h => by
    rw [show (((i : Nat) : Int) - 1).toNat = i - 1 by omega, ← cmpPr_lt, decide_eq_false_iff_not]; omega
  rw [Bool.eq_iff_iff]
  simp only [List.all_eq_true, List.mem_range, Bool.not_eq_true', Bool.and_eq_true, List.any_eq_false, decide_eq_true_eq, joinF_srt]
  constructor
  · intro h
    refine ⟨fun p hp => ?_, srt_chain fun i h1 h2 => ?_⟩
    · obtain ⟨i, hi, rfl⟩ := mem_ge hp
      have := h i hi
      simp only [badK, Bool.or_eq_false_iff] at this
      simp only [badW, Bool.or_eq_true, not_or, Bool.not_eq_true]
      exact this.1
    · have := h i h2
      simp only [badK, Bool.or_eq_false_iff, Bool.and_eq_false_iff, decide_eq_false_iff_not] at this
      have h3 := this.2.resolve_left (by omega)
      rw [hk i h1] at h3
      simpa using h3
  · rintro ⟨h1, h2⟩ i hi
    have h3 := h1 _ (ge_mem hi)
    simp only [badW, Bool.or_eq_true, not_or, Bool.not_eq_true] at h3
    simp only [badK, Bool.or_eq_false_iff, Bool.and_eq_false_iff, decide_eq_false_iff_not]
    refine ⟨h3, ?_⟩
    by_cases h0 : 0 < i
    · right
      rw [hk i h0]
      have := List.pairwise_iff_getElem.1 h2 (i - 1) i (by omega) hi (by omega)
      rw [ge_eq hi, ge_eq (by omega), this]; decide
    · left; omega

/-! What is known -/
/-- Types of variables of hypotheses. -/
structure TyI (l : List Hy) (tm : List (ByteArray × ByteArray)) : Prop where
  hit : ∀ x ∈ l, ∀ v, ofB x [v] = true → mget tm v = some (ge x.text 0)
  got : ∀ v t, mget tm v = some t → ∃ x ∈ l, ofB x [v] = true ∧ ge x.text 0 = t
structure HyI (l : List Hy) (hm : List (ByteArray × Hy)) : Prop where
  hit : ∀ x ∈ l, mget hm x.label = some x
  got : ∀ s x, mget hm s = some x → x ∈ l ∧ x.label = s
structure KInv (d : Db) (k : Nat) (fs : List ByteArray) (hm : List (ByteArray × Hy)) (tm : List (ByteArray × ByteArray)) (bf : List Hy) : Prop where
  fr : ∀ s, s ∈ fs ↔ frL d k s = true
  hy : HyI (oth d k) hm
  ty : TyI (oth d k) tm
  bf : bf.map Hy.label = befL d k
theorem kinv_zero (d : Db) : KInv d 0 [] [] [] [] := ⟨fun s => by simp [frL], ⟨fun x hx => by simp [oth_zero] at hx, fun s x h => by simp [mget_nil] at h⟩, ⟨fun x hx => by simp [oth_zero] at hx, fun s x h => by simp [mget_nil] at h⟩, by simp [befL]⟩
theorem ofB_one {x : Hy} {v : ByteArray} : ofB x [v] = true ↔ x.floating = true ∧ x.text.length = 2 ∧ ge x.text 1 = v := by
  simp only [ofB, Bool.and_eq_true, decide_eq_true_eq, List.mem_singleton]
  constructor
  · rintro ⟨⟨h1, h2⟩, h3⟩; exact ⟨h1, by omega, h3⟩
  · rintro ⟨h1, h2, h3⟩; exact ⟨⟨h1, by omega⟩, h3⟩
theorem drop1_two {l : List ByteArray} (h : l.length = 2) : l.drop 1 = [ge l 1] := by
  match l, h with
  | [a, b], _ => rfl
theorem hyL_oth {d : Db} {k : Nat} {s : ByteArray} : hyL d k s = (oth d k).any fun x => decide (x.label = s) := by
  simp only [hyL, oth, hysF]
  induction d.frames.take k with
  | nil => rfl
  | cons f l ih => rw [List.any_cons, ih, List.flatMap_cons, List.any_append (xs := f.hyps ++ f.dummies)]
section
variable {d : Db} {k : Nat} {fs : List ByteArray} {hm : List (ByteArray × Hy)} {tm : List (ByteArray × ByteArray)} {bf : List Hy}
theorem HyI.some {l : List Hy} (h : HyI l hm) (s : ByteArray) : (mget hm s).isSome = l.any fun x => decide (x.label = s) := by
  rw [Bool.eq_iff_iff, List.any_eq_true]
  constructor
  · intro e
    obtain ⟨x, hx⟩ := Option.isSome_iff_exists.1 e
    have := h.got s x hx
    exact ⟨x, this.1, by simpa using this.2⟩
  · rintro ⟨x, hx, e⟩
    simp only [decide_eq_true_eq] at e
    rw [← e, h.hit x hx]; rfl
theorem TyI.bad {l : List Hy} (h : TyI l tm) (y : Hy) (h2 : y.text.length = 2) : ((mget tm (ge y.text 1)).isSome && !decide ((mget tm (ge y.text 1)).getD default = ge y.text 0)) = l.any (hTyp y) := by
  rw [Bool.eq_iff_iff, List.any_eq_true]
  unfold hTyp
  rw [drop1_two h2]
  constructor
  · intro e
    simp only [Bool.and_eq_true, Bool.not_eq_true', decide_eq_false_iff_not] at e
    obtain ⟨t, ht⟩ := Option.isSome_iff_exists.1 e.1
    obtain ⟨x, hx, h3, h4⟩ := h.got _ _ ht
    refine ⟨x, hx, ?_⟩
    rw [ht] at e
    simp only [Option.getD_some] at e
    simp [h3, h4, e.2]
  · rintro ⟨x, hx, e⟩
    simp only [Bool.and_eq_true, Bool.not_eq_true', decide_eq_false_iff_not] at e
    rw [h.hit x hx _ e.1]
    simp [e.2]
theorem TyI.have {l : List Hy} (h : TyI l tm) (y : Hy) (h2 : y.text.length = 2) : (mget tm (ge y.text 1)).isSome = l.any (hOf y) := by
  rw [Bool.eq_iff_iff, List.any_eq_true]
  unfold hOf
  rw [drop1_two h2]
  constructor
  · intro e
    obtain ⟨t, ht⟩ := Option.isSome_iff_exists.1 e
    obtain ⟨x, hx, h3, _⟩ := h.got _ _ ht
    exact ⟨x, hx, h3⟩
  · rintro ⟨x, hx, e⟩
    rw [h.hit x hx _ e]; rfl
theorem HyI.bad {l : List Hy} (h : HyI l hm) (y : Hy) : ((mget hm y.label).isSome && !hyEq ((mget hm y.label).getD default) y) = l.any (hSam y) := by
  rw [Bool.eq_iff_iff, List.any_eq_true]
  unfold hSam
  constructor
  · intro e
    simp only [Bool.and_eq_true, Bool.not_eq_true'] at e
    obtain ⟨x, hx⟩ := Option.isSome_iff_exists.1 e.1
    have := h.got _ _ hx
    rw [hx] at e
    exact ⟨x, this.1, by simpa [this.2] using e.2⟩
  · rintro ⟨x, hx, e⟩
    simp only [Bool.and_eq_true, Bool.not_eq_true', decide_eq_true_eq] at e
    rw [← e.1, h.hit x hx]
    simpa using e.2
theorem lsK_mem (l : List Hy) (s : ByteArray) : s ∈ lsK l ↔ ∃ x ∈ l, x.label = s := by
  rw [← List.reverse_reverse l]
  induction l.reverse with
  | nil => simp [lsK]
  | cons y m ih =>
    rw [List.reverse_cons, lsK_snoc, mem_addS, ih]
    simp only [List.mem_append, List.mem_singleton]
    constructor
    · rintro (⟨x, h, e⟩ | rfl)
      · exact ⟨x, .inl h, e⟩
      · exact ⟨y, .inr rfl, rfl⟩
    · rintro ⟨x, h | rfl, e⟩
      · exact .inl ⟨x, h, e⟩
      · exact .inr e.symm
theorem tyI_snoc {l : List Hy} {ts : List (ByteArray × ByteArray)} {y : Hy} (h : TyI l ts) (h2 : y.floating = true → y.text.length = 2) (h3 : y.floating = true → l.any (hOf y) = false) : TyI (l ++ [y]) (if y.floating then mput ts (ge y.text 1) (ge y.text 0) else ts) := by
  by_cases hf : y.floating = true
  · rw [if_pos hf]
    have h2' := h2 hf
    have h3' := h3 hf
    rw [List.any_eq_false] at h3'
    refine ⟨fun x hx v hv => ?_, fun v t hv => ?_⟩
    · rw [mget_put]
      rcases List.mem_append.1 hx with hx | hx
      · have : ¬ v = ge y.text 1 := fun e => h3' x hx (by rw [hOf, drop1_two h2', ← e]; exact hv)
        rw [if_neg this]
        exact h.hit x hx v hv
      · rw [List.mem_singleton.1 hx] at hv ⊢
        rw [if_pos (ofB_one.1 hv).2.2.symm]
    · rw [mget_put] at hv
      split at hv
      · rename_i e
        refine ⟨y, by simp, ofB_one.2 ⟨hf, h2', e.symm⟩, by simpa using hv⟩
      · obtain ⟨x, hx, h4⟩ := h.got v t hv
        exact ⟨x, by simp [hx], h4⟩
  · rw [if_neg hf]
    refine ⟨fun x hx v hv => ?_, fun v t hv => ?_⟩
    · rcases List.mem_append.1 hx with hx | hx
      · exact h.hit x hx v hv
      · rw [List.mem_singleton.1 hx] at hv
        exact absurd (ofB_one.1 hv).1 hf
    · obtain ⟨x, hx, h4⟩ := h.got v t hv
      exact ⟨x, by simp [hx], h4⟩
theorem hmK_hit : ∀ (l : List Hy) (hm : List (ByteArray × Hy)) (x : Hy), (∀ y ∈ l, y.label = x.label → y = x) → (x ∈ l ∨ mget hm x.label = some x) → mget (hmK hm l) x.label = some x
  | [], _, _, _, h => by simpa [hmK] using h
  | y :: l, hm, x, h, h1 => by
    show mget (hmK (mput hm y.label y) l) x.label = _
    refine hmK_hit l _ x (fun z hz => h z (by simp [hz])) ?_
    by_cases hx : x ∈ l
    · exact .inl hx
    · right
      rw [mget_put]
      by_cases e : x.label = y.label
      · rw [if_pos e, h y (by simp) e.symm]
      · rw [if_neg e]
        refine h1.resolve_left fun hm' => ?_
        rcases List.mem_cons.1 hm' with rfl | h'
        · exact e rfl
        · exact hx h'
theorem hmK_got : ∀ (l : List Hy) (hm : List (ByteArray × Hy)) (s : ByteArray) (x : Hy), mget (hmK hm l) s = some x → (x ∈ l ∧ x.label = s) ∨ mget hm s = some x
  | [], _, _, _, h => .inr h
  | y :: l, hm, s, x, h => by
    rcases hmK_got l (mput hm y.label y) s x h with ⟨h1, h2⟩ | h1
    · exact .inl ⟨by simp [h1], h2⟩
    · rw [mget_put] at h1
      split at h1
      · rename_i e
        have : y = x := by simpa using h1
        subst this
        exact .inl ⟨by simp, e.symm⟩
      · exact .inr h1
theorem min_nz (g : Nat → Int) : ∀ n, (∀ j, j < n → g j = 0) ∨ ∃ i, (i < n ∧ g i ≠ 0) ∧ ∀ j, j < i → g j = 0
  | 0 => .inl fun _ h => absurd h (Nat.not_lt_zero _)
  | n + 1 => by
    rcases min_nz g n with h | ⟨i, ⟨h1, h2⟩, h3⟩
    · by_cases e : g n = 0
      · exact .inl (step_all h e)
      · exact .inr ⟨n, ⟨by omega, e⟩, h⟩
    · exact .inr ⟨i, ⟨by omega, h2⟩, h3⟩
theorem firstE_congr {n : Nat} {g h : Nat → Int} (hh : ∀ i, i < n → (∀ j, j < i → g j = 0) → g i = h i) : firstE n g = firstE n h := by
  by_cases e : ∃ i, i < n ∧ g i ≠ 0
  · obtain ⟨i, hi, hmin⟩ : ∃ i, (i < n ∧ g i ≠ 0) ∧ ∀ j, j < i → g j = 0 := by
      rcases min_nz g n with h0 | h0
      · obtain ⟨i, hi, hn⟩ := e
        exact absurd (h0 i hi) hn
      · exact h0
    have h0 : ∀ j, j < i → h j = 0 := fun j hj => by rw [← hh j (by omega) fun q hq => hmin q (by omega)]; exact hmin j hj
    have h1 := hh i hi.1 hmin
    rw [firstE_hit hi.1 hmin hi.2, firstE_hit hi.1 h0 (by rw [← h1]; exact hi.2), h1]
  · have h0 : ∀ j, j < n → g j = 0 := fun j hj => Classical.byContradiction fun h => e ⟨j, hj, h⟩
    rw [firstE_ok h0, firstE_ok fun j hj => by rw [← hh j hj fun q hq => h0 q (by omega)]; exact h0 j hj]
end
end Go.Proofs.YtnpgmdffjemnbaaGreatDoor
namespace Go.Proofs.YtnpgmdffjemnbaaGreatDoor

section
variable {d : Db} {k : Nat} {fs : List ByteArray} {hm : List (ByteArray × Hy)} {tm : List (ByteArray × ByteArray)} {bf : List Hy}
theorem KInv.fr' (h : KInv d k fs hm tm bf) (hk : k < d.frames.length) (s : ByteArray) : s ∈ addS fs (ge d.frames k).label ↔ frL d (k + 1) s = true := by
  rw [mem_addS, frL, any_take_succ hk, Bool.or_eq_true, h.fr s, frL, decide_eq_true_eq]
  exact or_congr Iff.rfl eq_comm
/-- One hypothesis, where those ahead of it in its frame are right. -/
theorem hyp_same (h : KInv d k fs hm tm bf) (hk : k < d.frames.length) {y : Hy} {bs : List Hy} {ts : List (ByteArray × ByteArray)} {dm : Bool} (ht : TyI bs ts) :
    hypK d.consts d.vars (addS fs (ge d.frames k).label) hm tm (lsK bs) ts y dm = hypE d k y bs dm := by
  unfold hypK hypE
  by_cases h1 : hForm y dm = true
  · rw [if_pos h1, if_pos h1]
  rw [if_neg h1, if_neg h1]
  have h1' : hForm y dm = false := by simpa using h1
  have q1 : (((decide (y.label ∈ d.consts) || decide (y.label ∈ d.vars)) || decide (y.label ∈ addS fs (ge d.frames k).label)) || decide (y.label ∈ lsK bs)) = ((frL d (k + 1) y.label || symD d y.label) || bs.any (hLab y)) := by
    rw [show decide (y.label ∈ addS fs (ge d.frames k).label) = frL d (k + 1) y.label by rw [Bool.eq_iff_iff, decide_eq_true_eq]; exact h.fr' hk _,
      show decide (y.label ∈ lsK bs) = bs.any (hLab y) by rw [Bool.eq_iff_iff, decide_eq_true_eq, lsK_mem, List.any_eq_true]; simp [hLab], ← symD, Bool.or_comm (symD d y.label)]
  rw [q1]
  by_cases h2 : (frL d (k + 1) y.label || symD d y.label) = true
  · rw [if_pos (by rw [h2]; rfl), if_pos h2]
  rw [if_neg h2, show (frL d (k + 1) y.label || symD d y.label) = false by simpa using h2, Bool.false_or]
  by_cases h3 : bs.any (hLab y) = true
  · rw [if_pos h3, if_pos h3]
  rw [if_neg h3, if_neg h3]
  change (if hScope d y then 12 else _) = _
  by_cases h4 : hScope d y = true
  · rw [if_pos h4, if_pos h4]
  rw [if_neg h4, if_neg h4, h.hy.bad]
  cases hf : y.floating with
  | true =>
    have hl := hForm_two h1' hf
    simp only [Bool.not_true, Bool.false_and, Bool.false_eq_true, if_false, Bool.true_and]
    rw [h.ty.bad y hl, ht.bad y hl, ht.have y hl, List.any_append]
  | false =>
    simp only [Bool.not_false, Bool.false_and, Bool.false_eq_true, if_false, Bool.true_and]
    have hl : (decide (((y.text.length : Nat) : Int) = 0) || decide (200 < ((y.text.length : Nat) : Int))) = false := by
      have := h1'
      simp only [hForm, hf, Bool.not_false, Bool.true_and, Bool.or_eq_false_iff] at this
      simpa using this.2
    rw [txtE_form, hl]
    simp
theorem hypE_of {d : Db} {k : Nat} {y : Hy} {bs : List Hy} {dm : Bool} (h : hypE d k y bs dm = 0) :
    bs.any (hLab y) = false ∧ (y.floating = true → (oth d k ++ bs).any (hTyp y) = false ∧ bs.any (hOf y) = false) ∧ (oth d k).any (hSam y) = false := by
  unfold hypE at h
  by_cases h1 : hForm y dm = true
  · rw [if_pos h1] at h; exact absurd h (by decide)
  rw [if_neg h1] at h
  by_cases h2 : (frL d (k + 1) y.label || symD d y.label) = true
  · rw [if_pos h2] at h; exact absurd h (by decide)
  rw [if_neg h2] at h
  by_cases h3 : bs.any (hLab y) = true
  · rw [if_pos h3] at h; exact absurd h (by decide)
  rw [if_neg h3] at h
  by_cases h4 : hScope d y = true
  · rw [if_pos h4] at h; exact absurd h (by decide)
  rw [if_neg h4] at h
  by_cases h5 : (!y.floating && !decide (formE d y.text = 0)) = true
  · rw [if_pos h5] at h; simp [h] at h5
  rw [if_neg h5] at h
  by_cases h6 : (y.floating && (oth d k ++ bs).any (hTyp y)) = true
  · rw [if_pos h6] at h; exact absurd h (by decide)
  rw [if_neg h6] at h
  by_cases h7 : (y.floating && bs.any (hOf y)) = true
  · rw [if_pos h7] at h; exact absurd h (by decide)
  rw [if_neg h7] at h
  by_cases h8 : (oth d k).any (hSam y) = true
  · rw [if_pos h8] at h; exact absurd h (by decide)
  exact ⟨(Bool.not_eq_true _).mp h3, fun hf => ⟨by rw [hf, Bool.true_and] at h6; exact (Bool.not_eq_true _).mp h6, by rw [hf, Bool.true_and] at h7; exact (Bool.not_eq_true _).mp h7⟩, (Bool.not_eq_true _).mp h8⟩
/-- What is right about the hypotheses of the frame k, as far as they were looked at. -/
theorem lst_types (h : ∀ j, j < (alH (ge d.frames k)).length → lstG d k j = 0) : ∀ i, i ≤ (alH (ge d.frames k)).length → TyI ((alH (ge d.frames k)).take i) (tsK ((alH (ge d.frames k)).take i)) := by
  intro i
  induction i with
  | zero => intro _; exact ⟨fun x hx => by simp at hx, fun v t ht => by simp [tsK, mget_nil] at ht⟩
  | succ i ih =>
    intro hi
    have h0 := h i (by omega)
    rw [take_ge (by omega), tsK_snoc]
    exact tyI_snoc (ih (by omega)) (fun hf => hForm_two (hypE_form h0) hf) fun hf => ((hypE_of h0).2.1 hf).2
theorem lst_same (h : KInv d k fs hm tm bf) (hk : k < d.frames.length) : firstE (alH (ge d.frames k)).length (hyK d.consts d.vars fs hm tm (ge d.frames k)) = lstE d k := by
  have key : ∀ i, i < (alH (ge d.frames k)).length → (∀ j, j < i → lstG d k j = 0) → hyK d.consts d.vars fs hm tm (ge d.frames k) i = lstG d k i ∧ TyI ((alH (ge d.frames k)).take i) (tsK ((alH (ge d.frames k)).take i)) := by
    intro i
    induction i with
    | zero =>
      intro _ _
      have ht : TyI ((alH (ge d.frames k)).take 0) (tsK ((alH (ge d.frames k)).take 0)) := ⟨fun x hx => by simp at hx, fun v t ht => by simp [tsK, mget_nil] at ht⟩
      exact ⟨hyp_same h hk ht, ht⟩
    | succ i ih =>
      intro hi hj
      have h0 := hj i (by omega)
      have ht : TyI ((alH (ge d.frames k)).take (i + 1)) (tsK ((alH (ge d.frames k)).take (i + 1))) := by
        rw [take_ge (by omega), tsK_snoc]
        exact tyI_snoc (ih (by omega) fun j hj' => hj j (by omega)).2 (fun hf => hForm_two (hypE_form h0) hf) fun hf => ((hypE_of h0).2.1 hf).2
      exact ⟨hyp_same h hk ht, ht⟩
  exact (firstE_congr fun i hi hj => (key i hi hj).1.symm).symm
theorem typF_nodup : ∀ {l : List Hy}, (∀ i, i < l.length → (ge l i).floating = true → (ge l i).text.length = 2 ∧ (l.take i).any (hOf (ge l i)) = false) → (typF l).Nodup := by
  intro l h
  have key : ∀ i, i ≤ l.length → (typF (l.take i)).Nodup := by
    intro i
    induction i with
    | zero => intro _; simp [typF]
    | succ i ih =>
      intro hi
      rw [typF, filter_take_succ (by omega), List.map_append]
      by_cases hf : (ge l i).floating = true
      · simp only [hf, if_true, List.map_cons, List.map_nil]
        rw [List.nodup_append]
        refine ⟨ih (by omega), by simp, fun x hx z hz e => ?_⟩
        rw [List.mem_singleton.1 hz] at e
        obtain ⟨w, hw, rfl⟩ := List.mem_map.1 hx
        rw [List.mem_filter] at hw
        have h1 := h i (by omega) hf
        have h2 := List.any_eq_false.1 h1.2 w hw.1
        refine h2 ?_
        rw [hOf, drop1_two h1.1]
        obtain ⟨q, hq, rfl⟩ := mem_ge hw.1
        have hq' : q < i := by simp at hq; omega
        have e2 : ge (l.take i) q = ge l q := by simp [ge, List.getD_eq_getElem?_getD, hq']
        rw [e2] at hw e ⊢
        exact ofB_one.2 ⟨by simpa using hw.2, (h q (by omega) (by simpa using hw.2)).1, e⟩
      · simp only [hf, Bool.false_eq_true, if_false, List.map_nil, List.append_nil]
        exact ih (by omega)
  have := key l.length (Nat.le_refl _)
  rwa [take_all (Nat.le_refl _)] at this
theorem ge_appl {α : Type} [Inhabited α] {xs ys : List α} {i : Nat} (h : i < xs.length) : ge (xs ++ ys) i = ge xs i := by
  simp [ge, List.getD_eq_getElem?_getD, List.getElem?_append_left h]
theorem set_str (h : ∀ j, j < (alH (ge d.frames k)).length → lstG d k j = 0) : setB d.vars (ge d.frames k) = strB d (ge d.frames k) := by
  have hf0 : ∀ i, i < (ge d.frames k).hyps.length → (ge (ge d.frames k).hyps i).floating = true → (ge (ge d.frames k).hyps i).text.length = 2 ∧ ((ge d.frames k).hyps.take i).any (hOf (ge (ge d.frames k).hyps i)) = false := fun i hi hf => by
    have h0 := h i (by simp [alH]; omega)
    rw [lstG] at h0
    rw [ge_appl hi] at h0
    rw [List.take_append_of_le_length (by omega)] at h0
    exact ⟨hForm_two (hypE_form h0) hf, ((hypE_of h0).2.1 hf).2⟩
  have hnd := typF_nodup hf0
  have hm0 : manV d.vars (ge d.frames k) = mandF d (ge d.frames k) := rfl
  have hmn : (mandF d (ge d.frames k)).Nodup := (occF_spec _ _).1
  unfold setB strB
  rw [badK_wide rfl, hm0]
  have e1 : (ge d.frames k).hyps.all (hInM (mandF d (ge d.frames k))) = (ge d.frames k).hyps.all (hIn (mandF d (ge d.frames k))) := by
    rw [Bool.eq_iff_iff, List.all_eq_true, List.all_eq_true]
    refine forall_congr' fun x => ⟨fun hx hm => ?_, fun hx hm => ?_⟩ <;> have := hx hm
    · obtain ⟨i, hi, rfl⟩ := mem_ge hm
      cases hf : (ge (ge d.frames k).hyps i).floating with
      | false => simp [hIn, hf]
      | true =>
        simp only [hInM, hf, Bool.not_true, Bool.false_or, decide_eq_true_eq] at this
        simp [hIn, ofB, hf, (hf0 i hi hf).1, this]
    · obtain ⟨i, hi, rfl⟩ := mem_ge hm
      cases hf : (ge (ge d.frames k).hyps i).floating with
      | false => simp [hInM, hf]
      | true =>
        simp only [hIn, ofB, hf, Bool.not_true, Bool.false_or, Bool.true_and, Bool.and_eq_true, decide_eq_true_eq] at this
        simp [hInM, hf, this.2]
  rw [e1]
  by_cases ha : (ge d.frames k).hyps.all (hIn (mandF d (ge d.frames k))) = true
  · have hsub : ∀ s ∈ typF (ge d.frames k).hyps, s ∈ mandF d (ge d.frames k) := fun s hs => by
      obtain ⟨x, hx, rfl⟩ := List.mem_map.1 hs
      rw [List.mem_filter] at hx
      have := List.all_eq_true.1 (e1.trans ha) x hx.1
      simpa [hInM, hx.2] using this
    have e2 : decide ((typF (ge d.frames k).hyps).length = (mandF d (ge d.frames k)).length) = (mandF d (ge d.frames k)).all fun s => decide (s ∈ typF (ge d.frames k).hyps) := by
      rw [Bool.eq_iff_iff, decide_eq_true_eq, List.all_eq_true]
      constructor
      · intro e s hs
        rw [decide_eq_true_eq]
        refine Classical.byContradiction fun hn => ?_
        have := nodup_le (ys := (mandF d (ge d.frames k)).erase s) hnd fun z hz => (List.mem_erase_of_ne (fun e' : z = s => hn (by rw [← e']; exact hz))).2 (hsub z hz)
        rw [List.length_erase_of_mem hs] at this
        have := List.length_pos_of_mem hs
        omega
      · intro e
        have h1 := nodup_le hnd hsub
        have h2 := nodup_le hmn fun s hs => by simpa using e s hs
        omega
    rw [e2, ha]
    simp only [Bool.true_and, Bool.and_assoc]
  · rw [show (ge d.frames k).hyps.all (hIn (mandF d (ge d.frames k))) = false by simpa using ha]
    rfl
theorem frame_same (h : KInv d k fs hm tm bf) (hk : k < d.frames.length) : frmK d.consts d.vars fs hm tm (ge d.frames k) bf = frE d k := by
  unfold frmK frE frmE
  by_cases h1 : (!labB (ge d.frames k).label) = true
  · rw [if_pos h1, if_pos h1]
  rw [if_neg h1, if_neg h1, h.hy.some, ← hyL_oth]
  have q : ((hyL d k (ge d.frames k).label || (decide ((ge d.frames k).label ∈ d.consts) || decide ((ge d.frames k).label ∈ d.vars))) || decide ((ge d.frames k).label ∈ fs)) = ((frL d k (ge d.frames k).label || hyL d k (ge d.frames k).label) || symD d (ge d.frames k).label) := by
    rw [show decide ((ge d.frames k).label ∈ fs) = frL d k (ge d.frames k).label by rw [Bool.eq_iff_iff, decide_eq_true_eq]; exact h.fr _, ← symD]
    cases hyL d k (ge d.frames k).label <;> cases frL d k (ge d.frames k).label <;> cases symD d (ge d.frames k).label <;> rfl
  rw [q]
  by_cases h2 : ((frL d k (ge d.frames k).label || hyL d k (ge d.frames k).label) || symD d (ge d.frames k).label) = true
  · rw [if_pos h2, if_pos h2]
  rw [if_neg h2, if_neg h2]
  by_cases h3 : (decide ((40 : Int) < (((ge d.frames k).hyps.length : Nat) : Int)) || decide ((40 : Int) < (((ge d.frames k).dummies.length : Nat) : Int))) = true
  · rw [if_pos h3, if_pos h3]
  rw [if_neg h3, if_neg h3, lst_same h hk]
  by_cases h4 : (!decide (lstE d k = 0)) = true
  · rw [if_pos h4, if_pos h4]
  rw [if_neg h4, if_neg h4, txtE_form]
  have h4' : ∀ j, j < (alH (ge d.frames k)).length → lstG d k j = 0 := firstE_inv (n := (alH (ge d.frames k)).length) (show lstE d k = 0 by simpa using h4)
  by_cases h5 : (decide ((((ge d.frames k).text.length : Nat) : Int) = 0) || decide (200 < (((ge d.frames k).text.length : Nat) : Int))) = true
  · rw [if_pos h5, if_pos h5, if_pos (by decide)]
  rw [if_neg h5, if_neg h5]
  by_cases h6 : (!decide (formE d (ge d.frames k).text = 0)) = true
  · rw [if_pos h6, if_pos h6]
  rw [if_neg h6, if_neg h6, setE, set_str h4']
  by_cases h7 : strB d (ge d.frames k) = true
  · rw [if_pos h7, if_neg (show ¬ (!decide ((0 : Int) = 0)) = true by decide), if_neg (show ¬ (!strB d (ge d.frames k)) = true by simp [h7])]
    have e8 : prfB (ge d.frames k) = (((decide (0 < (((ge d.frames k).proof.length : Nat) : Int)) && !(ge d.frames k).thm) || decide (8000 < (((ge d.frames k).proof.length : Nat) : Int))) || !(ge d.frames k).proof.all proofB) := by
      rw [show (!(ge d.frames k).proof.all proofB) = (ge d.frames k).proof.any fun s => !proofB s from List.not_all_eq_any_not ..]
      unfold prfB
      by_cases h0 : (ge d.frames k).proof = []
      · simp [h0]
      · have : 0 < (ge d.frames k).proof.length := List.length_pos_iff.2 h0
        simp [this]
    have e9 : (((essF (ge d.frames k).hyps).drop (comL (bf.map Hy.label) ((essF (ge d.frames k).hyps).map Hy.label))).any fun y => (mget hm y.label).isSome) = ordB d k (ge d.frames k) := by
      rw [ordB, h.bf, ← List.map_drop, List.any_map]
      congr 1
      funext y
      rw [h.hy.some, ← hyL_oth]; rfl
    rw [e8, e9]
    by_cases h8 : ((decide (0 < (((ge d.frames k).proof.length : Nat) : Int)) && !(ge d.frames k).thm) || decide (8000 < (((ge d.frames k).proof.length : Nat) : Int))) = true
    · rw [if_pos (by rw [h8]; rfl), if_pos h8]
    · rw [if_neg h8, show ((decide (0 < (((ge d.frames k).proof.length : Nat) : Int)) && !(ge d.frames k).thm) || decide (8000 < (((ge d.frames k).proof.length : Nat) : Int))) = false by simpa using h8, Bool.false_or]
  · rw [if_neg h7, if_pos (show (!decide ((70 : Int) = 0)) = true by decide), if_pos (show (!strB d (ge d.frames k)) = true by simpa using h7)]
theorem frE_list (h : frE d k = 0) : ∀ j, j < (alH (ge d.frames k)).length → lstG d k j = 0 := by
  refine firstE_inv (n := (alH (ge d.frames k)).length) ?_
  change lstE d k = 0
  unfold frE frmE at h
  refine Classical.byContradiction fun hn => ?_
  by_cases h1 : (!labB (ge d.frames k).label) = true
  · rw [if_pos h1] at h; exact absurd h (by decide)
  rw [if_neg h1] at h
  by_cases h2 : ((frL d k (ge d.frames k).label || hyL d k (ge d.frames k).label) || symD d (ge d.frames k).label) = true
  · rw [if_pos h2] at h; exact absurd h (by decide)
  rw [if_neg h2] at h
  by_cases h3 : (decide ((40 : Int) < (((ge d.frames k).hyps.length : Nat) : Int)) || decide ((40 : Int) < (((ge d.frames k).dummies.length : Nat) : Int))) = true
  · rw [if_pos h3] at h; exact absurd h (by decide)
  rw [if_neg h3, if_pos (by simpa using hn)] at h
  exact hn h
theorem kinv_succ (h : KInv d k fs hm tm bf) (hk : k < d.frames.length) (h0 : frE d k = 0) {tn : List (ByteArray × ByteArray)}
    (ht : ∀ v, mget tn v = if (mget (tsK (alH (ge d.frames k))) v).isSome then mget (tsK (alH (ge d.frames k))) v else mget tm v) :
    KInv d (k + 1) (addS fs (ge d.frames k).label) (hmK hm (alH (ge d.frames k))) tn (essF (ge d.frames k).hyps) := by
  have hl := frE_list h0
  have hT := lst_types hl (alH (ge d.frames k)).length (Nat.le_refl _)
  rw [take_all (Nat.le_refl _)] at hT
  have hat : ∀ y ∈ alH (ge d.frames k), (y.floating = true → (oth d k).any (hTyp y) = false) ∧ (oth d k).any (hSam y) = false := fun y hy => by
    obtain ⟨j, hj, rfl⟩ := mem_ge hy
    have := hypE_of (hl j hj)
    refine ⟨fun hf => ?_, this.2.2⟩
    have := (this.2.1 hf).1
    rw [List.any_append, Bool.or_eq_false_iff] at this
    exact this.1
  have hdist : ∀ x ∈ alH (ge d.frames k), ∀ y ∈ alH (ge d.frames k), y.label = x.label → y = x := fun x hx y hy e => by
    obtain ⟨i, hi, rfl⟩ := mem_ge hx
    obtain ⟨j, hj, rfl⟩ := mem_ge hy
    have key : ∀ p q, p < q → q < (alH (ge d.frames k)).length → (ge (alH (ge d.frames k)) p).label ≠ (ge (alH (ge d.frames k)) q).label := fun p q hpq hq e => by
      have := (hypE_of (hl q hq)).1
      rw [List.any_eq_false] at this
      refine this (ge (alH (ge d.frames k)) p) ?_ (by simpa [hLab] using e)
      have e2 : ge ((alH (ge d.frames k)).take q) p = ge (alH (ge d.frames k)) p := by simp [ge, List.getD_eq_getElem?_getD, hpq]
      rw [← e2]
      exact ge_mem (show p < ((alH (ge d.frames k)).take q).length by rw [List.length_take]; omega)
    rcases Nat.lt_trichotomy i j with h1 | h1 | h1
    · exact absurd e.symm (key i j h1 hj)
    · rw [h1]
    · exact absurd e (key j i h1 hi)
  have hsam : ∀ x ∈ oth d k, ∀ y ∈ alH (ge d.frames k), y.label = x.label → y = x := fun x hx y hy e => by
    have := List.any_eq_false.1 (hat y hy).2 x hx
    simp only [hSam, Bool.and_eq_true, Bool.not_eq_true', decide_eq_true_eq, not_and, Bool.not_eq_false] at this
    exact (hyEq_iff.1 (this e.symm)).symm
  refine ⟨h.fr' hk, ⟨fun x hx => ?_, fun s x hx => ?_⟩, ⟨fun x hx v hv => ?_, fun v t hv => ?_⟩, ?_⟩
  · rw [oth_succ hk] at hx
    rcases List.mem_append.1 hx with hx | hx
    · exact hmK_hit _ _ _ (hsam x hx) (.inr (h.hy.hit x hx))
    · exact hmK_hit _ _ _ (hdist x hx) (.inl hx)
  · rw [oth_succ hk]
    rcases hmK_got _ _ _ _ hx with ⟨h1, h2⟩ | h1
    · exact ⟨List.mem_append_right _ h1, h2⟩
    · have := h.hy.got _ _ h1
      exact ⟨List.mem_append_left _ this.1, this.2⟩
  · rw [oth_succ hk] at hx
    rw [ht]
    rcases List.mem_append.1 hx with hx | hx
    · cases hs : mget (tsK (alH (ge d.frames k))) v with
      | none => simpa using h.ty.hit x hx v hv
      | some t =>
        obtain ⟨y, hy, h1, h2⟩ := hT.got v t hs
        have hy1 := ofB_one.1 h1
        have := List.any_eq_false.1 ((hat y hy).1 hy1.1) x hx
        simp only [hTyp, drop1_two hy1.2.1, hy1.2.2, hv, Bool.true_and, Bool.not_eq_true', decide_eq_false_iff_not, Classical.not_not] at this
        simp [this, h2]
    · rw [hT.hit x hx v hv]; rfl
  · rw [oth_succ hk]
    rw [ht] at hv
    split at hv
    · obtain ⟨y, hy, h1⟩ := hT.got v t hv
      exact ⟨y, List.mem_append_right _ hy, h1⟩
    · obtain ⟨y, hy, h1⟩ := h.ty.got v t hv
      exact ⟨y, List.mem_append_left _ hy, h1⟩
  · rw [befL, if_neg (by omega), Nat.add_sub_cancel]
end
end Go.Proofs.YtnpgmdffjemnbaaGreatDoor
set_option maxHeartbeats 8000000
set_option maxRecDepth 100000
namespace Go.Proofs.YtnpgmdffjemnbaaGreatDoor
open Go.RowKit

theorem p_Check {J : World → Prop} (hJ : Stab J) (d : Db) (hw : ∀ f ∈ d.frames, f.wide.length * 32 ≤ 140737488351232) (hG : FormsJ J) : Fn Tryz.prog J 54 [.agg (dbC d)] (.int (chkE d)) := by
 refine fn_enter (N := 55) Tryz.func54 rfl rfl (lb rfl) fun S w0 hS hJ0 => ?_
 refine tw st_own ?_
 refine k_seq (rgo tb hJ [1000] [_, _] [0] [(_, .ptr (dbC d))] rfl rfl rfl rfl ⟨fun _ _ hk hx hl _ => r_box rfl (hl.env 0 0 _ rfl rfl) (xo_new hS _ hk hx _ (Nat.le_refl _)) (jo hJ hx), trivial⟩ (nx (k_seq (k_seq (rgo tb hJ [0, 1001, 1015] [_, _, .int (((d.frames.length : Nat) : Int)), _, _, _, _, .int (((d.consts.length : Nat) : Int)), _, _, _, _, _, .int (((d.vars.length : Nat) : Int)), _, _] [2, 7, 13] [(_, _), (_, .rd (frsC d.frames)), (_, .bool (((decide ((400 : Int) < ((d.frames.length : Nat) : Int))) || (decide ((8000 : Int) < ((d.consts.length : Nat) : Int)))) || (decide ((8000 : Int) < ((d.vars.length : Nat) : Int)))))] rfl rfl rfl rfl ⟨hLen unds_23_59 rfl rfl rfl rfl, fun _ _ _ hx hl hc => r_lenM unds_22_9 rfl (hl.dep 6 15 _ rfl rfl rfl hc) hx, fun _ _ _ hx hl hc => r_lenM unds_22_9 rfl (hl.dep 12 21 _ rfl rfl rfl hc) hx, trivial⟩ (nx (tr_fact (fun a w h => len_le h 1 rfl) fun hl1 => tc 2 rfl rfl (fun hb1 => ?_) (fun hb1 => ?_))))))))
 ·
  have e9 : chkE d = 8 := by rw [chkE, if_pos hb1]
  refine k_seq (rgo tb hJ [1000] [_] [] [(_, .int (8 : Int))] rfl rfl rfl rfl trivial (nx (tr_ret (fun a w h => leave1' (m := 0) rfl (st_disown h) rfl (congrArg AV.int (show (8 : Int) = (chkE d) from e9.symm))))))
 ·
  replace hb1 := (Bool.not_eq_true _).mpr hb1
  refine tr_skip (nx (k_seq (tr_text (sq_mapS keyS hJ rfl rfl rfl (lb rfl) fun m1 => ?_))))
  refine sq_mapS keyS hJ rfl rfl rfl (lb rfl) fun m2 => ?_
  refine sq_mapS keyS hJ rfl rfl rfl (lb rfl) fun m3 => ?_
  refine sq_map keyS (fun z' : Hy => AV.agg (hyC z')) hJ rfl rfl rfl (lb rfl) fun m4 => ?_
  refine sq_map keyS (fun z' : ByteArray => AV.str z') hJ rfl rfl rfl (lb rfl) fun m5 => ?_
  refine sq (.agg [.lit (.map (some m1)), .lit (.map (some m2)), .lit (.map (some m3)), .lit (.map (some m4)), .lit (.map (some m5))]) rfl rfl (lb rfl) (fun a _ h => r_build (us := [a.eval (Go.Operand.tmp 25), a.eval (Go.Operand.tmp 26), a.eval (Go.Operand.tmp 27), a.eval (Go.Operand.tmp 28), a.eval (Go.Operand.tmp 29)]) build_103_5 rfl (by simp) (rdL_cons (h.get 4 rfl) (rdL_cons (h.get 3 rfl) (rdL_cons (h.get 2 rfl) (rdL_cons (h.get 1 rfl) (rdL_cons (h.get 0 rfl) rdL_nil))))) rfl h.x) (sq (.ptr [.lit (.map (some m1)), .lit (.map (some m2)), .lit (.map (some m3)), .lit (.map (some m4)), .lit (.map (some m5))]) rfl rfl (lb rfl) (fun _ _ h => r_box rfl (h.get 0 rfl) (xo_new hS _ h.keep h.x _ (Nat.le_refl _)) (jo hJ h.x)) (sv tb rfl rfl rfl rfl (sq_end ?_)))
  refine kw (lz [0, 8] (env' := [(_, _), (_, _)]) rfl) ?_
  refine nx (k_seq (k_seq (tr_text (sv tb rfl rfl rfl rfl (sv (av := .agg (dbC d)) tb rfl rfl rfl rfl ?_)))))
  refine kw pm2 ?_
  refine kw pm2 ?_
  refine kw pm2 ?_
  refine kw pm3 ?_
  refine kw pm4 ?_
  refine sq_fn (O := [OB.set keyS m1 ([] : List ByteArray), OB.set keyS m2 ([] : List ByteArray)]) (R := [OB.map keyS (fun z' : ByteArray => AV.str z') m5 (([] : List (ByteArray × ByteArray))), OB.map keyS (fun z' : Hy => AV.agg (hyC z')) m4 (([] : List (ByteArray × Hy))), OB.set keyS m3 ([] : List ByteArray)]) (p_symbols hJ (M1 := m1) (M2 := m2) (M3 := m3) (M4 := m4) (M5 := m5) (d := d) ) call_75 rfl rfl rfl (lb rfl) hS hJ0 has_nil (fun a w h => (relL_cons (h.get 1 rfl) (relL_cons (h.get 0 rfl) relL_nil))) fun z6 => ?_
  refine sv tb rfl rfl rfl rfl (sq_end ?_)
  refine kw (lz [0, 4, 5] (env' := [(_, _), (_, _), (_, _)]) rfl) ?_
  refine nx (k_seq (rgo tb hJ [0, 1, 2, 1001] [_, _] [] [(_, _), (_, _), (_, _), (_, .bool (!decide (symE d = (0 : Int))))] rfl rfl rfl rfl trivial (nx (tc 3 rfl rfl (fun hb2 => ?_) (fun hb2 => ?_)))))
  ·
   have e9 : chkE d = symE d := by rw [chkE, if_neg hb1, if_pos hb2]
   refine k_seq (rgo tb hJ [1001] [_, _] [] [(_, .int (symE d))] rfl rfl rfl rfl trivial (nx (tr_ret (fun a w h => leave1' (m := 0) rfl (st_disown h) rfl (congrArg AV.int (show (symE d) = (chkE d) from e9.symm))))))
  ·
   have e2 : symE d = 0 := nd_f hb2
   have z2 := z6.2 e2
   replace hb2 := (Bool.not_eq_true _).mpr hb2
   refine tw (ob0 (congrArg (fun z' => OB.set keyS m1 (z')) (show z6.1.1 = d.consts from by rw [z2]))) ?_
   refine tw (ob1 (congrArg (fun z' => OB.set keyS m2 (z')) (show z6.1.2 = d.vars from by rw [z2]))) ?_
   refine tr_skip (nx (k_seq (rgo tb hJ [1, 2, 1000] [_] [] [(_, _), (_, _), (_, .lit (.slice none 0 0))] rfl rfl rfl rfl trivial (nx (k_seq (k_seq (rgo tb hJ [0, 2, 1001, 1002, 1003] [_, _, _, _] [2] [(_, _), (_, _), (_, .rd (frsC d.frames)), (_, .int (((d.frames.length : Nat) : Int))), (_, .int (0 : Int))] rfl rfl rfl rfl ⟨hLen unds_23_59 rfl rfl rfl rfl, trivial⟩ (nx (tr_block ?_)))))))))
   refine tw (fun h => st_nilrd h (m := 1) (s := 5) rfl) ?_
   refine tr_loop (ι := Nat × (List Hy) × (List ByteArray) × (List (ByteArray × Hy)) × (List (ByteArray × ByteArray))) (fun (ii' : Nat × (List Hy) × (List ByteArray) × (List (ByteArray × Hy)) × (List (ByteArray × ByteArray))) a w => match ii' with | (k, bf, fs, hm, tm) => ((k ≤ d.frames.length) ∧ (KInv d k fs hm tm bf) ∧ (∀ j, j < k → frE d j = 0)) ∧ St All (SO S [OB.set keyS m1 d.consts, OB.set keyS m2 d.vars, OB.map keyS (fun z' : ByteArray => AV.str z') m5 tm, OB.map keyS (fun z' : Hy => AV.agg (hyC z')) m4 hm, OB.set keyS m3 fs]) w0 55 [(3, .ptr [.lit (.map (some m1)), .lit (.map (some m2)), .lit (.map (some m3)), .lit (.map (some m4)), .lit (.map (some m5))]), (39, .rd (frsC d.frames)), (40, .int (((d.frames.length : Nat) : Int))), (41, .int (((k : Nat) : Int))), (5, .rd (hysC bf))] (XO J S w0.heap.size [OB.set keyS m1 d.consts, OB.set keyS m2 d.vars, OB.map keyS (fun z' : ByteArray => AV.str z') m5 tm, OB.map keyS (fun z' : Hy => AV.agg (hyC z')) m4 hm, OB.set keyS m3 fs]) a w) (fun (ii' : Nat × (List Hy) × (List ByteArray) × (List (ByteArray × Hy)) × (List (ByteArray × ByteArray))) => match ii' with | (k, _, _, _, _) => (d.frames.length - k : Nat)) ?_ ?_
   ·
    intro a w h
    exact ⟨(0, [], ([] : List ByteArray), ([] : List (ByteArray × Hy)), ([] : List (ByteArray × ByteArray))), (show (0 ≤ d.frames.length) ∧ (KInv d 0 ([] : List ByteArray) (([] : List (ByteArray × Hy))) (([] : List (ByteArray × ByteArray))) ([])) ∧ (∀ j, j < 0 → frE d j = 0) from ⟨Nat.zero_le _, kinv_zero d, fun j hj => by omega⟩), lz [1, 2, 3, 4, 0] rfl h⟩
   ·
    rintro ⟨k, bf, fs, hm, tm⟩
    refine tr_and fun hF => ?_
    obtain ⟨f1_1, f1_2, f1_3⟩ := hF
    refine k_seq (rgo tb hJ [0, 1, 2, 3, 4, 1000] [_] [] [(_, _), (_, _), (_, _), (_, _), (_, _), (_, .bool (decide (((k : Nat) : Int) < ((d.frames.length : Nat) : Int))))] rfl rfl rfl rfl trivial (nx (tr_fact (fun a w h => len_le h 4 rfl) fun hl2 => k_seq (tc 5 rfl rfl (fun hb3 => ?_) (fun hb3 => ?_)))))
    ·
     try simp at hb3
     refine tr_skip (nx (k_seq (tr_block (k_seq (tr_text (sq (.ptr (frC (ge d.frames k))) rfl rfl (lb rfl) (fun _ _ h => r_index (i := ((k : Nat) : Int)) elem_23_59_8 rfl (h.get 1 rfl) (h.get 3 rfl) (Int.natCast_nonneg _) (row_nat (xs := d.frames) (k := k) (by first | omega | (simp; omega) | grind [ge_mem])) rfl h.x) (sv (av := .agg (frC (ge d.frames k))) tb rfl rfl rfl rfl (sq_var (cs := frC (ge d.frames k)) var_59_8 rfl rfl rfl (lb rfl) rfl rfl rfl (by decide) (m := 0) rfl rfl (fun a w h => xo_new hS _ h.keep h.x _ (Nat.le_refl _)) (fun a w h w' hk' => xo_stab hJ _ _ hk' h.x) (sq_end ?_)))))))))
     refine kw (lz [0, 3, 4, 5, 6, 7] (env' := [(_, _), (_, _), (_, _), (_, _), (_, _), (_, _)]) rfl) ?_
     refine nx (k_seq (k_seq (tr_text (sv tb rfl rfl rfl rfl (sv (av := .agg (frC (ge d.frames k))) tb rfl rfl rfl rfl (sv tb rfl rfl rfl rfl ?_))))))
     refine kw pm2 ?_
     refine kw pm3 ?_
     refine kw pm4 ?_
     refine kw pm4 ?_
     refine kw pm4 ?_
     refine sq_fn (O := [OB.set keyS m1 d.consts, OB.set keyS m2 d.vars, OB.set keyS m3 fs, OB.map keyS (fun z' : Hy => AV.agg (hyC z')) m4 hm, OB.map keyS (fun z' : ByteArray => AV.str z') m5 tm]) (R := []) (p_frame hJ (M1 := m1) (M2 := m2) (M3 := m3) (M4 := m4) (M5 := m5) (cs := d.consts) (vs := d.vars) (fs := fs) (hm := hm) (tm := tm) (f := (ge d.frames k)) (bf := bf) (hw _ (ge_mem (by omega))) (hG)) call_76 rfl rfl rfl (lb rfl) hS hJ0 has_nil (fun a w h => (relL_cons (h.get 2 rfl) (relL_cons (h.get 1 rfl) (relL_cons (h.get 0 rfl) relL_nil)))) fun z7 => ?_
     refine sv tb rfl rfl rfl rfl (sq_end ?_)
     refine kw (lz [0, 5, 6, 7, 8, 9] (env' := [(_, _), (_, _), (_, _), (_, _), (_, _), (_, _)]) rfl) ?_
     refine nx (k_seq (rgo tb hJ [0, 1, 2, 3, 4, 5, 1001] [_, _] [] [(_, _), (_, _), (_, _), (_, _), (_, _), (_, _), (_, .bool (!decide (frmK d.consts d.vars fs hm tm (ge d.frames k) bf = (0 : Int))))] rfl rfl rfl rfl trivial (nx (tc 6 rfl rfl (fun hb4 => ?_) (fun hb4 => ?_)))))
     ·
      have e4 : frE d k ≠ 0 := by rw [← frame_same f1_2 (by omega)]; exact nd_t hb4
      have e9 : chkE d = frmK d.consts d.vars fs hm tm (ge d.frames k) bf := by rw [chkE, if_neg hb1, if_neg hb2, firstE_hit (by omega) f1_3 e4, frame_same f1_2 (by omega)]
      refine k_seq (rgo tb hJ [1001] [_, _] [] [(_, .int (frmK d.consts d.vars fs hm tm (ge d.frames k) bf))] rfl rfl rfl rfl trivial (nx (tr_ret (fun a w h => leave1' (m := 0) rfl (st_disown h) rfl (congrArg AV.int (show (frmK d.consts d.vars fs hm tm (ge d.frames k) bf) = (chkE d) from e9.symm))))))
     ·
      have e4 : frE d k = 0 := by rw [← frame_same f1_2 (by omega)]; exact nd_f hb4
      have z4 := z7.2 (nd_f hb4)
      refine tr_skip (nx (rgo tb hJ [2, 3, 4, 5, 1001, 1002] [_, _, _] [1] [(_, _), (_, _), (_, _), (_, _), (_, .rd (hysC ((essF (ge d.frames k).hyps)))), (_, .rd (hysC ((essF (ge d.frames k).hyps))))] rfl rfl rfl rfl ⟨hFo hS hJ (p_essentials hJ (f := (ge d.frames k)) (by have := (frE_size e4).1; omega)) call_77 rfl rfl rfl rfl, trivial⟩ (nx (tr_fact (fun a w h => len_le h 4 rfl) fun hl3 => rgo tb hJ [0, 1, 2, 5, 1001] [.int (((k + 1 : Nat) : Int)), _] [0] [(_, _), (_, _), (_, _), (_, _), (_, .int (((k + 1 : Nat) : Int)))] rfl rfl rfl rfl ⟨hAdd (by first | omega | (simp; omega) | grind [ge_mem]) rfl rfl rfl rfl rfl, trivial⟩ ?_))))
      refine kw pm2 ?_
      refine kw pm3 ?_
      refine kw pm4 ?_
      refine kw pm4 ?_
      refine kw pm4 ?_
      intro a w h; change ∃ j, _ ∧ _
      exact ⟨(k + 1, (essF (ge d.frames k).hyps), z7.1.1, z7.1.2.1, z7.1.2.2), ⟨⟨(show (k + 1) ≤ d.frames.length from by omega), (show KInv d (k + 1) z7.1.1 z7.1.2.1 z7.1.2.2 ((essF (ge d.frames k).hyps)) from by rw [z4.1, z4.2.1]; exact kinv_succ f1_2 (by omega) e4 z4.2.2), (show ∀ j, j < (k + 1) → frE d j = 0 from step_all f1_3 e4)⟩, lz [0, 1, 2, 4, 3] rfl h⟩, (show d.frames.length - (k + 1) < d.frames.length - k from by first | omega | (simp; omega))⟩
    ·
     try simp at hb3
     have e9 : chkE d = 0 := by rw [chkE, if_neg hb1, if_neg hb2]; exact firstE_ok fun j hj => f1_3 j (by omega)
     refine tr_exit (nx (k_seq (rgo tb hJ [1000] [_] [] [(_, .int (0 : Int))] rfl rfl rfl rfl trivial (nx (tr_ret (fun a w h => leave1' (m := 0) rfl (st_disown h) rfl (congrArg AV.int (show (0 : Int) = (chkE d) from e9.symm))))))))

end Go.Proofs.YtnpgmdffjemnbaaGreatDoor
