/-
  CONTRACTS of the program: an order by priorities.
  WHAT IS USED STANDS AHEAD AND IS LESS DEEP; users are the converse of uses; needs are closed.
  THE LAW DependOrders returns true.
-/
import Derived.Test.YtnpgmdffjemnbaaGreatDoorJU
import Derived.Test.YtnpgmdffjemnbaaGreatDoorJE
import Derived.Test.YtnpgmdffjemnbaaGreatDoorJN
import Derived.Test.YtnpgmdffjemnbaaGreatDoorJQ
import Derived.Test.YtnpgmdffjemnbaaGreatDoorJK
import Derived.Test.YtnpgmdffjemnbaaGreatDoorJO
set_option maxHeartbeats 8000000
set_option maxRecDepth 100000
namespace Go.Proofs.YtnpgmdffjemnbaaGreatDoor
open Go.RowKit

theorem p_Order2 {J : World → Prop} (hJ : Stab J) (M : Nat) (dn : List Int) (i : Int)  : FnR Tryz.prog J 60 [OB.set keyI M dn] [.int i, .ptr [.lit (.map (some M))]] (.bool (!decide (i ∈ dn))) := by
 refine fn_enterR (N := 8) Tryz.func60 rfl rfl (lb rfl) fun S w0 hS hJ0 hH => ?_
 clear hJ0
 refine k_seq (rg tb hJ [0, 1] [_] [] [(_, _), (_, _)] rfl rfl rfl rfl trivial (nx (k_seq (rg tb hJ [1004] [_, _, .bool (decide (i ∈ dn)), _, _] [2] [(_, .bool (!(decide (i ∈ dn))))] rfl rfl rfl rfl ⟨fun _ _ hk hx hl _ => r_lookupS (Kd := keyI) (xs := dn) mapT_70_3_4 zeroF_4_set i rfl (has_now hH hk (mo 0 rfl)) (hl.dep 0 4 _ rfl rfl rfl rfl) (hl.dep 1 5 _ rfl rfl rfl rfl) hx, trivial⟩ (nx (tr_ret (fun a w h => leave1' (m := 0) rfl h rfl (congrArg AV.bool (show (!(decide (i ∈ dn))) = (!decide (i ∈ dn)) from by first | rfl | grind [ge_mem])))))))))

theorem p_Order1 {J : World → Prop} (hJ : Stab J) (M : Nat) (dn : List Int) (d : Db) (us : List (List Int)) (i : Int) (h0 : 0 ≤ i) (h1 : i.toNat < us.length) : FnR Tryz.prog J 59 [OB.set keyI M dn] [.int i, .ptr [.lit (.map (some M))], .ptr [.ptr [strsC d.consts, strsC d.vars, frsC d.frames, intssC us]]] (.bool (rdy us dn i)) := by
 refine fn_enterR (N := 21) Tryz.func59 rfl rfl (lb rfl) fun S w0 hS hJ0 hH => ?_
 clear hJ0
 refine k_seq (rg tb hJ [0, 1, 2] [_] [] [(_, _), (_, _), (_, _)] rfl rfl rfl rfl trivial (nx (k_seq (rg tb hJ [1016] [_, _, .bool (decide (i ∈ dn)), _, _, _, _, _, _, _, .ptr [intsC (ge us i.toNat)], _, .fn 60 [.ptr [.lit (.map (some M))]], .bool ((ge us i.toNat).any (fun (k' : Int) => !decide (k' ∈ dn))), _, _, _] [2, 10, 12, 13] [(_, .bool ((!(decide (i ∈ dn))) && (!((ge us i.toNat).any (fun (k' : Int) => !decide (k' ∈ dn))))))] rfl rfl rfl rfl ⟨fun _ _ hk hx hl _ => r_lookupS (Kd := keyI) (xs := dn) mapT_70_3_4 zeroF_4_set i rfl (has_now hH hk (mo 0 rfl)) (hl.dep 0 5 _ rfl rfl rfl rfl) (hl.dep 1 6 _ rfl rfl rfl rfl) hx, fun _ _ _ hx hl hc => r_index (i := i) elem_44_28_1 rfl (hl.dep 8 13 _ rfl rfl rfl hc) (hl.dep 9 14 _ rfl rfl rfl hc) (by have hc' : (((!(decide (i ∈ dn))) == true)) = true := hc; (try simp at hc'); (first | omega | (simp; omega) | grind [ge_mem])) (row_int (xs := us) (i := i) (by have hc' : (((!(decide (i ∈ dn))) == true)) = true := hc; (try simp at hc'); (first | omega | (simp; omega) | grind [ge_mem])) (by have hc' : (((!(decide (i ∈ dn))) == true)) = true := hc; (try simp at hc'); (first | omega | (simp; omega) | grind [ge_mem]))) rfl hx, fun _ _ _ hx hl _ => r_makeFunc (caps := [(Go.Operand.tmp 1)]) rfl (relL_cons (hl.env 1 1 _ rfl rfl) relL_nil) hx, fun _ _ hk hx hl hc => r_fnR (p_ContainsFuncI hJ (xs := (ge us i.toNat)) (f := 60) (caps := [.ptr [.lit (.map (some M))]]) (Os := [OB.set keyI M dn]) (p := (fun (k' : Int) => !decide (k' ∈ dn))) (fun q' => p_Order2 hJ M dn q') (call_60)) call_27 rfl (nm hS hk) (hx) (has_cons (has_now hH hk (mo 0 rfl)) has_nil) (relL_cons (hl.dep 11 16 _ rfl rfl rfl hc) (relL_cons (hl.dep 12 17 _ rfl rfl rfl hc) relL_nil)) (js hJ hx), trivial⟩ (nx (tr_ret (fun a w h => leave1' (m := 0) rfl h rfl (congrArg AV.bool (show ((!(decide (i ∈ dn))) && (!((ge us i.toNat).any (fun (k' : Int) => !decide (k' ∈ dn))))) = (rdy us dn i) from rfl)))))))))

theorem p_Find1 {J : World → Prop} (hJ : Stab J) (f : Fr) (s : ByteArray)  : Fn Tryz.prog J 78 [.agg (frC f), .ptr [.lit (.string s)]] (.bool (decide (f.label = s))) := by
 refine fn_enter (N := 8) Tryz.func78 rfl rfl (lb rfl) fun S w0 hS hJ0 => ?_
 clear hJ0
 refine k_seq (rg tb hJ [1, 1000] [_, _] [0] [(_, _), (_, .ptr (frC f))] rfl rfl rfl rfl ⟨fun _ _ hk hx hl _ => r_box rfl (hl.env 0 0 _ rfl rfl) (hS _ hk.size) (js hJ hx), trivial⟩ (nx (k_seq (rg tb hJ [1004] [_, _, _, _, _] [] [(_, .bool (decide (f.label = s)))] rfl rfl rfl rfl trivial (nx (tr_ret (fun a w h => leave1' (m := 0) rfl h rfl rfl)))))))

theorem p_Find {J : World → Prop} (hJ : Stab J) (d : Db) (s : ByteArray)  : Fn Tryz.prog J 57 [.agg (dbC d), .str s] (.int (findD d s)) := by
 refine fn_enter (N := 9) Tryz.func57 rfl rfl (lb rfl) fun S w0 hS hJ0 => ?_
 clear hJ0
 refine k_seq (rg tb hJ [1000, 1001] [_, _, _] [0, 1] [(_, .ptr (dbC d)), (_, .ptr [.lit (.string s)])] rfl rfl rfl rfl ⟨fun _ _ hk hx hl _ => r_box rfl (hl.env 0 0 _ rfl rfl) (hS _ hk.size) (js hJ hx), fun _ _ hk hx hl _ => r_box1 rfl (hl.env 1 1 _ rfl rfl) (hS _ hk.size) (js hJ hx), trivial⟩ (nx (k_seq (rg tb hJ [1001, 1004] [_, _, .fn 78 [.ptr [.lit (.string s)]], .int (idxF (fun (f' : Fr) => decide (f'.label = s)) d.frames), _] [2, 3] [(_, .rd (frsC d.frames)), (_, .int (idxF (fun (f' : Fr) => decide (f'.label = s)) d.frames))] rfl rfl rfl rfl ⟨fun _ _ _ hx hl _ => r_makeFunc (caps := [(Go.Operand.tmp 3)]) rfl (relL_cons (hl.env 1 3 _ rfl rfl) relL_nil) hx, fun _ _ hk hx hl _ => r_fnR (p_IndexFuncF hJ (xs := d.frames) (f := 78) (caps := [.ptr [.lit (.string s)]]) (Os := []) (p := (fun (f' : Fr) => decide (f'.label = s))) (fun q' => (p_Find1 hJ q' s).r) (call_78)) call_69 rfl (nm hS hk) (hx) has_nil (relL_cons (hl.dep 1 6 _ rfl rfl rfl rfl) (relL_cons (hl.dep 2 7 _ rfl rfl rfl rfl) relL_nil)) (js hJ hx), trivial⟩ (nx (tr_fact (fun a w h => len_le h 0 rfl) fun hl1 => tr_ret (fun a w h => leave1' (m := 1) rfl h rfl (congrArg AV.int (show (idxF (fun (f' : Fr) => decide (f'.label = s)) d.frames) = (findD d s) from rfl)))))))))

theorem p_Order {J : World → Prop} (hJ : Stab J) (d : Db) (l : List ByteArray) (hw : ∀ f ∈ d.frames, f.wide.length * 32 ≤ 140737488351232) (hG : FormsJ J) (hl : l.length ≤ 40) : Fn Tryz.prog J 25 [.agg (dbC d), .rd (strsC l)] (.tup [.rd (intsC (if ordE d l = 0 then ordD d l else [])), .int (ordE d l)]) := by
 refine fn_enter (N := 86) Tryz.func25 rfl rfl (lb rfl) fun S w0 hS hJ0 => ?_
 refine tw st_own ?_
 refine tr_fact (fun a w h => len_le h 1 rfl) fun hl1 => k_seq (rgo tb hJ [1, 1000] [_, _, _] [0] [(_, _), (_, .ptr (dbC d))] rfl rfl rfl rfl ⟨fun _ _ hk hx hl _ => r_box rfl (hl.env 0 0 _ rfl rfl) (xo_new hS _ hk hx _ (Nat.le_refl _)) (jo hJ hx), trivial⟩ (nx (k_seq (tr_text (sv (av := .agg (dbC d)) tb rfl rfl rfl rfl (sq (.tup [gAV (rdE d ([] : List Int)) [strsC d.consts, strsC d.vars, frsC d.frames, intssC (usL d d.frames.length)], .int (rdE d ([] : List Int))]) rfl rfl (lb rfl) (fun _ _ h => r_fn (p_read hJ (d := d) (ns := ([] : List Int)) (hw) (hG)) call_43 rfl (xo_new hS _ h.keep h.x) (h.x.1) (relL_cons (h.get 0 rfl) (relL_cons (nil_view (Rel.of_lit (Go.Value.slice none 0 0))) relL_nil)) (jo hJ h.x)) (sv tb rfl rfl rfl rfl (sv tb rfl rfl rfl rfl (sv tb rfl rfl rfl rfl (sq_alloc varC_62_p hJ rfl rfl rfl (lb rfl) fun b1 => ?_))))))))))
 refine sq_store1 (b := b1) (off := 0) (cs := [.lit (.pointer none)]) (es := [gCD (rdE d ([] : List Int)) [strsC d.consts, strsC d.vars, frsC d.frames, intssC (usL d d.frames.length)]]) hJ hJ0 size_62_1 rfl rfl rfl (lb rfl) rfl (fun a w h => ⟨(h.get 0 rfl), (gCD_rd (h.get 2 rfl))⟩) (sv tb rfl rfl rfl rfl ?_)
 refine kw (fun h => st_freezeV hS h (m := 1) (s := 6) rfl) ?_
 refine sq_end ?_
 refine kw (lz [0, 1, 7, 8] (env' := [(_, _), (_, _), (_, _), (_, _)]) rfl) ?_
 refine nx (k_seq (k_seq (rgo tb hJ [0, 1, 2, 3, 1001] [_, _] [] [(_, _), (_, _), (_, _), (_, _), (_, .bool (!decide (rdE d ([] : List Int) = (0 : Int))))] rfl rfl rfl rfl trivial (nx (tc 4 rfl rfl (fun hb1 => ?_) (fun hb1 => ?_))))))
 ·
  have c1 : ¬ chkE d = 0 := by rw [← rdE_nil]; exact nd_t hb1
  have c2 : ordE d l = chkE d := if_neg c1
  refine k_seq (rgo tb hJ [1001, 1002] [_, _, _] [] [(_, .lit (.slice none 0 0)), (_, .int (rdE d ([] : List Int)))] rfl rfl rfl rfl trivial (nx ?_))
  refine tw (fun h => st_nilrd h (m := 0) (s := 4) rfl) ?_
  refine tr_ret (fun a w h => leave2' (m := 0) (k := 1) rfl (st_disown h) rfl rfl (congrArg (fun z => AV.rd (intsC z)) (show ([] : List Int) = (if ordE d l = 0 then ordD d l else []) from by first | (rw [c2, rdE_nil]; done) | exact c2.symm | exact c0.symm | (rw [c2, if_neg c1]; done) | (rw [c2]; rfl) | (rw [if_pos c0, f3_2, e8]; rfl))) (congrArg AV.int (show (rdE d ([] : List Int)) = (ordE d l) from by first | (rw [c2, rdE_nil]; done) | exact c2.symm | exact c0.symm | (rw [c2, if_neg c1]; done) | (rw [c2]; rfl) | (rw [if_pos c0, f3_2, e8]; rfl))))
 ·
  have e0 : chkE d = 0 := by rw [← rdE_nil]; exact nd_f hb1
  have c3 := chkE_size e0
  have hul := usL_len d d.frames.length
  refine tw (sa 0 rfl (show (.ptr [gCD (rdE d ([] : List Int)) [strsC d.consts, strsC d.vars, frsC d.frames, intssC (usL d d.frames.length)]] : AV) = .ptr [.ptr [strsC d.consts, strsC d.vars, frsC d.frames, intssC (usL d d.frames.length)]] from by rw [gCD_ok (by rw [rdE_nil]; exact e0)])) ?_
  refine tr_skip (nx (k_seq (rgo tb hJ [0, 2, 3, 1000] [_] [] [(_, _), (_, _), (_, _), (_, .lit (.slice none 0 0))] rfl rfl rfl rfl trivial (nx (k_seq (k_seq (rgo tb hJ [0, 1, 2, 3, 1000, 1001, 1002] [_, _, _] [1] [(_, _), (_, _), (_, _), (_, _), (_, .rd (strsC l)), (_, .int (((l.length : Nat) : Int))), (_, .int (0 : Int))] rfl rfl rfl rfl ⟨hLen unds_22_9 rfl rfl rfl rfl, trivial⟩ (nx (tr_block ?_)))))))))
  refine tw (st_add_nil 3 1 hJ) ?_
  refine tr_loop (ι := Nat × Value × (List Int)) (fun (ii' : Nat × Value × (List Int)) a w => match ii' with | (k, vo, rk) => ((k ≤ l.length) ∧ (rk = rk0 d (l.take k)) ∧ (rkE d [] l = rkE d rk (l.drop k))) ∧ St All (SO S [OB.row vo 3 1 (rk.map intC)]) w0 86 [(6, .ptr [.ptr [strsC d.consts, strsC d.vars, frsC d.frames, intssC (usL d d.frames.length)]]), (1, .rd (strsC l)), (2, .ptr (dbC d)), (24, .rd (strsC l)), (25, .int (((l.length : Nat) : Int))), (26, .int (((k : Nat) : Int))), (8, .lit vo)] (XO J S w0.heap.size [OB.row vo 3 1 (rk.map intC)]) a w) (fun (ii' : Nat × Value × (List Int)) => match ii' with | (k, _, _) => (l.length - k : Nat)) ?_ ?_
  ·
   intro a w h
   exact ⟨(0, (.slice none 0 0), ([] : List Int)), (show (0 ≤ l.length) ∧ (([] : List Int) = rk0 d (l.take 0)) ∧ (rkE d [] l = rkE d ([] : List Int) (l.drop 0)) from ⟨Nat.zero_le _, rfl, rfl⟩), lz [0, 1, 2, 4, 5, 6, 3] rfl h⟩
  ·
   rintro ⟨k, vo, rk⟩
   refine tr_and fun hF => ?_
   obtain ⟨f1_1, f1_2, f1_3⟩ := hF
   refine k_seq (rgo tb hJ [0, 1, 2, 3, 4, 5, 6, 1000] [_] [] [(_, _), (_, _), (_, _), (_, _), (_, _), (_, _), (_, _), (_, .bool (decide (((k : Nat) : Int) < ((l.length : Nat) : Int))))] rfl rfl rfl rfl trivial (nx (k_seq (tc 7 rfl rfl (fun hb2 => ?_) (fun hb2 => ?_)))))
   ·
    try simp at hb2
    refine tr_skip (nx (k_seq (tr_block (k_seq (rgo tb hJ [0, 1, 2, 3, 4, 5, 6, 1002] [.ptr [.lit (.string (ge l k))], _, _] [0] [(_, _), (_, _), (_, _), (_, _), (_, _), (_, _), (_, _), (_, .str (ge l k))] rfl rfl rfl rfl ⟨hIx elem_22_9_1 (by first | omega | (simp; omega) | grind [ge_mem]) rfl rfl rfl rfl rfl rfl, trivial⟩ (nx (k_seq (rgo tb hJ [0, 1, 2, 3, 4, 5, 6, 1003] [_, _, .int (findD d (ge l k)), _] [2] [(_, _), (_, _), (_, _), (_, _), (_, _), (_, _), (_, _), (_, .int (findD d (ge l k)))] rfl rfl rfl rfl ⟨hFo hS hJ (p_Find hJ (d := d) (s := (ge l k)) ) call_57 rfl rfl rfl rfl, trivial⟩ (nx (k_seq (tr_block (k_seq ?_))))))))))))
    refine rgo tb hJ [0, 1, 2, 3, 4, 5, 6, 7, 1002] [_, _, _] [] [(_, _), (_, _), (_, _), (_, _), (_, _), (_, _), (_, _), (_, _), (_, .bool (decide (findD d (ge l k) < (0 : Int))))] rfl rfl rfl rfl trivial (nx (tc 8 rfl rfl (fun hb3 => ?_) (fun hb3 => ?_)))
    ·
     have c2 : ordE d l = 5 := by rw [ordE, if_pos e0, f1_3, rkE_at (by omega), if_pos (of_decide_eq_true hb3)]
     refine k_seq (rgo tb hJ [1000, 1001] [_, _] [] [(_, .lit (.slice none 0 0)), (_, .int (5 : Int))] rfl rfl rfl rfl trivial (nx ?_))
     refine tw (fun h => st_nilrd h (m := 0) (s := 4) rfl) ?_
     refine tr_ret (fun a w h => leave2' (m := 0) (k := 1) rfl (st_disown h) rfl rfl (congrArg (fun z => AV.rd (intsC z)) (show ([] : List Int) = (if ordE d l = 0 then ordD d l else []) from by first | (rw [c2, rdE_nil]; done) | exact c2.symm | exact c0.symm | (rw [c2, if_neg c1]; done) | (rw [c2]; rfl) | (rw [if_pos c0, f3_2, e8]; rfl))) (congrArg AV.int (show (5 : Int) = (ordE d l) from by first | (rw [c2, rdE_nil]; done) | exact c2.symm | exact c0.symm | (rw [c2, if_neg c1]; done) | (rw [c2]; rfl) | (rw [if_pos c0, f3_2, e8]; rfl))))
    ·
     refine k_seq (rgr tb hJ [0, 1, 2, 3, 4, 5, 6, 7, 1003] [_, _, .bool (decide ((findD d (ge l k)) ∈ rk)), _] [2] [(_, _), (_, _), (_, _), (_, _), (_, _), (_, _), (_, _), (_, _), (_, .bool (decide ((findD d (ge l k)) ∈ rk)))] rfl rfl rfl rfl ⟨fun _ _ hk hx hl _ => r_fn (p_ContainsI hJ (xs := rk) (n := (findD d (ge l k))) ) call_24 rfl (nm hS hk) (hx.1) (relL_cons (own_view hS hx (mo 0 rfl) (hl.dep 0 37 _ rfl rfl rfl rfl)) (relL_cons (hl.dep 1 38 _ rfl rfl rfl rfl) relL_nil)) (jo hJ hx), trivial⟩ (nx (tc 8 rfl rfl (fun hb4 => ?_) (fun hb4 => ?_))))
     ·
      have c2 : ordE d l = 6 := by rw [ordE, if_pos e0, f1_3, rkE_at (by omega), if_neg (of_decide_eq_false hb3), if_pos (of_decide_eq_true hb4)]
      refine k_seq (rgo tb hJ [1000, 1001] [_, _] [] [(_, .lit (.slice none 0 0)), (_, .int (6 : Int))] rfl rfl rfl rfl trivial (nx ?_))
      refine tw (fun h => st_nilrd h (m := 0) (s := 4) rfl) ?_
      refine tr_ret (fun a w h => leave2' (m := 0) (k := 1) rfl (st_disown h) rfl rfl (congrArg (fun z => AV.rd (intsC z)) (show ([] : List Int) = (if ordE d l = 0 then ordD d l else []) from by first | (rw [c2, rdE_nil]; done) | exact c2.symm | exact c0.symm | (rw [c2, if_neg c1]; done) | (rw [c2]; rfl) | (rw [if_pos c0, f3_2, e8]; rfl))) (congrArg AV.int (show (6 : Int) = (ordE d l) from by first | (rw [c2, rdE_nil]; done) | exact c2.symm | exact c0.symm | (rw [c2, if_neg c1]; done) | (rw [c2]; rfl) | (rw [if_pos c0, f3_2, e8]; rfl))))
     ·
      refine tr_skip (nx (tr_text (sv tb rfl rfl rfl rfl (sv tb rfl rfl rfl rfl (sq (.rd (intsC ([findD d (ge l k)]))) rfl rfl (lb rfl) (fun _ _ h => r_build1 elem_28_3_1 zero_3 rfl (h.get 0 rfl) (xo_new hS _ h.keep h.x _ (Nat.le_refl _)) (jo hJ h.x)) (sq_appendM (f := intC) (m := 2) (s := 40) rk ([findD d (ge l k)]) (fun _ => rfl) app_28_3 hJ hJ0 rfl rfl rfl (lb rfl) rfl rfl (fun a w h => (h.get 0 rfl)) (by first | (have := rk0_len d (l.take k); rw [List.length_take] at this; rw [f1_2]; simp; omega) | (have := rkN_len d l q; rw [f2_2]; simp; omega) | (simp; omega)) (by first | (have := rk0_len d (l.take k); rw [List.length_take] at this; rw [f1_2]; simp; omega) | (have := rkN_len d l q; rw [f2_2]; simp; omega) | (simp; omega)) fun v2 => ?_))))))
      refine sv tb rfl rfl rfl rfl (sq_end ?_)
      refine kw (lz [0, 2, 5, 6, 7, 8, 9, 10] (env' := [(_, _), (_, _), (_, _), (_, _), (_, _), (_, _), (_, _), (_, _)]) rfl) ?_
      refine nx (tr_fact (fun a w h => len_le h 1 rfl) fun hl2 => rgo tb hJ [0, 2, 3, 4, 5, 6, 1001] [.int (((k + 1 : Nat) : Int)), _] [0] [(_, _), (_, _), (_, _), (_, _), (_, _), (_, _), (_, .int (((k + 1 : Nat) : Int)))] rfl rfl rfl rfl ⟨hAdd (by first | omega | (simp; omega) | grind [ge_mem]) rfl rfl rfl rfl rfl, trivial⟩ ?_)
      intro a w h; change ∃ j, _ ∧ _
      exact ⟨(k + 1, v2, rk ++ ([findD d (ge l k)])), ⟨⟨(show (k + 1) ≤ l.length from by omega), (show (rk ++ ([findD d (ge l k)])) = rk0 d (l.take (k + 1)) from by rw [rk0_take (by omega), f1_2]), (show rkE d [] l = rkE d (rk ++ ([findD d (ge l k)])) (l.drop (k + 1)) from by rw [f1_3, rkE_at (by omega), if_neg (of_decide_eq_false hb3), if_neg (of_decide_eq_false hb4)])⟩, lz [1, 2, 3, 4, 5, 6, 0] rfl h⟩, (show l.length - (k + 1) < l.length - k from by first | omega | (simp; omega))⟩
   ·
    try simp at hb2
    have e1 : rkE d [] l = 0 := by rw [f1_3, List.drop_of_length_le (by omega)]; rfl
    have e2 : rk = rk0 d l := by rw [f1_2, take_all (by omega)]
    refine tr_exit (nx (k_seq (k_seq (rgo tb hJ [0, 1, 2, 6, 1001, 1002, 1003] [_, _, _, _] [2] [(_, _), (_, _), (_, _), (_, _), (_, .rd (frsC d.frames)), (_, .int (((d.frames.length : Nat) : Int))), (_, .int (0 : Int))] rfl rfl rfl rfl ⟨hLen unds_23_59 rfl rfl rfl rfl, trivial⟩ (nx (tr_fact (fun a w h => len_le h 4 rfl) fun hl3 => tr_block (tr_loop (ι := Nat × Value × (List Int)) (fun (ii' : Nat × Value × (List Int)) a w => match ii' with | (q, vp, rk2) => ((q ≤ d.frames.length) ∧ (rk2 = rkN d l q)) ∧ St All (SO S [OB.row vp 3 1 (rk2.map intC)]) w0 86 [(6, .ptr [.ptr [strsC d.consts, strsC d.vars, frsC d.frames, intssC (usL d d.frames.length)]]), (1, .rd (strsC l)), (2, .ptr (dbC d)), (47, .int (((d.frames.length : Nat) : Int))), (48, .int (((q : Nat) : Int))), (8, .lit vp)] (XO J S w0.heap.size [OB.row vp 3 1 (rk2.map intC)]) a w) (fun (ii' : Nat × Value × (List Int)) => match ii' with | (q, _, _) => (d.frames.length - q : Nat)) ?_ ?_)))))))
    ·
     intro a w h
     exact ⟨(0, vo, rk), (show (0 ≤ d.frames.length) ∧ (rk = rkN d l 0) from ⟨Nat.zero_le _, by rw [rkN_zero, e2]⟩), lz [0, 1, 2, 5, 6, 3] rfl h⟩
    ·
     rintro ⟨q, vp, rk2⟩
     refine tr_and fun hF => ?_
     obtain ⟨f2_1, f2_2⟩ := hF
     refine k_seq (rgo tb hJ [0, 1, 2, 3, 4, 5, 1000] [_] [] [(_, _), (_, _), (_, _), (_, _), (_, _), (_, _), (_, .bool (decide (((q : Nat) : Int) < ((d.frames.length : Nat) : Int))))] rfl rfl rfl rfl trivial (nx (k_seq (tc 6 rfl rfl (fun hb5 => ?_) (fun hb5 => ?_)))))
     ·
      try simp at hb5
      refine tr_skip (nx (k_seq (tr_block (k_seq (rgo tb hJ [0, 1, 2, 3, 4, 5, 1001] [_, _] [] [(_, _), (_, _), (_, _), (_, _), (_, _), (_, _), (_, .int (((q : Nat) : Int)))] rfl rfl rfl rfl trivial (nx (k_seq (rgr tb hJ [0, 1, 2, 3, 4, 5, 6, 1006] [_, _, .int (((l.length : Nat) : Int)), .rd (intsC (rk2.take l.length)), _, .bool (decide ((((q : Nat) : Int)) ∈ (rk2.take l.length))), _] [2, 3, 5] [(_, _), (_, _), (_, _), (_, _), (_, _), (_, _), (_, _), (_, .bool (!(decide ((((q : Nat) : Int)) ∈ (rk2.take l.length)))))] rfl rfl rfl rfl ⟨hLen unds_22_9 rfl rfl rfl rfl, fun _ _ _ hx hl _ => r_sliceE (ys := rk2.take l.length) (lo := 0) (hi := l.length) List.drop_zero elem_28_3_1 (fun _ => rfl) rfl (own_view hS hx (mo 0 rfl) (hl.dep 0 51 _ rfl rfl rfl rfl)) rfl (hl.dep 2 53 _ rfl rfl rfl rfl) (by first | exact Nat.zero_le _ | (rw [f2_2]; exact rkN_ge _ _ _)) (by first | exact Nat.zero_le _ | (rw [f2_2]; exact rkN_ge _ _ _)) hx, hFr hS hJ (p_ContainsI hJ (xs := (rk2.take l.length)) (n := (((q : Nat) : Int))) ) call_24 rfl rfl rfl rfl, trivial⟩ (nx (tc 7 rfl rfl (fun hb6 => ?_) (fun hb6 => ?_)))))))))))
      ·
       have e6 : ¬ ((q : Nat) : Int) ∈ rk0 d l := by have h := nd_t hb6; rw [f2_2, rkN_take] at h; exact h
       refine tr_text (sv tb rfl rfl rfl rfl (sv tb rfl rfl rfl rfl (sq (.rd (intsC ([((q : Nat) : Int)]))) rfl rfl (lb rfl) (fun _ _ h => r_build1 elem_28_3_1 zero_3 rfl (h.get 0 rfl) (xo_new hS _ h.keep h.x _ (Nat.le_refl _)) (jo hJ h.x)) (sq_appendM (f := intC) (m := 2) (s := 58) rk2 ([((q : Nat) : Int)]) (fun _ => rfl) app_28_3 hJ hJ0 rfl rfl rfl (lb rfl) rfl rfl (fun a w h => (h.get 0 rfl)) (by first | (have := rk0_len d (l.take k); rw [List.length_take] at this; rw [f1_2]; simp; omega) | (have := rkN_len d l q; rw [f2_2]; simp; omega) | (simp; omega)) (by first | (have := rk0_len d (l.take k); rw [List.length_take] at this; rw [f1_2]; simp; omega) | (have := rkN_len d l q; rw [f2_2]; simp; omega) | (simp; omega)) fun v3 => ?_))))
       refine sv tb rfl rfl rfl rfl (sq_end ?_)
       refine kw (lz [0, 2, 5, 6, 7, 8, 9] (env' := [(_, _), (_, _), (_, _), (_, _), (_, _), (_, _), (_, _)]) rfl) ?_
       refine nx (tr_fact (fun a w h => len_le h 1 rfl) fun hl4 => rgo tb hJ [0, 2, 3, 4, 5, 1001] [.int (((q + 1 : Nat) : Int)), _] [0] [(_, _), (_, _), (_, _), (_, _), (_, _), (_, .int (((q + 1 : Nat) : Int)))] rfl rfl rfl rfl ⟨hAdd (by first | omega | (simp; omega) | grind [ge_mem]) rfl rfl rfl rfl rfl, trivial⟩ ?_)
       intro a w h; change ∃ j, _ ∧ _
       exact ⟨(q + 1, v3, rk2 ++ ([((q : Nat) : Int)])), ⟨⟨(show (q + 1) ≤ d.frames.length from by omega), (show (rk2 ++ ([((q : Nat) : Int)])) = rkN d l (q + 1) from by rw [rkN_succ, ← f2_2]; first | (rw [if_neg e6]; done) | (rw [if_pos e6]; simp; done))⟩, lz [1, 2, 3, 4, 5, 0] rfl h⟩, (show d.frames.length - (q + 1) < d.frames.length - q from by first | omega | (simp; omega))⟩
      ·
       have e6 : ((q : Nat) : Int) ∈ rk0 d l := by have h := nd_f hb6; rw [f2_2, rkN_take] at h; exact h
       refine tr_skip (nx (rgo tb hJ [0, 1, 2, 3, 5, 1001] [.int (((q + 1 : Nat) : Int)), _] [0] [(_, _), (_, _), (_, _), (_, _), (_, _), (_, .int (((q + 1 : Nat) : Int)))] rfl rfl rfl rfl ⟨hAdd (by first | omega | (simp; omega) | grind [ge_mem]) rfl rfl rfl rfl rfl, trivial⟩ ?_))
       intro a w h; change ∃ j, _ ∧ _
       exact ⟨(q + 1, vp, rk2), ⟨⟨(show (q + 1) ≤ d.frames.length from by omega), (show rk2 = rkN d l (q + 1) from by rw [rkN_succ, ← f2_2]; first | (rw [if_neg e6]; done) | (rw [if_pos e6]; simp; done))⟩, lz [0, 1, 2, 3, 5, 4] rfl h⟩, (show d.frames.length - (q + 1) < d.frames.length - q from by first | omega | (simp; omega))⟩
     ·
      try simp at hb5
      have e7 : rk2 = (rkN d l d.frames.length) := by rw [f2_2, show q = d.frames.length by omega]
      have c0 : ordE d l = 0 := by rw [ordE, if_pos e0]; exact e1
      refine tr_exit (nx (k_seq ?_))
      refine tw (fun h => st_freeze hS h (m := 5) (s := 8) rfl) ?_
      refine tw (sa 0 rfl (congrArg (fun z' => AV.rd (intsC z')) (show rk2 = (rkN d l d.frames.length) from e7))) ?_
      refine rgo tb hJ [0, 1, 3, 1000] [_] [] [(_, _), (_, _), (_, _), (_, .lit (.slice none 0 0))] rfl rfl rfl rfl trivial (nx (tr_fact (fun a w h => len_le h 0 rfl) fun hl5 => k_seq (tr_text (sq_mapS keyI hJ rfl rfl rfl (lb rfl) fun m4 => ?_))))
      refine sq_alloc varC_70_m hJ rfl rfl rfl (lb rfl) fun b5 => ?_
      refine sq_store1 (b := b5) (off := 0) (cs := [.lit (.map none)]) (es := [.lit (.map (some m4))]) hJ hJ0 size_70_1 rfl rfl rfl (lb rfl) rfl (fun a w h => ⟨(h.get 0 rfl), (h.get 1 rfl)⟩) ?_
      refine kw (fun h => st_freezeV hS h (m := 0) (s := 14) rfl) ?_
      refine sq_end ?_
      refine kw (lz [0, 2, 3, 4, 5] (env' := [(_, _), (_, _), (_, _), (_, _), (_, _)]) rfl) ?_
      refine nx (k_seq (tr_block ?_))
      refine tw (st_add_nil 3 1 hJ) ?_
      refine tr_loop (ι := Nat × Value × (List Int) × (List Int)) (fun (ii' : Nat × Value × (List Int) × (List Int)) a w => match ii' with | (t, vq, out, dn) => ((t ≤ d.frames.length) ∧ (out = ordN (usL d d.frames.length) (rkN d l d.frames.length) t) ∧ (dn = ordN (usL d d.frames.length) (rkN d l d.frames.length) t)) ∧ St All (SO S [OB.row vq 3 1 (out.map intC), OB.set keyI m4 dn]) w0 86 [(14, .ptr [.lit (.map (some m4))]), (8, .rd (intsC (rkN d l d.frames.length))), (6, .ptr [.ptr [strsC d.consts, strsC d.vars, frsC d.frames, intssC (usL d d.frames.length)]]), (2, .ptr (dbC d)), (13, .lit vq)] (XO J S w0.heap.size [OB.row vq 3 1 (out.map intC), OB.set keyI m4 dn]) a w) (fun (ii' : Nat × Value × (List Int) × (List Int)) => match ii' with | (t, _, _, _) => (d.frames.length - t : Nat)) ?_ ?_
      ·
       intro a w h
       exact ⟨(0, (.slice none 0 0), ([] : List Int), ([] : List Int)), (show (0 ≤ d.frames.length) ∧ (([] : List Int) = ordN (usL d d.frames.length) (rkN d l d.frames.length) 0) ∧ (([] : List Int) = ordN (usL d d.frames.length) (rkN d l d.frames.length) 0) from ⟨Nat.zero_le _, rfl, rfl⟩), lz [0, 1, 2, 3, 4] rfl h⟩
      ·
       rintro ⟨t, vq, out, dn⟩
       refine tr_and fun hF => ?_
       obtain ⟨f3_1, f3_2, f3_3⟩ := hF
       refine k_seq (k_seq (rgr tb hJ [0, 1, 2, 3, 4, 1005] [_, .int (((out.length : Nat) : Int)), _, _, .int (((d.frames.length : Nat) : Int)), _] [1, 4] [(_, _), (_, _), (_, _), (_, _), (_, _), (_, .bool (decide (((out.length : Nat) : Int) < ((d.frames.length : Nat) : Int))))] rfl rfl rfl rfl ⟨fun _ _ _ hx hl _ => r_lenM unds_28_3 rfl (own_view hS hx (mo 0 rfl) (hl.dep 0 64 _ rfl rfl rfl rfl)) hx, hLen unds_23_59 rfl rfl rfl rfl, trivial⟩ (nx (tc 5 rfl rfl (fun hb7 => ?_) (fun hb7 => ?_)))))
       ·
        try simp at hb7
        have e8 : out.length = t := by rw [f3_2, ordN_len]
        have e9 := nxO_spec (n := d.frames.length) (usL_down d d.frames.length) (fun j hj => rkN_mem (d := d) (l := l) hj) (out := ordN (usL d d.frames.length) (rkN d l d.frames.length) t) (by rw [ordN_len]; omega)
        refine tr_skip (nx (tr_block (k_seq (rgo tb hJ [0, 1, 2, 3, 4, 1003] [_, .fn 59 [.ptr [.lit (.map (some m4))], .ptr [.ptr [strsC d.consts, strsC d.vars, frsC d.frames, intssC (usL d d.frames.length)]]], .int (idxF (rdy (usL d d.frames.length) dn) (rkN d l d.frames.length)), _] [1, 2] [(_, _), (_, _), (_, _), (_, _), (_, _), (_, .int (idxF (rdy (usL d d.frames.length) dn) (rkN d l d.frames.length)))] rfl rfl rfl rfl ⟨fun _ _ _ hx hl _ => r_makeFunc (caps := [(Go.Operand.tmp 14), (Go.Operand.tmp 6)]) rfl (relL_cons (hl.env 0 14 _ rfl rfl) (relL_cons (hl.env 2 6 _ rfl rfl) relL_nil)) hx, fun _ _ hk hx hl _ => r_fnR (p_IndexFuncIm hJ (xs := (rkN d l d.frames.length)) (f := 59) (caps := [.ptr [.lit (.map (some m4))], .ptr [.ptr [strsC d.consts, strsC d.vars, frsC d.frames, intssC (usL d d.frames.length)]]]) (Os := [OB.set keyI m4 dn]) (p := (rdy (usL d d.frames.length) dn)) (fun q' hq' => p_Order1 hJ m4 dn d (usL d d.frames.length) q' (rkN_in e1 q' hq').1 (by have := rkN_in e1 q' hq'; rw [usL_len]; omega)) (call_59)) call_58 rfl (xo_new hS _ hk hx) (hx.1) (has_cons (own_now hx (mo 1 rfl)) has_nil) (relL_cons (hl.dep 0 70 _ rfl rfl rfl rfl) (relL_cons (hl.dep 1 71 _ rfl rfl rfl rfl) relL_nil)) (jo hJ hx), trivial⟩ (nx (k_seq ?_))))))
        refine tw pm1 ?_
        refine tw (sa 5 rfl (congrArg AV.int (show idxF (rdy (usL d d.frames.length) dn) (rkN d l d.frames.length) = ((nxO (usL d d.frames.length) (rkN d l d.frames.length) (ordN (usL d d.frames.length) (rkN d l d.frames.length) t) : Nat) : Int) from by rw [f3_3]; exact e9.1))) ?_
        refine fun a w h => region_G (γ := Unit) (fun ix' => ([.lit (.map (some m4)), .rd (intsC (rkN d l d.frames.length)), .int (((nxO (usL d d.frames.length) (rkN d l d.frames.length) (ordN (usL d d.frames.length) (rkN d l d.frames.length) t) : Nat) : Int)), .ptr [.lit (.int .i64 ((ge (rkN d l d.frames.length) (nxO (usL d d.frames.length) (rkN d l d.frames.length) (ordN (usL d d.frames.length) (rkN d l d.frames.length) t)))))], .int ((ge (rkN d l d.frames.length) (nxO (usL d d.frames.length) (rkN d l d.frames.length) (ordN (usL d d.frames.length) (rkN d l d.frames.length) t)))), .any] : List AV).getD ix' .any) (fun ix' => ([true, true, true, true, true, true] : List Bool).getD ix' true) [(14, fun (g : Unit) => .ptr [.lit (.map (some m4))]), (8, fun (g : Unit) => .rd (intsC (rkN d l d.frames.length))), (6, fun (g : Unit) => .ptr [.ptr [strsC d.consts, strsC d.vars, frsC d.frames, intssC (usL d d.frames.length)]]), (2, fun (g : Unit) => .ptr (dbC d)), (13, fun (g : Unit) => .lit vq), (15, fun (g : Unit) => .int (((nxO (usL d d.frames.length) (rkN d l d.frames.length) (ordN (usL d d.frames.length) (rkN d l d.frames.length) t) : Nat) : Int)))] (fun (j' : Nat) (g : Unit) => match j' with | 0 => [OB.set keyI m4 dn, OB.row vq 3 1 (out.map intC)] | _ => [OB.set keyI m4 (addS dn ((ge (rkN d l d.frames.length) (nxO (usL d d.frames.length) (rkN d l d.frames.length) (ordN (usL d d.frames.length) (rkN d l d.frames.length) t))))), OB.row vq 3 1 (out.map intC)]) (fun (k' : Nat) (g : Unit) => match k' with | 0 => undef | _ => undef) [5] 0 () (fun _ => rfl) h hJ mixedE rfl rfl rfl rfl rfl rfl (fun j' g hj p hp => by rcases j' with _ | _ | _ | j' <;> first | exact hp | exact List.mem_cons_of_mem _ hp | exact List.mem_cons_of_mem _ (List.mem_cons_of_mem _ hp) | (exfalso; omega)) ⟨?o25_1_0, ⟨?o25_1_1, ⟨?o25_1_2, ⟨?o25_1_3, ⟨?o25_1_4, ⟨?o25_1_5, trivial⟩⟩⟩⟩⟩⟩ ⟨?e25_1_0, trivial⟩ ⟨.old 0 14 _ rfl rfl, ⟨.old 1 8 _ rfl rfl, ⟨.old 2 6 _ rfl rfl, ⟨.old 3 2 _ rfl rfl, ⟨.old 4 13 _ rfl rfl, ⟨.old 5 15 _ rfl rfl, trivial⟩⟩⟩⟩⟩⟩ ?n25_1
        case o25_1_0 => exact fun _ O' _ => ⟨rfl, fun _ _ _ hx hl _ => r_load1 one_70 rfl (hl.env 0 14 _ rfl rfl) hx⟩
        case o25_1_1 => exact fun _ O' _ => ⟨rfl, fun _ _ _ hx hl _ => r_move rfl (hl.env 1 8 _ rfl rfl) hx⟩
        case o25_1_2 => exact fun _ O' _ => ⟨rfl, fun _ _ _ hx hl _ => r_move rfl (hl.env 5 15 _ rfl rfl) hx⟩
        case o25_1_3 => exact fun _ O' _ => ⟨rfl, fun _ _ _ hx hl _ => r_index (i := ((nxO (usL d d.frames.length) (rkN d l d.frames.length) (ordN (usL d d.frames.length) (rkN d l d.frames.length) t) : Nat) : Int)) elem_28_3_1 rfl (hl.dep 1 74 _ rfl rfl rfl rfl) (hl.dep 2 75 _ rfl rfl rfl rfl) (Int.natCast_nonneg _) (row_nat (xs := (rkN d l d.frames.length)) (k := nxO (usL d d.frames.length) (rkN d l d.frames.length) (ordN (usL d d.frames.length) (rkN d l d.frames.length) t)) (by first | omega | (simp; omega) | grind [ge_mem])) rfl hx⟩
        case o25_1_4 => exact fun _ O' _ => ⟨rfl, fun _ _ _ hx hl _ => r_load1 one_3 rfl (hl.dep 3 76 _ rfl rfl rfl rfl) hx⟩
        case o25_1_5 => exact not_in_row rfl
        case e25_1_0 => exact ⟨_, rfl, rfl, rfl, rfl, fun g _ w hk hx hl _ => does_mono (d_putS mapT_70_3_4 hJ hJ0 ((ge (rkN d l d.frames.length) (nxO (usL d d.frames.length) (rkN d l d.frames.length) (ordN (usL d d.frames.length) (rkN d l d.frames.length) t)))) (.inl rfl) hk hx (hl.dep 0 73 _ rfl rfl rfl rfl) (hl.dep 4 77 _ rfl rfl rfl rfl) (Rel.of_lit (Go.Value.bool true))) fun v w' ⟨_, hp⟩ => ⟨g, rfl, fun _ _ => rfl, fun e => (by cases e), hp⟩⟩
        clear a w h
        intro _
        change ∀ a w, St All (SO S [OB.set keyI m4 (addS dn ((ge (rkN d l d.frames.length) (nxO (usL d d.frames.length) (rkN d l d.frames.length) (ordN (usL d d.frames.length) (rkN d l d.frames.length) t))))), OB.row vq 3 1 (out.map intC)]) w0 86 [(14, .ptr [.lit (.map (some m4))]), (8, .rd (intsC (rkN d l d.frames.length))), (6, .ptr [.ptr [strsC d.consts, strsC d.vars, frsC d.frames, intssC (usL d d.frames.length)]]), (2, .ptr (dbC d)), (13, .lit vq), (15, .int (((nxO (usL d d.frames.length) (rkN d l d.frames.length) (ordN (usL d d.frames.length) (rkN d l d.frames.length) t) : Nat) : Int)))] (XO J S w0.heap.size [OB.set keyI m4 (addS dn ((ge (rkN d l d.frames.length) (nxO (usL d d.frames.length) (rkN d l d.frames.length) (ordN (usL d d.frames.length) (rkN d l d.frames.length) t))))), OB.row vq 3 1 (out.map intC)]) a w → _
        refine nx (tr_text (sv tb rfl rfl rfl rfl (sv tb rfl rfl rfl rfl (sv tb rfl rfl rfl rfl (sq (.ptr [.lit (.int .i64 ((ge (rkN d l d.frames.length) (nxO (usL d d.frames.length) (rkN d l d.frames.length) (ordN (usL d d.frames.length) (rkN d l d.frames.length) t)))))]) rfl rfl (lb rfl) (fun _ _ h => r_index (i := ((nxO (usL d d.frames.length) (rkN d l d.frames.length) (ordN (usL d d.frames.length) (rkN d l d.frames.length) t) : Nat) : Int)) elem_28_3_1 rfl (h.get 1 rfl) (h.get 0 rfl) (Int.natCast_nonneg _) (row_nat (xs := (rkN d l d.frames.length)) (k := nxO (usL d d.frames.length) (rkN d l d.frames.length) (ordN (usL d d.frames.length) (rkN d l d.frames.length) t)) (by first | omega | (simp; omega) | grind [ge_mem])) rfl h.x) (sv (av := .int ((ge (rkN d l d.frames.length) (nxO (usL d d.frames.length) (rkN d l d.frames.length) (ordN (usL d d.frames.length) (rkN d l d.frames.length) t))))) tb rfl rfl rfl rfl (sq (.rd (intsC ([(ge (rkN d l d.frames.length) (nxO (usL d d.frames.length) (rkN d l d.frames.length) (ordN (usL d d.frames.length) (rkN d l d.frames.length) t)))]))) rfl rfl (lb rfl) (fun _ _ h => r_build1 elem_28_3_1 zero_3 rfl (h.get 0 rfl) (xo_new hS _ h.keep h.x _ (Nat.le_refl _)) (jo hJ h.x)) ?_)))))))
        refine kw pm1 ?_
        refine sq_appendM (f := intC) (m := 5) (s := 78) out ([(ge (rkN d l d.frames.length) (nxO (usL d d.frames.length) (rkN d l d.frames.length) (ordN (usL d d.frames.length) (rkN d l d.frames.length) t)))]) (fun _ => rfl) app_28_3 hJ hJ0 rfl rfl rfl (lb rfl) rfl rfl (fun a w h => (h.get 0 rfl)) (by first | (have := rk0_len d (l.take k); rw [List.length_take] at this; rw [f1_2]; simp; omega) | (have := rkN_len d l q; rw [f2_2]; simp; omega) | (simp; omega)) (by first | (have := rk0_len d (l.take k); rw [List.length_take] at this; rw [f1_2]; simp; omega) | (have := rkN_len d l q; rw [f2_2]; simp; omega) | (simp; omega)) fun v6 => ?_
        refine sv tb rfl rfl rfl rfl (sq_end ?_)
        refine kw (lz [0, 2, 8, 9, 10, 11] (env' := [(_, _), (_, _), (_, _), (_, _), (_, _), (_, _)]) rfl) ?_
        intro a w h; change ∃ j, _ ∧ _
        exact ⟨(t + 1, v6, out ++ ([(ge (rkN d l d.frames.length) (nxO (usL d d.frames.length) (rkN d l d.frames.length) (ordN (usL d d.frames.length) (rkN d l d.frames.length) t)))]), addS dn ((ge (rkN d l d.frames.length) (nxO (usL d d.frames.length) (rkN d l d.frames.length) (ordN (usL d d.frames.length) (rkN d l d.frames.length) t))))), ⟨⟨(show (t + 1) ≤ d.frames.length from by omega), (show (out ++ ([(ge (rkN d l d.frames.length) (nxO (usL d d.frames.length) (rkN d l d.frames.length) (ordN (usL d d.frames.length) (rkN d l d.frames.length) t)))])) = ordN (usL d d.frames.length) (rkN d l d.frames.length) (t + 1) from by rw [f3_2]; rfl), (show (addS dn ((ge (rkN d l d.frames.length) (nxO (usL d d.frames.length) (rkN d l d.frames.length) (ordN (usL d d.frames.length) (rkN d l d.frames.length) t))))) = ordN (usL d d.frames.length) (rkN d l d.frames.length) (t + 1) from by rw [f3_3]; exact addS_next (usL_down _ _) (fun j hj => rkN_mem hj) (by rw [ordN_len]; omega))⟩, lz [2, 3, 4, 5, 0] rfl h⟩, (show d.frames.length - (t + 1) < d.frames.length - t from by first | omega | (simp; omega))⟩
       ·
        try simp at hb7
        have e8 : t = d.frames.length := by (have : out.length = t := by rw [f3_2, ordN_len]); omega
        refine tr_exit (nx (k_seq (rgo tb hJ [1001, 1002] [_, _, _] [] [(_, .lit vq), (_, .int (0 : Int))] rfl rfl rfl rfl trivial (nx ?_))))
        refine tw (fun h => st_freeze hS h (m := 0) (s := 4) rfl) ?_
        refine tr_ret (fun a w h => leave2' (m := 0) (k := 1) rfl (st_disown h) rfl rfl (congrArg (fun z => AV.rd (intsC z)) (show out = (if ordE d l = 0 then ordD d l else []) from by first | (rw [c2, rdE_nil]; done) | exact c2.symm | exact c0.symm | (rw [c2, if_neg c1]; done) | (rw [c2]; rfl) | (rw [if_pos c0, f3_2, e8]; rfl))) (congrArg AV.int (show (0 : Int) = (ordE d l) from by first | (rw [c2, rdE_nil]; done) | exact c2.symm | exact c0.symm | (rw [c2, if_neg c1]; done) | (rw [c2]; rfl) | (rw [if_pos c0, f3_2, e8]; rfl))))

end Go.Proofs.YtnpgmdffjemnbaaGreatDoor
namespace Go.Proofs.YtnpgmdffjemnbaaGreatDoor

theorem chdE_in {d : Db} {i : Int} (h0 : chkE d = 0) (h1 : 0 ≤ i) (h2 : i < d.frames.length) : chdE d i = 0 := by
  rw [chdE]
  simp [h0]
  omega
theorem depB_pre (us : List (List Int)) : ∀ vs : List (List Int), ∃ t, depB (us ++ vs) = depB us ++ t := by
  intro vs
  rw [← List.reverse_reverse vs]
  induction vs.reverse with
  | nil => exact ⟨[], by simp⟩
  | cons l m ih =>
    obtain ⟨t, ht⟩ := ih
    rw [List.reverse_cons, ← List.append_assoc, depB_snoc, ht, List.append_assoc]
    exact ⟨_, rfl⟩
theorem depB_take {us : List (List Int)} {k p : Nat} (hp : p < k) (hk : k ≤ us.length) : ge (depB us) p = ge (depB (us.take k)) p := by
  obtain ⟨t, ht⟩ := depB_pre (us.take k) (us.drop k)
  rw [List.take_append_drop] at ht
  rw [ht, ge, ge, List.getD_eq_getElem?_getD, List.getD_eq_getElem?_getD, List.getElem?_append_left (by rw [depB_len, List.length_take]; omega)]
theorem depB_at {us : List (List Int)} {k : Nat} (hk : k < us.length) : ge (depB us) k = depS (depB (us.take k)) (ge us k) := by
  have hl : (depB (us.take k)).length = k := by rw [depB_len, List.length_take]; omega
  rw [depB_take (k := k + 1) (by omega) (by omega), take_ge hk, depB_snoc, ge, List.getD_eq_getElem?_getD, List.getElem?_append_right (by omega), hl, Nat.sub_self]
  rfl
theorem depS_ge {acc : List Int} : ∀ {l : List Int} {x : Int}, x ∈ l → ge acc x.toNat + 1 ≤ depS acc l := by
  intro l
  rw [← List.reverse_reverse l]
  induction l.reverse with
  | nil => intro x hx; simp at hx
  | cons y m ih =>
    intro x hx
    rw [List.reverse_cons] at hx ⊢
    rw [depS_snoc]
    rcases List.mem_append.1 hx with hx | hx
    · have := ih hx; omega
    · obtain rfl := List.mem_singleton.1 hx; omega
theorem depB_lt {us : List (List Int)} (hd : DownL us) {i : Nat} (hi : i < us.length) {x : Int} (hx : x ∈ ge us i) : ge (depB us) x.toNat < ge (depB us) i := by
  have h := hd i x hx
  rw [depB_at hi, depB_take (k := i) (by omega) (by omega)]
  have := depS_ge (acc := depB (us.take i)) hx
  omega
theorem usersK_mem {d : Db} {x : Int} {n : Nat} {z : Int} : z ∈ usersK d x n ↔ 0 ≤ z ∧ z < n ∧ x ∈ usesD d z.toNat := by
  rw [usersK, List.mem_map]
  constructor
  · rintro ⟨q, hq, rfl⟩
    have h := List.mem_filter.1 hq
    have h1 := List.mem_range.1 h.1
    exact ⟨by omega, by omega, by simpa using h.2⟩
  · rintro ⟨h1, h2, h3⟩
    exact ⟨z.toNat, List.mem_filter.2 ⟨List.mem_range.2 (by omega), by simpa using h3⟩, by omega⟩
theorem nedL_one {us : List (List Int)} (hd : DownL us) {i : Nat} {x : Int} (h : x ∈ ge us i) : x ∈ nedL us i := by
  have := hd i x h
  exact nedL_mem.2 ⟨by omega, by omega, .one (by rw [Int.toNat_natCast]; exact h)⟩
theorem nedL_trans {us : List (List Int)} {i : Nat} {x y : Int} (h : x ∈ nedL us i) (k : y ∈ nedL us x.toNat) : y ∈ nedL us i := by
  obtain ⟨a1, a2, a3⟩ := nedL_mem.1 h
  obtain ⟨b1, b2, b3⟩ := nedL_mem.1 k
  rw [show ((x.toNat : Nat) : Int) = x by omega] at b3
  exact nedL_mem.2 ⟨b1, by omega, a3.trans b3⟩
theorem ordD_len (d : Db) (l : List ByteArray) : (ordD d l).length = d.frames.length := ordN_len _ _ _
theorem ordD_ahead {d : Db} {l : List ByteArray} (h : rkE d [] l = 0) {i : Nat} (hi : i < d.frames.length) {x : Int} (hx : x ∈ usesD d i) : idxF (isN x) (ordD d l) < idxF (isN (i : Int)) (ordD d l) :=
  ordN_ahead (usL_down d _) (fun _ hj => rkN_mem hj) (rkN_in h) hi (by rw [usL_at hi]; exact hx)
/-- A database without an error, within the statements' bounds. -/
def rightD (d : Db) : Bool := fewD d && decide (chkE d = 0)
theorem rightD_chk {d : Db} (h : rightD d = true) : chkE d = 0 := by
  simp [rightD] at h; exact h.2
end Go.Proofs.YtnpgmdffjemnbaaGreatDoor
set_option maxHeartbeats 8000000
set_option maxRecDepth 100000
namespace Go.Proofs.YtnpgmdffjemnbaaGreatDoor
open Go.RowKit

theorem w_right {J : World → Prop} (hJ : Stab J) (d : Db) (hw : ∀ f ∈ d.frames, f.wide.length * 32 ≤ 140737488351232) (hG : FormsJ J) : Fn Tryz.prog J 21 [.agg (dbC d)] (.bool (rightD d)) := by
 refine fn_enter (N := 10) Tryz.func21 rfl rfl (lb rfl) fun S w0 hS hJ0 => ?_
 refine tw st_own ?_
 refine k_seq (rgo tb hJ [1000] [_, _] [0] [(_, .ptr (dbC d))] rfl rfl rfl rfl ⟨fun _ _ hk hx hl _ => r_box rfl (hl.env 0 0 _ rfl rfl) (xo_new hS _ hk hx _ (Nat.le_refl _)) (jo hJ hx), trivial⟩ (nx (k_seq (rgo tb hJ [1007] [_, .bool (fewD d), _, _, .int (chkE d), _, _, _] [1, 4] [(_, .bool ((fewD d) && (decide (chkE d = (0 : Int)))))] rfl rfl rfl rfl ⟨hFo hS hJ (w_Few hJ (d := d) ) call_8 rfl rfl rfl rfl, fun _ _ hk hx hl hc => r_fn (p_Check hJ (d := d) (by have hc' : (((fewD d) == true)) = true := hc; (try simp at hc'); (exact hw)) (by have hc' : (((fewD d) == true)) = true := hc; (try simp at hc'); (exact hG))) call_54 rfl (xo_new hS _ hk hx) (hx.1) (relL_cons (hl.dep 3 6 _ rfl rfl rfl hc) relL_nil) (jo hJ hx), trivial⟩ (nx (tr_ret (fun a w h => leave1' (m := 0) rfl (st_disown h) rfl (congrArg AV.bool (show ((fewD d) && (decide (chkE d = (0 : Int)))) = (rightD d) from rfl)))))))))

theorem w_Orders1 {J : World → Prop} (hJ : Stab J) (n : Int) (ys : List Int)  : Fn Tryz.prog J 28 [.int n, .ptr [intsC ys]] (.bool (!decide (n ∈ ys))) := by
 refine fn_enter (N := 8) Tryz.func28 rfl rfl (lb rfl) fun S w0 hS hJ0 => ?_
 clear hJ0
 refine k_seq (rg tb hJ [0, 1] [_] [] [(_, _), (_, _)] rfl rfl rfl rfl trivial (nx (k_seq (rg tb hJ [1000, 1004] [_, _, .bool (decide (n ∈ ys)), _, _] [2] [(_, .rd (intsC ys)), (_, .bool (!(decide (n ∈ ys))))] rfl rfl rfl rfl ⟨hFn hS hJ (p_ContainsI hJ (xs := ys) (n := n) ) call_24 rfl rfl rfl rfl, trivial⟩ (nx (tr_fact (fun a w h => len_le h 0 rfl) fun hl1 => tr_ret (fun a w h => leave1' (m := 1) rfl h rfl (congrArg AV.bool (show (!(decide (n ∈ ys))) = (!decide (n ∈ ys)) from by first | rfl | grind [ge_mem])))))))))

theorem law_Orders {J : World → Prop} (hJ : Stab J) (d : Db) (l : List ByteArray) (hw : ∀ f ∈ d.frames, f.wide.length * 32 ≤ 140737488351232) (hG : FormsJ J) : Fn Tryz.prog J 5 [.agg (dbC d), .rd (strsC l)] (.bool true) := by
 refine fn_enter (N := 175) Tryz.func5 rfl rfl (lb rfl) fun S w0 hS hJ0 => ?_
 refine tw st_own ?_
 refine tr_fact (fun a w h => len_le h 1 rfl) fun hl1 => k_seq (rgo tb hJ [1, 1000] [_, _] [0] [(_, _), (_, .ptr (dbC d))] rfl rfl rfl rfl ⟨fun _ _ hk hx hl _ => r_box rfl (hl.env 0 0 _ rfl rfl) (xo_new hS _ hk hx _ (Nat.le_refl _)) (jo hJ hx), trivial⟩ (nx (k_seq (k_seq (rgo tb hJ [0, 1, 1007] [_, .bool (rightD d), _, _, _, .int (((l.length : Nat) : Int)), _, _] [1, 5] [(_, _), (_, _), (_, .bool ((!(rightD d)) || (decide ((40 : Int) < ((l.length : Nat) : Int)))))] rfl rfl rfl rfl ⟨hFo hS hJ (w_right hJ (d := d) (by exact hw) (by exact hG)) call_21 rfl rfl rfl rfl, fun _ _ _ hx hl hc => r_lenM unds_22_9 rfl (hl.dep 4 34 _ rfl rfl rfl hc) hx, trivial⟩ (nx (tc 2 rfl rfl (fun hb1 => ?_) (fun hb1 => ?_))))))))
 ·
  refine k_seq (rgo tb hJ [1001] [.bool true, _] [0] [(_, .bool true)] rfl rfl rfl rfl ⟨hFo hS hJ (w_awake hJ  (by exact hG)) call_9 rfl rfl rfl rfl, trivial⟩ (nx (tr_ret (fun a w h => leave1' (m := 0) rfl (st_disown h) rfl rfl))))
 ·
  have e1 : rightD d = true ∧ l.length ≤ 40 := by simp at hb1; exact ⟨hb1.1, by omega⟩
  have e0 := rightD_chk e1.1
  have hl40 := e1.2
  have hul := usL_len d d.frames.length
  refine tr_skip (nx (k_seq (rgo tb hJ [1, 1004, 1006, 1007] [_, _, .tup [.rd (intsC (if ordE d l = 0 then ordD d l else [])), .int (ordE d l)], _, _, _, _, _] [2] [(_, _), (_, .rd (intsC (if ordE d l = 0 then ordD d l else []))), (_, .rd (intsC (if ordE d l = 0 then ordD d l else []))), (_, .int (ordE d l))] rfl rfl rfl rfl ⟨hFo hS hJ (p_Order hJ (d := d) (l := l) (by exact hw) (by exact hG) (by first | exact hl40 | exact Nat.zero_le _)) call_25 rfl rfl rfl rfl, trivial⟩ (nx (tr_fact (fun a w h => len_le h 1 rfl) fun hl2 => k_seq (k_seq (rgo tb hJ [0, 2, 3, 1001] [_, _] [] [(_, _), (_, _), (_, _), (_, .bool (!decide (ordE d l = (0 : Int))))] rfl rfl rfl rfl trivial (nx (tc 3 rfl rfl (fun hb2 => ?_) (fun hb2 => ?_))))))))))
  ·
   obtain ⟨L, hL, e5, e6⟩ : ∃ L, rkE d [] L = 0 ∧ (if ordE d ([] : List ByteArray) = 0 then ordD d ([] : List ByteArray) else []) = ordD d L ∧ ordE d ([] : List ByteArray) = 0 := ⟨[], rfl, if_pos (by rw [ordE, if_pos e0]; rfl), by rw [ordE, if_pos e0]; rfl⟩
   refine rgo tb hJ [0, 1003, 1005, 1006] [_, .tup [.rd (intsC ((if ordE d ([] : List ByteArray) = 0 then ordD d ([] : List ByteArray) else []))), .int (ordE d ([] : List ByteArray))], _, _, _, _, _] [1] [(_, _), (_, .rd (intsC ((if ordE d ([] : List ByteArray) = 0 then ordD d ([] : List ByteArray) else [])))), (_, .rd (intsC ((if ordE d ([] : List ByteArray) = 0 then ordD d ([] : List ByteArray) else [])))), (_, .int (ordE d ([] : List ByteArray)))] rfl rfl rfl rfl ⟨fun _ _ hk hx hl _ => r_fn (p_Order hJ (d := d) (l := ([] : List ByteArray)) (by exact hw) (by exact hG) (by first | exact hl40 | exact Nat.zero_le _)) call_25 rfl (xo_new hS _ hk hx) (hx.1) (relL_cons (hl.dep 0 48 _ rfl rfl rfl rfl) (relL_cons (nil_view (Rel.of_lit (Go.Value.slice none 0 0))) relL_nil)) (jo hJ hx), trivial⟩ ?_
   refine kw (sa 2 rfl (congrArg (fun z' => AV.rd (intsC z')) (show ((if ordE d ([] : List ByteArray) = 0 then ordD d ([] : List ByteArray) else [])) = (ordD d L) from e5))) ?_
   refine kw (sa 3 rfl (congrArg AV.int (show ordE d ([] : List ByteArray) = ((0 : Nat) : Int) from e6))) ?_
   refine nx (tr_fact (fun a w h => len_le h 1 rfl) fun hl3 => tr_fact (fun a w h => len_le h 2 rfl) fun hl4 => k_seq (k_seq (rgo tb hJ [0, 2, 1009] [_, _, _, _, .int ((((ordD d L).length : Nat) : Int)), _, _, .int (((d.frames.length : Nat) : Int)), _, _] [4, 7] [(_, _), (_, _), (_, .bool ((!decide (((0 : Nat) : Int) = (0 : Int))) || (!decide ((((ordD d L).length : Nat) : Int) = ((d.frames.length : Nat) : Int)))))] rfl rfl rfl rfl ⟨fun _ _ _ hx hl hc => r_lenM unds_28_3 rfl (hl.dep 3 55 _ rfl rfl rfl hc) hx, fun _ _ _ hx hl hc => r_lenM unds_23_59 rfl (hl.dep 6 58 _ rfl rfl rfl hc) hx, trivial⟩ (nx (tc 2 rfl rfl (fun hb3 => ?_) (fun hb3 => ?_))))))
   ·
    exact False.elim (by simp [ordD_len] at hb3)
   ·
    refine tr_skip (nx (k_seq (k_seq (rgo tb hJ [0, 1, 1001, 1002, 1003] [_, _, _, _] [2] [(_, _), (_, _), (_, .rd (frsC d.frames)), (_, .int (((d.frames.length : Nat) : Int))), (_, .int (0 : Int))] rfl rfl rfl rfl ⟨hLen unds_23_59 rfl rfl rfl rfl, trivial⟩ (nx (tr_fact (fun a w h => len_le h 2 rfl) fun hl5 => tr_block (tr_loop (ι := Nat) (fun (i : Nat) a w => ((i ≤ d.frames.length)) ∧ St All (SO S []) w0 175 [(2, .ptr (dbC d)), (5, .rd (intsC (ordD d L))), (64, .int (((d.frames.length : Nat) : Int))), (65, .int (((i : Nat) : Int)))] (XO J S w0.heap.size []) a w) (fun (i : Nat) => (d.frames.length - i : Nat)) ?_ ?_)))))))
    ·
     intro a w h
     exact ⟨0, (show (0 ≤ d.frames.length) from Nat.zero_le _), lz [0, 1, 3, 4] rfl h⟩
    ·
     rintro i
     refine tr_and fun hF => ?_
     have f1_1 : i ≤ d.frames.length := hF
     refine k_seq (rgo tb hJ [0, 1, 2, 3, 1000] [_] [] [(_, _), (_, _), (_, _), (_, _), (_, .bool (decide (((i : Nat) : Int) < ((d.frames.length : Nat) : Int))))] rfl rfl rfl rfl trivial (nx (k_seq (tc 4 rfl rfl (fun hb4 => ?_) (fun hb4 => ?_)))))
     ·
      try simp at hb4
      have e20 := chdE_in (d := d) (i := ((i : Nat) : Int)) e0 (by omega) (by omega)
      refine tr_skip (nx (k_seq (tr_block (k_seq (rgo tb hJ [0, 1, 2, 3, 1001] [_, _] [] [(_, _), (_, _), (_, _), (_, _), (_, .int (((i : Nat) : Int)))] rfl rfl rfl rfl trivial (nx (k_seq (rgo tb hJ [0, 1, 2, 3, 4, 1004, 1006] [_, _, .tup [.rd (intsC ((if chdE d (((i : Nat) : Int)) = 0 then usesD d (((i : Nat) : Int)).toNat else []))), .int (chdE d (((i : Nat) : Int)))], _, _, _, _, _] [2] [(_, _), (_, _), (_, _), (_, _), (_, _), (_, .rd (intsC ((if chdE d (((i : Nat) : Int)) = 0 then usesD d (((i : Nat) : Int)).toNat else [])))), (_, .rd (intsC ((if chdE d (((i : Nat) : Int)) = 0 then usesD d (((i : Nat) : Int)).toNat else []))))] rfl rfl rfl rfl ⟨hFo hS hJ (p_Uses hJ (d := d) (i := (((i : Nat) : Int))) (by exact hw) (by exact hG)) call_10 rfl rfl rfl rfl, trivial⟩ ?_))))))))
      refine kw (sa 6 rfl (congrArg (fun z' => AV.rd (intsC z')) (show ((if chdE d (((i : Nat) : Int)) = 0 then usesD d (((i : Nat) : Int)).toNat else [])) = (usesD d i) from by rw [if_pos e20, Int.toNat_natCast]))) ?_
      refine nx (tr_fact (fun a w h => len_le h 5 rfl) fun hl6 => tr_fact (fun a w h => len_le h 6 rfl) fun hl7 => k_seq (tr_text (sv (av := .agg (dbC d)) tb rfl rfl rfl rfl (sv tb rfl rfl rfl rfl (sq_fn (O := []) (R := []) (p_Needs hJ (d := d) (i := (((i : Nat) : Int))) (by exact hw) (by exact hG)) call_15 rfl rfl rfl (lb rfl) hS hJ0 has_nil (fun a w h => (relL_cons (h.get 1 rfl) (relL_cons (h.get 0 rfl) relL_nil))) fun z1 => ?_)))))
      refine sv tb rfl rfl rfl rfl (sv tb rfl rfl rfl rfl (sv tb rfl rfl rfl rfl (sq_alloc varC_28_l hJ rfl rfl rfl (lb rfl) fun b2 => ?_)))
      refine kw pm1 ?_
      refine kw (fun h => st_freeze hS h (m := 2) (s := 78) rfl) ?_
      refine sq_store1 (b := b2) (off := 0) (cs := [intsC ([] : List Int)]) (es := [intsC (((if chdE d (((i : Nat) : Int)) = 0 then nedL (usL d d.frames.length) (((i : Nat) : Int)).toNat else [])))]) hJ hJ0 size_28_1 rfl rfl rfl (lb rfl) rfl (fun a w h => ⟨(h.get 1 rfl), (h.get 0 rfl)⟩) (sv tb rfl rfl rfl rfl ?_)
      refine kw (fun h => st_freezeV hS h (m := 2) (s := 10) rfl) ?_
      refine sq_end ?_
      refine kw (lz [0, 2, 8, 9, 10, 11, 12, 14] (env' := [(_, _), (_, _), (_, _), (_, _), (_, _), (_, _), (_, _), (_, _)]) rfl) ?_
      refine kw (sa 0 rfl (show (.ptr [intsC (((if chdE d (((i : Nat) : Int)) = 0 then nedL (usL d d.frames.length) (((i : Nat) : Int)).toNat else [])))] : AV) = .ptr [intsC ((nedL (usL d d.frames.length) i))] from by rw [if_pos e20, Int.toNat_natCast])) ?_
      refine nx (tr_fact (fun a w h => len_le h 1 rfl) fun hl8 => k_seq (rgo tb hJ [0, 2, 3, 4, 5, 6, 7, 1006] [_, _, .tup [.int ((if chdE d (((i : Nat) : Int)) = 0 then ge (depB (usL d d.frames.length)) (((i : Nat) : Int)).toNat else 0 : Int)), .int (chdE d (((i : Nat) : Int)))], _, _, _, _, _] [2] [(_, _), (_, _), (_, _), (_, _), (_, _), (_, _), (_, _), (_, .int ((if chdE d (((i : Nat) : Int)) = 0 then ge (depB (usL d d.frames.length)) (((i : Nat) : Int)).toNat else 0 : Int)))] rfl rfl rfl rfl ⟨hFo hS hJ (p_Depth hJ (d := d) (i := (((i : Nat) : Int))) (by exact hw) (by exact hG)) call_19 rfl rfl rfl rfl, trivial⟩ ?_))
      refine kw (sa 7 rfl (congrArg AV.int (show (if chdE d (((i : Nat) : Int)) = 0 then ge (depB (usL d d.frames.length)) (((i : Nat) : Int)).toNat else 0 : Int) = ge (depB (usL d d.frames.length)) i from by rw [if_pos e20, Int.toNat_natCast]))) ?_
      refine nx (k_seq (k_seq (rgo tb hJ [0, 1, 2, 3, 4, 5, 7, 1000, 1001, 1002] [_, _, _] [1] [(_, _), (_, _), (_, _), (_, _), (_, _), (_, _), (_, _), (_, .rd (intsC (usesD d i))), (_, .int ((((usesD d i).length : Nat) : Int))), (_, .int (0 : Int))] rfl rfl rfl rfl ⟨hLen unds_28_3 rfl rfl rfl rfl, trivial⟩ (nx (tr_block (tr_loop (ι := Nat) (fun (j : Nat) a w => ((j ≤ (usesD d i).length)) ∧ St All (SO S []) w0 175 [(10, .ptr [intsC ((nedL (usL d d.frames.length) i))]), (2, .ptr (dbC d)), (5, .rd (intsC (ordD d L))), (64, .int (((d.frames.length : Nat) : Int))), (65, .int (((i : Nat) : Int))), (7, .int (((i : Nat) : Int))), (12, .int (ge (depB (usL d d.frames.length)) i)), (86, .rd (intsC (usesD d i))), (87, .int ((((usesD d i).length : Nat) : Int))), (88, .int (((j : Nat) : Int)))] (XO J S w0.heap.size []) a w) (fun (j : Nat) => ((usesD d i).length - j : Nat)) ?_ ?_))))))
      ·
       intro a w h
       exact ⟨0, (show (0 ≤ (usesD d i).length) from Nat.zero_le _), lz [0, 1, 2, 3, 4, 5, 6, 7, 8, 9] rfl h⟩
      ·
       rintro j
       refine tr_and fun hF => ?_
       have f2_1 : j ≤ (usesD d i).length := hF
       refine k_seq (rgo tb hJ [0, 1, 2, 3, 4, 5, 6, 7, 8, 9, 1000] [_] [] [(_, _), (_, _), (_, _), (_, _), (_, _), (_, _), (_, _), (_, _), (_, _), (_, _), (_, .bool (decide (((j : Nat) : Int) < (((usesD d i).length : Nat) : Int))))] rfl rfl rfl rfl trivial (nx (k_seq (tc 10 rfl rfl (fun hb5 => ?_) (fun hb5 => ?_)))))
       ·
        try simp at hb5
        have e21 : (ge (usesD d i) j) ∈ usesD d i := ge_mem (by omega)
        have e22 := usL_down d d.frames.length i (ge (usesD d i) j) (by rw [usL_at (by omega)]; exact e21)
        have e23 := chdE_in (d := d) (i := (ge (usesD d i) j)) e0 (by omega) (by omega)
        have e24 : (ge (usesD d i) j) ∈ ge (usL d d.frames.length) i := by rw [usL_at (by omega)]; exact e21
        have k1 : ¬ ((i : Nat) : Int) ≤ (ge (usesD d i) j) := by omega
        have k2 : ¬ ge (depB (usL d d.frames.length)) i ≤ ge (depB (usL d d.frames.length)) (ge (usesD d i) j).toNat := by have := depB_lt (usL_down d d.frames.length) (i := i) (by rw [usL_len]; omega) e24; omega
        have k3 : ((i : Nat) : Int) ∈ usersK d (ge (usesD d i) j) d.frames.length := usersK_mem.2 ⟨by omega, by omega, by rw [Int.toNat_natCast]; exact e21⟩
        have k4 : (ge (usesD d i) j) ∈ (nedL (usL d d.frames.length) i) := nedL_one (usL_down _ _) e24
        have k5 : ¬ idxF (isN ((i : Nat) : Int)) (ordD d L) ≤ idxF (isN (ge (usesD d i) j)) (ordD d L) := by have := ordD_ahead hL (i := i) (by omega) e21; omega
        refine tr_skip (nx (k_seq (tr_block (k_seq (rgo tb hJ [0, 1, 2, 3, 4, 5, 6, 7, 8, 9, 1002] [.ptr [.lit (.int .i64 ((ge (usesD d i) j)))], _, _] [0] [(_, _), (_, _), (_, _), (_, _), (_, _), (_, _), (_, _), (_, _), (_, _), (_, _), (_, .int ((ge (usesD d i) j)))] rfl rfl rfl rfl ⟨hIx elem_28_3_1 (by first | omega | (simp; omega) | grind [ge_mem]) rfl rfl rfl rfl rfl rfl, trivial⟩ (nx (k_seq (rgo tb hJ [0, 1, 2, 3, 4, 5, 6, 7, 8, 9, 10, 1006] [_, _, .tup [.int ((if chdE d ((ge (usesD d i) j)) = 0 then ge (depB (usL d d.frames.length)) ((ge (usesD d i) j)).toNat else 0 : Int)), .int (chdE d ((ge (usesD d i) j)))], _, _, _, _, _] [2] [(_, _), (_, _), (_, _), (_, _), (_, _), (_, _), (_, _), (_, _), (_, _), (_, _), (_, _), (_, .int ((if chdE d ((ge (usesD d i) j)) = 0 then ge (depB (usL d d.frames.length)) ((ge (usesD d i) j)).toNat else 0 : Int)))] rfl rfl rfl rfl ⟨hFo hS hJ (p_Depth hJ (d := d) (i := ((ge (usesD d i) j))) (by exact hw) (by exact hG)) call_19 rfl rfl rfl rfl, trivial⟩ ?_))))))))
        refine kw (sa 11 rfl (congrArg AV.int (show (if chdE d ((ge (usesD d i) j)) = 0 then ge (depB (usL d d.frames.length)) ((ge (usesD d i) j)).toNat else 0 : Int) = ge (depB (usL d d.frames.length)) (ge (usesD d i) j).toNat from by rw [if_pos e23]))) ?_
        refine nx (k_seq (rgo tb hJ [0, 1, 2, 3, 4, 5, 6, 7, 8, 9, 10, 11, 1004, 1006] [_, _, .tup [.rd (intsC ((if chdE d ((ge (usesD d i) j)) = 0 then usersK d ((ge (usesD d i) j)) d.frames.length else []))), .int (chdE d ((ge (usesD d i) j)))], _, _, _, _, _] [2] [(_, _), (_, _), (_, _), (_, _), (_, _), (_, _), (_, _), (_, _), (_, _), (_, _), (_, _), (_, _), (_, .rd (intsC ((if chdE d ((ge (usesD d i) j)) = 0 then usersK d ((ge (usesD d i) j)) d.frames.length else [])))), (_, .rd (intsC ((if chdE d ((ge (usesD d i) j)) = 0 then usersK d ((ge (usesD d i) j)) d.frames.length else []))))] rfl rfl rfl rfl ⟨hFo hS hJ (p_Users hJ (d := d) (i := ((ge (usesD d i) j))) (by exact hw) (by exact hG)) call_12 rfl rfl rfl rfl, trivial⟩ ?_))
        refine kw (sa 13 rfl (congrArg (fun z' => AV.rd (intsC z')) (show ((if chdE d ((ge (usesD d i) j)) = 0 then usersK d ((ge (usesD d i) j)) d.frames.length else [])) = (usersK d (ge (usesD d i) j) d.frames.length) from by rw [if_pos e23]))) ?_
        refine nx (tr_fact (fun a w h => len_le h 12 rfl) fun hl9 => tr_fact (fun a w h => len_le h 13 rfl) fun hl10 => k_seq (rgo tb hJ [0, 1, 2, 3, 4, 5, 6, 7, 8, 9, 1028] [_, _, _, _, _, _, _, _, _, _, _, .bool (decide ((((i : Nat) : Int)) ∈ (usersK d (ge (usesD d i) j) d.frames.length))), _, _, _, _, _, .bool (decide (((ge (usesD d i) j)) ∈ ((nedL (usL d d.frames.length) i)))), _, _, _, _, _, .int (idxF (isN ((ge (usesD d i) j))) (ordD d L)), _, _, .int (idxF (isN (((i : Nat) : Int))) (ordD d L)), _, _] [11, 17, 23, 26] [(_, _), (_, _), (_, _), (_, _), (_, _), (_, _), (_, _), (_, _), (_, _), (_, _), (_, .bool (((((decide (((i : Nat) : Int) ≤ (ge (usesD d i) j))) || (decide (ge (depB (usL d d.frames.length)) i ≤ ge (depB (usL d d.frames.length)) (ge (usesD d i) j).toNat))) || (!(decide ((((i : Nat) : Int)) ∈ (usersK d (ge (usesD d i) j) d.frames.length))))) || (!(decide (((ge (usesD d i) j)) ∈ ((nedL (usL d d.frames.length) i)))))) || (decide (idxF (isN (((i : Nat) : Int))) (ordD d L) ≤ idxF (isN ((ge (usesD d i) j))) (ordD d L)))))] rfl rfl rfl rfl ⟨fun _ _ hk hx hl hc => r_fn (p_ContainsI hJ (xs := (usersK d (ge (usesD d i) j) d.frames.length)) (n := (((i : Nat) : Int))) ) call_24 rfl (xo_new hS _ hk hx) (hx.1) (relL_cons (hl.dep 9 113 _ rfl rfl rfl hc) (relL_cons (hl.dep 10 114 _ rfl rfl rfl hc) relL_nil)) (jo hJ hx), fun _ _ hk hx hl hc => r_fn (p_ContainsI hJ (xs := ((nedL (usL d d.frames.length) i))) (n := ((ge (usesD d i) j))) ) call_24 rfl (xo_new hS _ hk hx) (hx.1) (relL_cons (hl.dep 15 119 _ rfl rfl rfl hc) (relL_cons (hl.dep 16 120 _ rfl rfl rfl hc) relL_nil)) (jo hJ hx), fun _ _ hk hx hl hc => r_fn (p_IndexI hJ (xs := (ordD d L)) (n := ((ge (usesD d i) j))) ) call_26 rfl (xo_new hS _ hk hx) (hx.1) (relL_cons (hl.dep 21 125 _ rfl rfl rfl hc) (relL_cons (hl.dep 22 126 _ rfl rfl rfl hc) relL_nil)) (jo hJ hx), fun _ _ hk hx hl hc => r_fn (p_IndexI hJ (xs := (ordD d L)) (n := (((i : Nat) : Int))) ) call_26 rfl (xo_new hS _ hk hx) (hx.1) (relL_cons (hl.dep 24 128 _ rfl rfl rfl hc) (relL_cons (hl.dep 25 129 _ rfl rfl rfl hc) relL_nil)) (jo hJ hx), trivial⟩ (nx (tc 10 rfl rfl (fun hb6 => ?_) (fun hb6 => ?_)))))
        ·
         exact False.elim (by simp [k1, k2, k3, k4, k5] at hb6)
        ·
         refine tr_skip (nx (rgo tb hJ [0, 1, 2, 3, 4, 5, 6, 7, 8, 1001] [.int (((j + 1 : Nat) : Int)), _] [0] [(_, _), (_, _), (_, _), (_, _), (_, _), (_, _), (_, _), (_, _), (_, _), (_, .int (((j + 1 : Nat) : Int)))] rfl rfl rfl rfl ⟨hAdd (by first | omega | (simp; omega) | grind [ge_mem]) rfl rfl rfl rfl rfl, trivial⟩ ?_))
         intro a w h; change ∃ j, _ ∧ _
         exact ⟨j + 1, ⟨(show ((j + 1) ≤ (usesD d i).length) from by omega), lz [0, 1, 2, 3, 4, 5, 6, 7, 8, 9] rfl h⟩, (show (usesD d i).length - (j + 1) < (usesD d i).length - j from by first | omega | (simp; omega))⟩
       ·
        try simp at hb5
        refine tr_exit (nx (k_seq (k_seq (rgo tb hJ [0, 1, 2, 3, 4, 5, 1000, 1001, 1002] [_, _, _] [1] [(_, _), (_, _), (_, _), (_, _), (_, _), (_, _), (_, .rd (intsC ((nedL (usL d d.frames.length) i)))), (_, .int (((((nedL (usL d d.frames.length) i)).length : Nat) : Int))), (_, .int (0 : Int))] rfl rfl rfl rfl ⟨hLen unds_28_3 rfl rfl rfl rfl, trivial⟩ (nx (tr_fact (fun a w h => len_le h 6 rfl) fun hl11 => tr_block (tr_loop (ι := Nat) (fun (q : Nat) a w => ((q ≤ (nedL (usL d d.frames.length) i).length)) ∧ St All (SO S []) w0 175 [(10, .ptr [intsC ((nedL (usL d d.frames.length) i))]), (2, .ptr (dbC d)), (5, .rd (intsC (ordD d L))), (64, .int (((d.frames.length : Nat) : Int))), (65, .int (((i : Nat) : Int))), (7, .int (((i : Nat) : Int))), (134, .rd (intsC ((nedL (usL d d.frames.length) i)))), (135, .int (((((nedL (usL d d.frames.length) i)).length : Nat) : Int))), (136, .int (((q : Nat) : Int)))] (XO J S w0.heap.size []) a w) (fun (q : Nat) => ((nedL (usL d d.frames.length) i).length - q : Nat)) ?_ ?_)))))))
        ·
         intro a w h
         exact ⟨0, (show (0 ≤ (nedL (usL d d.frames.length) i).length) from Nat.zero_le _), lz [0, 1, 2, 3, 4, 5, 6, 7, 8] rfl h⟩
        ·
         rintro q
         refine tr_and fun hF => ?_
         have f3_1 : q ≤ (nedL (usL d d.frames.length) i).length := hF
         refine k_seq (rgo tb hJ [0, 1, 2, 3, 4, 5, 6, 7, 8, 1000] [_] [] [(_, _), (_, _), (_, _), (_, _), (_, _), (_, _), (_, _), (_, _), (_, _), (_, .bool (decide (((q : Nat) : Int) < ((((nedL (usL d d.frames.length) i)).length : Nat) : Int))))] rfl rfl rfl rfl trivial (nx (k_seq (tc 9 rfl rfl (fun hb7 => ?_) (fun hb7 => ?_)))))
         ·
          try simp at hb7
          have e31 : (ge (nedL (usL d d.frames.length) i) q) ∈ (nedL (usL d d.frames.length) i) := ge_mem (by omega)
          have e32 := nedL_mem.1 e31
          have e33 := chdE_in (d := d) (i := (ge (nedL (usL d d.frames.length) i) q)) e0 (by omega) (by omega)
          refine tr_skip (nx (k_seq (tr_block (k_seq (rgo tb hJ [0, 1, 2, 3, 4, 5, 6, 7, 8, 1002] [.ptr [.lit (.int .i64 ((ge ((nedL (usL d d.frames.length) i)) q)))], _, _] [0] [(_, _), (_, _), (_, _), (_, _), (_, _), (_, _), (_, _), (_, _), (_, _), (_, .int ((ge ((nedL (usL d d.frames.length) i)) q)))] rfl rfl rfl rfl ⟨hIx elem_28_3_1 (by first | omega | (simp; omega) | grind [ge_mem]) rfl rfl rfl rfl rfl rfl, trivial⟩ (nx (k_seq (tr_text (sv (av := .agg (dbC d)) tb rfl rfl rfl rfl (sv tb rfl rfl rfl rfl (sq_fn (O := []) (R := []) (p_Needs hJ (d := d) (i := ((ge ((nedL (usL d d.frames.length) i)) q))) (by exact hw) (by exact hG)) call_15 rfl rfl rfl (lb rfl) hS hJ0 has_nil (fun a w h => (relL_cons (h.get 1 rfl) (relL_cons (h.get 0 rfl) relL_nil))) fun z3 => ?_)))))))))))
          refine sv tb rfl rfl rfl rfl (sv tb rfl rfl rfl rfl (sv tb rfl rfl rfl rfl (sv tb rfl rfl rfl rfl (sv tb rfl rfl rfl rfl (sq_end ?_)))))
          refine kw (lz [1, 8, 9, 10, 11, 12, 13, 14, 15, 16] (env' := [(_, _), (_, _), (_, _), (_, _), (_, _), (_, _), (_, _), (_, _), (_, _), (_, _)]) rfl) ?_
          refine nx (k_seq (rgr tb hJ [1, 2, 3, 4, 5, 6, 7, 8, 9, 1002] [_, .fn 28 [.ptr [intsC ((nedL (usL d d.frames.length) i))]], _] [1, 2] [(_, _), (_, _), (_, _), (_, _), (_, _), (_, _), (_, _), (_, _), (_, _), (_, .bool ((((if chdE d ((ge ((nedL (usL d d.frames.length) i)) q)) = 0 then nedL (usL d d.frames.length) ((ge ((nedL (usL d d.frames.length) i)) q)).toNat else []))).any (fun (n' : Int) => !decide (n' ∈ (nedL (usL d d.frames.length) i)))))] rfl rfl rfl rfl ⟨fun _ _ _ hx hl _ => r_makeFunc (caps := [(Go.Operand.tmp 10)]) rfl (relL_cons (hl.env 1 10 _ rfl rfl) relL_nil) hx, fun _ _ hk hx hl _ => r_fnR (p_ContainsFuncI hJ (xs := (((if chdE d ((ge ((nedL (usL d d.frames.length) i)) q)) = 0 then nedL (usL d d.frames.length) ((ge ((nedL (usL d d.frames.length) i)) q)).toNat else [])))) (f := 28) (caps := [.ptr [intsC ((nedL (usL d d.frames.length) i))]]) (Os := []) (p := (fun (n' : Int) => !decide (n' ∈ (nedL (usL d d.frames.length) i)))) (fun q' => (w_Orders1 hJ q' (nedL (usL d d.frames.length) i)).r) (call_28)) call_27 rfl (nm hS hk) (hx.1) has_nil (relL_cons (own_view hS hx (mo 0 rfl) (hl.dep 0 146 _ rfl rfl rfl rfl)) (relL_cons (hl.dep 1 147 _ rfl rfl rfl rfl) relL_nil)) (jo hJ hx), trivial⟩ (nx (tc 9 rfl rfl (fun hb8 => ?_) (fun hb8 => ?_)))))
          ·
           exact False.elim (by rw [if_pos e33, List.any_eq_true] at hb8; obtain ⟨n', h1, h2⟩ := hb8; have := nedL_trans e31 h1; simp [this] at h2)
          ·
           refine tr_skip (nx (rgo tb hJ [0, 1, 2, 3, 4, 5, 6, 7, 1001] [.int (((q + 1 : Nat) : Int)), _] [0] [(_, _), (_, _), (_, _), (_, _), (_, _), (_, _), (_, _), (_, _), (_, .int (((q + 1 : Nat) : Int)))] rfl rfl rfl rfl ⟨hAdd (by first | omega | (simp; omega) | grind [ge_mem]) rfl rfl rfl rfl rfl, trivial⟩ ?_))
           refine kw st_drop ?_
           intro a w h; change ∃ j, _ ∧ _
           exact ⟨q + 1, ⟨(show ((q + 1) ≤ (nedL (usL d d.frames.length) i).length) from by omega), lz [0, 1, 2, 3, 4, 5, 6, 7, 8] rfl h⟩, (show (nedL (usL d d.frames.length) i).length - (q + 1) < (nedL (usL d d.frames.length) i).length - q from by first | omega | (simp; omega))⟩
         ·
          try simp at hb7
          refine tr_exit (nx (k_seq (rgo tb hJ [1, 2, 3, 4, 5, 1004, 1006] [_, _, .tup [.rd (intsC ((if chdE d (((i : Nat) : Int)) = 0 then usersK d (((i : Nat) : Int)) d.frames.length else []))), .int (chdE d (((i : Nat) : Int)))], _, _, _, _, _] [2] [(_, _), (_, _), (_, _), (_, _), (_, _), (_, .rd (intsC ((if chdE d (((i : Nat) : Int)) = 0 then usersK d (((i : Nat) : Int)) d.frames.length else [])))), (_, .rd (intsC ((if chdE d (((i : Nat) : Int)) = 0 then usersK d (((i : Nat) : Int)) d.frames.length else []))))] rfl rfl rfl rfl ⟨hFo hS hJ (p_Users hJ (d := d) (i := (((i : Nat) : Int))) (by exact hw) (by exact hG)) call_12 rfl rfl rfl rfl, trivial⟩ ?_)))
          refine kw (sa 6 rfl (congrArg (fun z' => AV.rd (intsC z')) (show ((if chdE d (((i : Nat) : Int)) = 0 then usersK d (((i : Nat) : Int)) d.frames.length else [])) = (usersK d ((i : Nat) : Int) d.frames.length) from by rw [if_pos e20]))) ?_
          refine nx (tr_fact (fun a w h => len_le h 5 rfl) fun hl12 => tr_fact (fun a w h => len_le h 6 rfl) fun hl13 => k_seq (rgo tb hJ [0, 1, 2, 3, 4, 1000, 1001, 1002] [_, _, _] [1] [(_, _), (_, _), (_, _), (_, _), (_, _), (_, .rd (intsC (usersK d ((i : Nat) : Int) d.frames.length))), (_, .int ((((usersK d ((i : Nat) : Int) d.frames.length).length : Nat) : Int))), (_, .int (0 : Int))] rfl rfl rfl rfl ⟨hLen unds_28_3 rfl rfl rfl rfl, trivial⟩ (nx (tr_block (tr_loop (ι := Nat) (fun (z : Nat) a w => ((z ≤ (usersK d ((i : Nat) : Int) d.frames.length).length)) ∧ St All (SO S []) w0 175 [(2, .ptr (dbC d)), (5, .rd (intsC (ordD d L))), (64, .int (((d.frames.length : Nat) : Int))), (65, .int (((i : Nat) : Int))), (7, .int (((i : Nat) : Int))), (156, .rd (intsC (usersK d ((i : Nat) : Int) d.frames.length))), (157, .int ((((usersK d ((i : Nat) : Int) d.frames.length).length : Nat) : Int))), (158, .int (((z : Nat) : Int)))] (XO J S w0.heap.size []) a w) (fun (z : Nat) => ((usersK d ((i : Nat) : Int) d.frames.length).length - z : Nat)) ?_ ?_)))))
          ·
           intro a w h
           exact ⟨0, (show (0 ≤ (usersK d ((i : Nat) : Int) d.frames.length).length) from Nat.zero_le _), lz [0, 1, 2, 3, 4, 5, 6, 7] rfl h⟩
          ·
           rintro z
           refine tr_and fun hF => ?_
           have f4_1 : z ≤ (usersK d ((i : Nat) : Int) d.frames.length).length := hF
           refine k_seq (rgo tb hJ [0, 1, 2, 3, 4, 5, 6, 7, 1000] [_] [] [(_, _), (_, _), (_, _), (_, _), (_, _), (_, _), (_, _), (_, _), (_, .bool (decide (((z : Nat) : Int) < (((usersK d ((i : Nat) : Int) d.frames.length).length : Nat) : Int))))] rfl rfl rfl rfl trivial (nx (k_seq (tc 8 rfl rfl (fun hb9 => ?_) (fun hb9 => ?_)))))
           ·
            try simp at hb9
            have e41 := usersK_mem.1 (ge_mem (xs := usersK d ((i : Nat) : Int) d.frames.length) (k := z) (by omega))
            have e43 := chdE_in (d := d) (i := (ge (usersK d ((i : Nat) : Int) d.frames.length) z)) e0 (by omega) (by omega)
            refine tr_skip (nx (k_seq (tr_block (k_seq (rgo tb hJ [0, 1, 2, 3, 4, 5, 6, 7, 1002] [.ptr [.lit (.int .i64 ((ge (usersK d ((i : Nat) : Int) d.frames.length) z)))], _, _] [0] [(_, _), (_, _), (_, _), (_, _), (_, _), (_, _), (_, _), (_, _), (_, .int ((ge (usersK d ((i : Nat) : Int) d.frames.length) z)))] rfl rfl rfl rfl ⟨hIx elem_28_3_1 (by first | omega | (simp; omega) | grind [ge_mem]) rfl rfl rfl rfl rfl rfl, trivial⟩ (nx (k_seq (rgo tb hJ [0, 1, 2, 3, 4, 5, 6, 7, 1004, 1006] [_, _, .tup [.rd (intsC ((if chdE d ((ge (usersK d ((i : Nat) : Int) d.frames.length) z)) = 0 then usesD d ((ge (usersK d ((i : Nat) : Int) d.frames.length) z)).toNat else []))), .int (chdE d ((ge (usersK d ((i : Nat) : Int) d.frames.length) z)))], _, _, _, _, _] [2] [(_, _), (_, _), (_, _), (_, _), (_, _), (_, _), (_, _), (_, _), (_, .rd (intsC ((if chdE d ((ge (usersK d ((i : Nat) : Int) d.frames.length) z)) = 0 then usesD d ((ge (usersK d ((i : Nat) : Int) d.frames.length) z)).toNat else [])))), (_, .rd (intsC ((if chdE d ((ge (usersK d ((i : Nat) : Int) d.frames.length) z)) = 0 then usesD d ((ge (usersK d ((i : Nat) : Int) d.frames.length) z)).toNat else []))))] rfl rfl rfl rfl ⟨hFo hS hJ (p_Uses hJ (d := d) (i := ((ge (usersK d ((i : Nat) : Int) d.frames.length) z))) (by exact hw) (by exact hG)) call_10 rfl rfl rfl rfl, trivial⟩ (nx (tr_fact (fun a w h => len_le h 8 rfl) fun hl14 => k_seq (rgo tb hJ [0, 1, 2, 3, 4, 5, 6, 7, 1003] [_, _, .bool (decide ((((i : Nat) : Int)) ∈ ((if chdE d ((ge (usersK d ((i : Nat) : Int) d.frames.length) z)) = 0 then usesD d ((ge (usersK d ((i : Nat) : Int) d.frames.length) z)).toNat else [])))), _] [2] [(_, _), (_, _), (_, _), (_, _), (_, _), (_, _), (_, _), (_, _), (_, .bool (!(decide ((((i : Nat) : Int)) ∈ ((if chdE d ((ge (usersK d ((i : Nat) : Int) d.frames.length) z)) = 0 then usesD d ((ge (usersK d ((i : Nat) : Int) d.frames.length) z)).toNat else []))))))] rfl rfl rfl rfl ⟨hFo hS hJ (p_ContainsI hJ (xs := ((if chdE d ((ge (usersK d ((i : Nat) : Int) d.frames.length) z)) = 0 then usesD d ((ge (usersK d ((i : Nat) : Int) d.frames.length) z)).toNat else []))) (n := (((i : Nat) : Int))) ) call_24 rfl rfl rfl rfl, trivial⟩ ?_)))))))))))
            refine nx (tc 8 rfl rfl (fun hb10 => ?_) (fun hb10 => ?_))
            ·
             exact False.elim (by rw [if_pos e43] at hb10; simp [e41.2.2] at hb10)
            ·
             refine tr_skip (nx (rgo tb hJ [0, 1, 2, 3, 4, 5, 6, 1001] [.int (((z + 1 : Nat) : Int)), _] [0] [(_, _), (_, _), (_, _), (_, _), (_, _), (_, _), (_, _), (_, .int (((z + 1 : Nat) : Int)))] rfl rfl rfl rfl ⟨hAdd (by first | omega | (simp; omega) | grind [ge_mem]) rfl rfl rfl rfl rfl, trivial⟩ ?_))
             intro a w h; change ∃ j, _ ∧ _
             exact ⟨z + 1, ⟨(show ((z + 1) ≤ (usersK d ((i : Nat) : Int) d.frames.length).length) from by omega), lz [0, 1, 2, 3, 4, 5, 6, 7] rfl h⟩, (show (usersK d ((i : Nat) : Int) d.frames.length).length - (z + 1) < (usersK d ((i : Nat) : Int) d.frames.length).length - z from by first | omega | (simp; omega))⟩
           ·
            try simp at hb9
            refine tr_exit (nx (rgo tb hJ [0, 1, 2, 1001] [.int (((i + 1 : Nat) : Int)), _] [0] [(_, _), (_, _), (_, _), (_, .int (((i + 1 : Nat) : Int)))] rfl rfl rfl rfl ⟨hAdd (by first | omega | (simp; omega) | grind [ge_mem]) rfl rfl rfl rfl rfl, trivial⟩ ?_))
            intro a w h; change ∃ j, _ ∧ _
            exact ⟨i + 1, ⟨(show ((i + 1) ≤ d.frames.length) from by omega), lz [0, 1, 2, 3] rfl h⟩, (show d.frames.length - (i + 1) < d.frames.length - i from by first | omega | (simp; omega))⟩
     ·
      try simp at hb4
      refine tr_exit (nx (k_seq (rgo tb hJ [1001] [.bool true, _] [0] [(_, .bool true)] rfl rfl rfl rfl ⟨hFo hS hJ (w_awake hJ  (by exact hG)) call_9 rfl rfl rfl rfl, trivial⟩ (nx (tr_ret (fun a w h => leave1' (m := 0) rfl (st_disown h) rfl rfl))))))
  ·
   have e4 : ordE d l = 0 := nd_f hb2
   obtain ⟨L, hL, e5⟩ : ∃ L, rkE d [] L = 0 ∧ (if ordE d l = 0 then ordD d l else []) = ordD d L := ⟨l, by have h4 := e4; rwa [ordE, if_pos e0] at h4, if_pos e4⟩
   refine tw (sa 1 rfl (show (.rd (intsC (if ordE d l = 0 then ordD d l else [])) : AV) = .rd (intsC (ordD d L)) from by rw [e5])) ?_
   refine tw (sa 2 rfl (show (.int (ordE d l) : AV) = .int (0 : Int) from by rw [e4])) ?_
   refine tr_skip (nx (tr_fact (fun a w h => len_le h 1 rfl) fun hl15 => k_seq (k_seq (rgo tb hJ [0, 1, 1009] [_, _, _, _, .int ((((ordD d L).length : Nat) : Int)), _, _, .int (((d.frames.length : Nat) : Int)), _, _] [4, 7] [(_, _), (_, _), (_, .bool ((!decide ((0 : Int) = (0 : Int))) || (!decide ((((ordD d L).length : Nat) : Int) = ((d.frames.length : Nat) : Int)))))] rfl rfl rfl rfl ⟨fun _ _ _ hx hl hc => r_lenM unds_28_3 rfl (hl.dep 3 55 _ rfl rfl rfl hc) hx, fun _ _ _ hx hl hc => r_lenM unds_23_59 rfl (hl.dep 6 58 _ rfl rfl rfl hc) hx, trivial⟩ (nx (tc 2 rfl rfl (fun hb3 => ?_) (fun hb3 => ?_)))))))
   ·
    exact False.elim (by simp [ordD_len] at hb3)
   ·
    refine tr_skip (nx (k_seq (k_seq (rgo tb hJ [0, 1, 1001, 1002, 1003] [_, _, _, _] [2] [(_, _), (_, _), (_, .rd (frsC d.frames)), (_, .int (((d.frames.length : Nat) : Int))), (_, .int (0 : Int))] rfl rfl rfl rfl ⟨hLen unds_23_59 rfl rfl rfl rfl, trivial⟩ (nx (tr_fact (fun a w h => len_le h 2 rfl) fun hl16 => tr_block (tr_loop (ι := Nat) (fun (i : Nat) a w => ((i ≤ d.frames.length)) ∧ St All (SO S []) w0 175 [(2, .ptr (dbC d)), (5, .rd (intsC (ordD d L))), (64, .int (((d.frames.length : Nat) : Int))), (65, .int (((i : Nat) : Int)))] (XO J S w0.heap.size []) a w) (fun (i : Nat) => (d.frames.length - i : Nat)) ?_ ?_)))))))
    ·
     intro a w h
     exact ⟨0, (show (0 ≤ d.frames.length) from Nat.zero_le _), lz [0, 1, 3, 4] rfl h⟩
    ·
     rintro i
     refine tr_and fun hF => ?_
     have f1_1 : i ≤ d.frames.length := hF
     refine k_seq (rgo tb hJ [0, 1, 2, 3, 1000] [_] [] [(_, _), (_, _), (_, _), (_, _), (_, .bool (decide (((i : Nat) : Int) < ((d.frames.length : Nat) : Int))))] rfl rfl rfl rfl trivial (nx (k_seq (tc 4 rfl rfl (fun hb4 => ?_) (fun hb4 => ?_)))))
     ·
      try simp at hb4
      have e20 := chdE_in (d := d) (i := ((i : Nat) : Int)) e0 (by omega) (by omega)
      refine tr_skip (nx (k_seq (tr_block (k_seq (rgo tb hJ [0, 1, 2, 3, 1001] [_, _] [] [(_, _), (_, _), (_, _), (_, _), (_, .int (((i : Nat) : Int)))] rfl rfl rfl rfl trivial (nx (k_seq (rgo tb hJ [0, 1, 2, 3, 4, 1004, 1006] [_, _, .tup [.rd (intsC ((if chdE d (((i : Nat) : Int)) = 0 then usesD d (((i : Nat) : Int)).toNat else []))), .int (chdE d (((i : Nat) : Int)))], _, _, _, _, _] [2] [(_, _), (_, _), (_, _), (_, _), (_, _), (_, .rd (intsC ((if chdE d (((i : Nat) : Int)) = 0 then usesD d (((i : Nat) : Int)).toNat else [])))), (_, .rd (intsC ((if chdE d (((i : Nat) : Int)) = 0 then usesD d (((i : Nat) : Int)).toNat else []))))] rfl rfl rfl rfl ⟨hFo hS hJ (p_Uses hJ (d := d) (i := (((i : Nat) : Int))) (by exact hw) (by exact hG)) call_10 rfl rfl rfl rfl, trivial⟩ ?_))))))))
      refine kw (sa 6 rfl (congrArg (fun z' => AV.rd (intsC z')) (show ((if chdE d (((i : Nat) : Int)) = 0 then usesD d (((i : Nat) : Int)).toNat else [])) = (usesD d i) from by rw [if_pos e20, Int.toNat_natCast]))) ?_
      refine nx (tr_fact (fun a w h => len_le h 5 rfl) fun hl17 => tr_fact (fun a w h => len_le h 6 rfl) fun hl18 => k_seq (tr_text (sv (av := .agg (dbC d)) tb rfl rfl rfl rfl (sv tb rfl rfl rfl rfl (sq_fn (O := []) (R := []) (p_Needs hJ (d := d) (i := (((i : Nat) : Int))) (by exact hw) (by exact hG)) call_15 rfl rfl rfl (lb rfl) hS hJ0 has_nil (fun a w h => (relL_cons (h.get 1 rfl) (relL_cons (h.get 0 rfl) relL_nil))) fun z4 => ?_)))))
      refine sv tb rfl rfl rfl rfl (sv tb rfl rfl rfl rfl (sv tb rfl rfl rfl rfl (sq_alloc varC_28_l hJ rfl rfl rfl (lb rfl) fun b5 => ?_)))
      refine kw pm1 ?_
      refine kw (fun h => st_freeze hS h (m := 2) (s := 78) rfl) ?_
      refine sq_store1 (b := b5) (off := 0) (cs := [intsC ([] : List Int)]) (es := [intsC (((if chdE d (((i : Nat) : Int)) = 0 then nedL (usL d d.frames.length) (((i : Nat) : Int)).toNat else [])))]) hJ hJ0 size_28_1 rfl rfl rfl (lb rfl) rfl (fun a w h => ⟨(h.get 1 rfl), (h.get 0 rfl)⟩) (sv tb rfl rfl rfl rfl ?_)
      refine kw (fun h => st_freezeV hS h (m := 2) (s := 10) rfl) ?_
      refine sq_end ?_
      refine kw (lz [0, 2, 8, 9, 10, 11, 12, 14] (env' := [(_, _), (_, _), (_, _), (_, _), (_, _), (_, _), (_, _), (_, _)]) rfl) ?_
      refine kw (sa 0 rfl (show (.ptr [intsC (((if chdE d (((i : Nat) : Int)) = 0 then nedL (usL d d.frames.length) (((i : Nat) : Int)).toNat else [])))] : AV) = .ptr [intsC ((nedL (usL d d.frames.length) i))] from by rw [if_pos e20, Int.toNat_natCast])) ?_
      refine nx (tr_fact (fun a w h => len_le h 1 rfl) fun hl19 => k_seq (rgo tb hJ [0, 2, 3, 4, 5, 6, 7, 1006] [_, _, .tup [.int ((if chdE d (((i : Nat) : Int)) = 0 then ge (depB (usL d d.frames.length)) (((i : Nat) : Int)).toNat else 0 : Int)), .int (chdE d (((i : Nat) : Int)))], _, _, _, _, _] [2] [(_, _), (_, _), (_, _), (_, _), (_, _), (_, _), (_, _), (_, .int ((if chdE d (((i : Nat) : Int)) = 0 then ge (depB (usL d d.frames.length)) (((i : Nat) : Int)).toNat else 0 : Int)))] rfl rfl rfl rfl ⟨hFo hS hJ (p_Depth hJ (d := d) (i := (((i : Nat) : Int))) (by exact hw) (by exact hG)) call_19 rfl rfl rfl rfl, trivial⟩ ?_))
      refine kw (sa 7 rfl (congrArg AV.int (show (if chdE d (((i : Nat) : Int)) = 0 then ge (depB (usL d d.frames.length)) (((i : Nat) : Int)).toNat else 0 : Int) = ge (depB (usL d d.frames.length)) i from by rw [if_pos e20, Int.toNat_natCast]))) ?_
      refine nx (k_seq (k_seq (rgo tb hJ [0, 1, 2, 3, 4, 5, 7, 1000, 1001, 1002] [_, _, _] [1] [(_, _), (_, _), (_, _), (_, _), (_, _), (_, _), (_, _), (_, .rd (intsC (usesD d i))), (_, .int ((((usesD d i).length : Nat) : Int))), (_, .int (0 : Int))] rfl rfl rfl rfl ⟨hLen unds_28_3 rfl rfl rfl rfl, trivial⟩ (nx (tr_block (tr_loop (ι := Nat) (fun (j : Nat) a w => ((j ≤ (usesD d i).length)) ∧ St All (SO S []) w0 175 [(10, .ptr [intsC ((nedL (usL d d.frames.length) i))]), (2, .ptr (dbC d)), (5, .rd (intsC (ordD d L))), (64, .int (((d.frames.length : Nat) : Int))), (65, .int (((i : Nat) : Int))), (7, .int (((i : Nat) : Int))), (12, .int (ge (depB (usL d d.frames.length)) i)), (86, .rd (intsC (usesD d i))), (87, .int ((((usesD d i).length : Nat) : Int))), (88, .int (((j : Nat) : Int)))] (XO J S w0.heap.size []) a w) (fun (j : Nat) => ((usesD d i).length - j : Nat)) ?_ ?_))))))
      ·
       intro a w h
       exact ⟨0, (show (0 ≤ (usesD d i).length) from Nat.zero_le _), lz [0, 1, 2, 3, 4, 5, 6, 7, 8, 9] rfl h⟩
      ·
       rintro j
       refine tr_and fun hF => ?_
       have f2_1 : j ≤ (usesD d i).length := hF
       refine k_seq (rgo tb hJ [0, 1, 2, 3, 4, 5, 6, 7, 8, 9, 1000] [_] [] [(_, _), (_, _), (_, _), (_, _), (_, _), (_, _), (_, _), (_, _), (_, _), (_, _), (_, .bool (decide (((j : Nat) : Int) < (((usesD d i).length : Nat) : Int))))] rfl rfl rfl rfl trivial (nx (k_seq (tc 10 rfl rfl (fun hb5 => ?_) (fun hb5 => ?_)))))
       ·
        try simp at hb5
        have e21 : (ge (usesD d i) j) ∈ usesD d i := ge_mem (by omega)
        have e22 := usL_down d d.frames.length i (ge (usesD d i) j) (by rw [usL_at (by omega)]; exact e21)
        have e23 := chdE_in (d := d) (i := (ge (usesD d i) j)) e0 (by omega) (by omega)
        have e24 : (ge (usesD d i) j) ∈ ge (usL d d.frames.length) i := by rw [usL_at (by omega)]; exact e21
        have k1 : ¬ ((i : Nat) : Int) ≤ (ge (usesD d i) j) := by omega
        have k2 : ¬ ge (depB (usL d d.frames.length)) i ≤ ge (depB (usL d d.frames.length)) (ge (usesD d i) j).toNat := by have := depB_lt (usL_down d d.frames.length) (i := i) (by rw [usL_len]; omega) e24; omega
        have k3 : ((i : Nat) : Int) ∈ usersK d (ge (usesD d i) j) d.frames.length := usersK_mem.2 ⟨by omega, by omega, by rw [Int.toNat_natCast]; exact e21⟩
        have k4 : (ge (usesD d i) j) ∈ (nedL (usL d d.frames.length) i) := nedL_one (usL_down _ _) e24
        have k5 : ¬ idxF (isN ((i : Nat) : Int)) (ordD d L) ≤ idxF (isN (ge (usesD d i) j)) (ordD d L) := by have := ordD_ahead hL (i := i) (by omega) e21; omega
        refine tr_skip (nx (k_seq (tr_block (k_seq (rgo tb hJ [0, 1, 2, 3, 4, 5, 6, 7, 8, 9, 1002] [.ptr [.lit (.int .i64 ((ge (usesD d i) j)))], _, _] [0] [(_, _), (_, _), (_, _), (_, _), (_, _), (_, _), (_, _), (_, _), (_, _), (_, _), (_, .int ((ge (usesD d i) j)))] rfl rfl rfl rfl ⟨hIx elem_28_3_1 (by first | omega | (simp; omega) | grind [ge_mem]) rfl rfl rfl rfl rfl rfl, trivial⟩ (nx (k_seq (rgo tb hJ [0, 1, 2, 3, 4, 5, 6, 7, 8, 9, 10, 1006] [_, _, .tup [.int ((if chdE d ((ge (usesD d i) j)) = 0 then ge (depB (usL d d.frames.length)) ((ge (usesD d i) j)).toNat else 0 : Int)), .int (chdE d ((ge (usesD d i) j)))], _, _, _, _, _] [2] [(_, _), (_, _), (_, _), (_, _), (_, _), (_, _), (_, _), (_, _), (_, _), (_, _), (_, _), (_, .int ((if chdE d ((ge (usesD d i) j)) = 0 then ge (depB (usL d d.frames.length)) ((ge (usesD d i) j)).toNat else 0 : Int)))] rfl rfl rfl rfl ⟨hFo hS hJ (p_Depth hJ (d := d) (i := ((ge (usesD d i) j))) (by exact hw) (by exact hG)) call_19 rfl rfl rfl rfl, trivial⟩ ?_))))))))
        refine kw (sa 11 rfl (congrArg AV.int (show (if chdE d ((ge (usesD d i) j)) = 0 then ge (depB (usL d d.frames.length)) ((ge (usesD d i) j)).toNat else 0 : Int) = ge (depB (usL d d.frames.length)) (ge (usesD d i) j).toNat from by rw [if_pos e23]))) ?_
        refine nx (k_seq (rgo tb hJ [0, 1, 2, 3, 4, 5, 6, 7, 8, 9, 10, 11, 1004, 1006] [_, _, .tup [.rd (intsC ((if chdE d ((ge (usesD d i) j)) = 0 then usersK d ((ge (usesD d i) j)) d.frames.length else []))), .int (chdE d ((ge (usesD d i) j)))], _, _, _, _, _] [2] [(_, _), (_, _), (_, _), (_, _), (_, _), (_, _), (_, _), (_, _), (_, _), (_, _), (_, _), (_, _), (_, .rd (intsC ((if chdE d ((ge (usesD d i) j)) = 0 then usersK d ((ge (usesD d i) j)) d.frames.length else [])))), (_, .rd (intsC ((if chdE d ((ge (usesD d i) j)) = 0 then usersK d ((ge (usesD d i) j)) d.frames.length else []))))] rfl rfl rfl rfl ⟨hFo hS hJ (p_Users hJ (d := d) (i := ((ge (usesD d i) j))) (by exact hw) (by exact hG)) call_12 rfl rfl rfl rfl, trivial⟩ ?_))
        refine kw (sa 13 rfl (congrArg (fun z' => AV.rd (intsC z')) (show ((if chdE d ((ge (usesD d i) j)) = 0 then usersK d ((ge (usesD d i) j)) d.frames.length else [])) = (usersK d (ge (usesD d i) j) d.frames.length) from by rw [if_pos e23]))) ?_
        refine nx (tr_fact (fun a w h => len_le h 12 rfl) fun hl20 => tr_fact (fun a w h => len_le h 13 rfl) fun hl21 => k_seq (rgo tb hJ [0, 1, 2, 3, 4, 5, 6, 7, 8, 9, 1028] [_, _, _, _, _, _, _, _, _, _, _, .bool (decide ((((i : Nat) : Int)) ∈ (usersK d (ge (usesD d i) j) d.frames.length))), _, _, _, _, _, .bool (decide (((ge (usesD d i) j)) ∈ ((nedL (usL d d.frames.length) i)))), _, _, _, _, _, .int (idxF (isN ((ge (usesD d i) j))) (ordD d L)), _, _, .int (idxF (isN (((i : Nat) : Int))) (ordD d L)), _, _] [11, 17, 23, 26] [(_, _), (_, _), (_, _), (_, _), (_, _), (_, _), (_, _), (_, _), (_, _), (_, _), (_, .bool (((((decide (((i : Nat) : Int) ≤ (ge (usesD d i) j))) || (decide (ge (depB (usL d d.frames.length)) i ≤ ge (depB (usL d d.frames.length)) (ge (usesD d i) j).toNat))) || (!(decide ((((i : Nat) : Int)) ∈ (usersK d (ge (usesD d i) j) d.frames.length))))) || (!(decide (((ge (usesD d i) j)) ∈ ((nedL (usL d d.frames.length) i)))))) || (decide (idxF (isN (((i : Nat) : Int))) (ordD d L) ≤ idxF (isN ((ge (usesD d i) j))) (ordD d L)))))] rfl rfl rfl rfl ⟨fun _ _ hk hx hl hc => r_fn (p_ContainsI hJ (xs := (usersK d (ge (usesD d i) j) d.frames.length)) (n := (((i : Nat) : Int))) ) call_24 rfl (xo_new hS _ hk hx) (hx.1) (relL_cons (hl.dep 9 113 _ rfl rfl rfl hc) (relL_cons (hl.dep 10 114 _ rfl rfl rfl hc) relL_nil)) (jo hJ hx), fun _ _ hk hx hl hc => r_fn (p_ContainsI hJ (xs := ((nedL (usL d d.frames.length) i))) (n := ((ge (usesD d i) j))) ) call_24 rfl (xo_new hS _ hk hx) (hx.1) (relL_cons (hl.dep 15 119 _ rfl rfl rfl hc) (relL_cons (hl.dep 16 120 _ rfl rfl rfl hc) relL_nil)) (jo hJ hx), fun _ _ hk hx hl hc => r_fn (p_IndexI hJ (xs := (ordD d L)) (n := ((ge (usesD d i) j))) ) call_26 rfl (xo_new hS _ hk hx) (hx.1) (relL_cons (hl.dep 21 125 _ rfl rfl rfl hc) (relL_cons (hl.dep 22 126 _ rfl rfl rfl hc) relL_nil)) (jo hJ hx), fun _ _ hk hx hl hc => r_fn (p_IndexI hJ (xs := (ordD d L)) (n := (((i : Nat) : Int))) ) call_26 rfl (xo_new hS _ hk hx) (hx.1) (relL_cons (hl.dep 24 128 _ rfl rfl rfl hc) (relL_cons (hl.dep 25 129 _ rfl rfl rfl hc) relL_nil)) (jo hJ hx), trivial⟩ (nx (tc 10 rfl rfl (fun hb6 => ?_) (fun hb6 => ?_)))))
        ·
         exact False.elim (by simp [k1, k2, k3, k4, k5] at hb6)
        ·
         refine tr_skip (nx (rgo tb hJ [0, 1, 2, 3, 4, 5, 6, 7, 8, 1001] [.int (((j + 1 : Nat) : Int)), _] [0] [(_, _), (_, _), (_, _), (_, _), (_, _), (_, _), (_, _), (_, _), (_, _), (_, .int (((j + 1 : Nat) : Int)))] rfl rfl rfl rfl ⟨hAdd (by first | omega | (simp; omega) | grind [ge_mem]) rfl rfl rfl rfl rfl, trivial⟩ ?_))
         intro a w h; change ∃ j, _ ∧ _
         exact ⟨j + 1, ⟨(show ((j + 1) ≤ (usesD d i).length) from by omega), lz [0, 1, 2, 3, 4, 5, 6, 7, 8, 9] rfl h⟩, (show (usesD d i).length - (j + 1) < (usesD d i).length - j from by first | omega | (simp; omega))⟩
       ·
        try simp at hb5
        refine tr_exit (nx (k_seq (k_seq (rgo tb hJ [0, 1, 2, 3, 4, 5, 1000, 1001, 1002] [_, _, _] [1] [(_, _), (_, _), (_, _), (_, _), (_, _), (_, _), (_, .rd (intsC ((nedL (usL d d.frames.length) i)))), (_, .int (((((nedL (usL d d.frames.length) i)).length : Nat) : Int))), (_, .int (0 : Int))] rfl rfl rfl rfl ⟨hLen unds_28_3 rfl rfl rfl rfl, trivial⟩ (nx (tr_fact (fun a w h => len_le h 6 rfl) fun hl22 => tr_block (tr_loop (ι := Nat) (fun (q : Nat) a w => ((q ≤ (nedL (usL d d.frames.length) i).length)) ∧ St All (SO S []) w0 175 [(10, .ptr [intsC ((nedL (usL d d.frames.length) i))]), (2, .ptr (dbC d)), (5, .rd (intsC (ordD d L))), (64, .int (((d.frames.length : Nat) : Int))), (65, .int (((i : Nat) : Int))), (7, .int (((i : Nat) : Int))), (134, .rd (intsC ((nedL (usL d d.frames.length) i)))), (135, .int (((((nedL (usL d d.frames.length) i)).length : Nat) : Int))), (136, .int (((q : Nat) : Int)))] (XO J S w0.heap.size []) a w) (fun (q : Nat) => ((nedL (usL d d.frames.length) i).length - q : Nat)) ?_ ?_)))))))
        ·
         intro a w h
         exact ⟨0, (show (0 ≤ (nedL (usL d d.frames.length) i).length) from Nat.zero_le _), lz [0, 1, 2, 3, 4, 5, 6, 7, 8] rfl h⟩
        ·
         rintro q
         refine tr_and fun hF => ?_
         have f3_1 : q ≤ (nedL (usL d d.frames.length) i).length := hF
         refine k_seq (rgo tb hJ [0, 1, 2, 3, 4, 5, 6, 7, 8, 1000] [_] [] [(_, _), (_, _), (_, _), (_, _), (_, _), (_, _), (_, _), (_, _), (_, _), (_, .bool (decide (((q : Nat) : Int) < ((((nedL (usL d d.frames.length) i)).length : Nat) : Int))))] rfl rfl rfl rfl trivial (nx (k_seq (tc 9 rfl rfl (fun hb7 => ?_) (fun hb7 => ?_)))))
         ·
          try simp at hb7
          have e31 : (ge (nedL (usL d d.frames.length) i) q) ∈ (nedL (usL d d.frames.length) i) := ge_mem (by omega)
          have e32 := nedL_mem.1 e31
          have e33 := chdE_in (d := d) (i := (ge (nedL (usL d d.frames.length) i) q)) e0 (by omega) (by omega)
          refine tr_skip (nx (k_seq (tr_block (k_seq (rgo tb hJ [0, 1, 2, 3, 4, 5, 6, 7, 8, 1002] [.ptr [.lit (.int .i64 ((ge ((nedL (usL d d.frames.length) i)) q)))], _, _] [0] [(_, _), (_, _), (_, _), (_, _), (_, _), (_, _), (_, _), (_, _), (_, _), (_, .int ((ge ((nedL (usL d d.frames.length) i)) q)))] rfl rfl rfl rfl ⟨hIx elem_28_3_1 (by first | omega | (simp; omega) | grind [ge_mem]) rfl rfl rfl rfl rfl rfl, trivial⟩ (nx (k_seq (tr_text (sv (av := .agg (dbC d)) tb rfl rfl rfl rfl (sv tb rfl rfl rfl rfl (sq_fn (O := []) (R := []) (p_Needs hJ (d := d) (i := ((ge ((nedL (usL d d.frames.length) i)) q))) (by exact hw) (by exact hG)) call_15 rfl rfl rfl (lb rfl) hS hJ0 has_nil (fun a w h => (relL_cons (h.get 1 rfl) (relL_cons (h.get 0 rfl) relL_nil))) fun z6 => ?_)))))))))))
          refine sv tb rfl rfl rfl rfl (sv tb rfl rfl rfl rfl (sv tb rfl rfl rfl rfl (sv tb rfl rfl rfl rfl (sv tb rfl rfl rfl rfl (sq_end ?_)))))
          refine kw (lz [1, 8, 9, 10, 11, 12, 13, 14, 15, 16] (env' := [(_, _), (_, _), (_, _), (_, _), (_, _), (_, _), (_, _), (_, _), (_, _), (_, _)]) rfl) ?_
          refine nx (k_seq (rgr tb hJ [1, 2, 3, 4, 5, 6, 7, 8, 9, 1002] [_, .fn 28 [.ptr [intsC ((nedL (usL d d.frames.length) i))]], _] [1, 2] [(_, _), (_, _), (_, _), (_, _), (_, _), (_, _), (_, _), (_, _), (_, _), (_, .bool ((((if chdE d ((ge ((nedL (usL d d.frames.length) i)) q)) = 0 then nedL (usL d d.frames.length) ((ge ((nedL (usL d d.frames.length) i)) q)).toNat else []))).any (fun (n' : Int) => !decide (n' ∈ (nedL (usL d d.frames.length) i)))))] rfl rfl rfl rfl ⟨fun _ _ _ hx hl _ => r_makeFunc (caps := [(Go.Operand.tmp 10)]) rfl (relL_cons (hl.env 1 10 _ rfl rfl) relL_nil) hx, fun _ _ hk hx hl _ => r_fnR (p_ContainsFuncI hJ (xs := (((if chdE d ((ge ((nedL (usL d d.frames.length) i)) q)) = 0 then nedL (usL d d.frames.length) ((ge ((nedL (usL d d.frames.length) i)) q)).toNat else [])))) (f := 28) (caps := [.ptr [intsC ((nedL (usL d d.frames.length) i))]]) (Os := []) (p := (fun (n' : Int) => !decide (n' ∈ (nedL (usL d d.frames.length) i)))) (fun q' => (w_Orders1 hJ q' (nedL (usL d d.frames.length) i)).r) (call_28)) call_27 rfl (nm hS hk) (hx.1) has_nil (relL_cons (own_view hS hx (mo 0 rfl) (hl.dep 0 146 _ rfl rfl rfl rfl)) (relL_cons (hl.dep 1 147 _ rfl rfl rfl rfl) relL_nil)) (jo hJ hx), trivial⟩ (nx (tc 9 rfl rfl (fun hb8 => ?_) (fun hb8 => ?_)))))
          ·
           exact False.elim (by rw [if_pos e33, List.any_eq_true] at hb8; obtain ⟨n', h1, h2⟩ := hb8; have := nedL_trans e31 h1; simp [this] at h2)
          ·
           refine tr_skip (nx (rgo tb hJ [0, 1, 2, 3, 4, 5, 6, 7, 1001] [.int (((q + 1 : Nat) : Int)), _] [0] [(_, _), (_, _), (_, _), (_, _), (_, _), (_, _), (_, _), (_, _), (_, .int (((q + 1 : Nat) : Int)))] rfl rfl rfl rfl ⟨hAdd (by first | omega | (simp; omega) | grind [ge_mem]) rfl rfl rfl rfl rfl, trivial⟩ ?_))
           refine kw st_drop ?_
           intro a w h; change ∃ j, _ ∧ _
           exact ⟨q + 1, ⟨(show ((q + 1) ≤ (nedL (usL d d.frames.length) i).length) from by omega), lz [0, 1, 2, 3, 4, 5, 6, 7, 8] rfl h⟩, (show (nedL (usL d d.frames.length) i).length - (q + 1) < (nedL (usL d d.frames.length) i).length - q from by first | omega | (simp; omega))⟩
         ·
          try simp at hb7
          refine tr_exit (nx (k_seq (rgo tb hJ [1, 2, 3, 4, 5, 1004, 1006] [_, _, .tup [.rd (intsC ((if chdE d (((i : Nat) : Int)) = 0 then usersK d (((i : Nat) : Int)) d.frames.length else []))), .int (chdE d (((i : Nat) : Int)))], _, _, _, _, _] [2] [(_, _), (_, _), (_, _), (_, _), (_, _), (_, .rd (intsC ((if chdE d (((i : Nat) : Int)) = 0 then usersK d (((i : Nat) : Int)) d.frames.length else [])))), (_, .rd (intsC ((if chdE d (((i : Nat) : Int)) = 0 then usersK d (((i : Nat) : Int)) d.frames.length else []))))] rfl rfl rfl rfl ⟨hFo hS hJ (p_Users hJ (d := d) (i := (((i : Nat) : Int))) (by exact hw) (by exact hG)) call_12 rfl rfl rfl rfl, trivial⟩ ?_)))
          refine kw (sa 6 rfl (congrArg (fun z' => AV.rd (intsC z')) (show ((if chdE d (((i : Nat) : Int)) = 0 then usersK d (((i : Nat) : Int)) d.frames.length else [])) = (usersK d ((i : Nat) : Int) d.frames.length) from by rw [if_pos e20]))) ?_
          refine nx (tr_fact (fun a w h => len_le h 5 rfl) fun hl23 => tr_fact (fun a w h => len_le h 6 rfl) fun hl24 => k_seq (rgo tb hJ [0, 1, 2, 3, 4, 1000, 1001, 1002] [_, _, _] [1] [(_, _), (_, _), (_, _), (_, _), (_, _), (_, .rd (intsC (usersK d ((i : Nat) : Int) d.frames.length))), (_, .int ((((usersK d ((i : Nat) : Int) d.frames.length).length : Nat) : Int))), (_, .int (0 : Int))] rfl rfl rfl rfl ⟨hLen unds_28_3 rfl rfl rfl rfl, trivial⟩ (nx (tr_block (tr_loop (ι := Nat) (fun (z : Nat) a w => ((z ≤ (usersK d ((i : Nat) : Int) d.frames.length).length)) ∧ St All (SO S []) w0 175 [(2, .ptr (dbC d)), (5, .rd (intsC (ordD d L))), (64, .int (((d.frames.length : Nat) : Int))), (65, .int (((i : Nat) : Int))), (7, .int (((i : Nat) : Int))), (156, .rd (intsC (usersK d ((i : Nat) : Int) d.frames.length))), (157, .int ((((usersK d ((i : Nat) : Int) d.frames.length).length : Nat) : Int))), (158, .int (((z : Nat) : Int)))] (XO J S w0.heap.size []) a w) (fun (z : Nat) => ((usersK d ((i : Nat) : Int) d.frames.length).length - z : Nat)) ?_ ?_)))))
          ·
           intro a w h
           exact ⟨0, (show (0 ≤ (usersK d ((i : Nat) : Int) d.frames.length).length) from Nat.zero_le _), lz [0, 1, 2, 3, 4, 5, 6, 7] rfl h⟩
          ·
           rintro z
           refine tr_and fun hF => ?_
           have f4_1 : z ≤ (usersK d ((i : Nat) : Int) d.frames.length).length := hF
           refine k_seq (rgo tb hJ [0, 1, 2, 3, 4, 5, 6, 7, 1000] [_] [] [(_, _), (_, _), (_, _), (_, _), (_, _), (_, _), (_, _), (_, _), (_, .bool (decide (((z : Nat) : Int) < (((usersK d ((i : Nat) : Int) d.frames.length).length : Nat) : Int))))] rfl rfl rfl rfl trivial (nx (k_seq (tc 8 rfl rfl (fun hb9 => ?_) (fun hb9 => ?_)))))
           ·
            try simp at hb9
            have e41 := usersK_mem.1 (ge_mem (xs := usersK d ((i : Nat) : Int) d.frames.length) (k := z) (by omega))
            have e43 := chdE_in (d := d) (i := (ge (usersK d ((i : Nat) : Int) d.frames.length) z)) e0 (by omega) (by omega)
            refine tr_skip (nx (k_seq (tr_block (k_seq (rgo tb hJ [0, 1, 2, 3, 4, 5, 6, 7, 1002] [.ptr [.lit (.int .i64 ((ge (usersK d ((i : Nat) : Int) d.frames.length) z)))], _, _] [0] [(_, _), (_, _), (_, _), (_, _), (_, _), (_, _), (_, _), (_, _), (_, .int ((ge (usersK d ((i : Nat) : Int) d.frames.length) z)))] rfl rfl rfl rfl ⟨hIx elem_28_3_1 (by first | omega | (simp; omega) | grind [ge_mem]) rfl rfl rfl rfl rfl rfl, trivial⟩ (nx (k_seq (rgo tb hJ [0, 1, 2, 3, 4, 5, 6, 7, 1004, 1006] [_, _, .tup [.rd (intsC ((if chdE d ((ge (usersK d ((i : Nat) : Int) d.frames.length) z)) = 0 then usesD d ((ge (usersK d ((i : Nat) : Int) d.frames.length) z)).toNat else []))), .int (chdE d ((ge (usersK d ((i : Nat) : Int) d.frames.length) z)))], _, _, _, _, _] [2] [(_, _), (_, _), (_, _), (_, _), (_, _), (_, _), (_, _), (_, _), (_, .rd (intsC ((if chdE d ((ge (usersK d ((i : Nat) : Int) d.frames.length) z)) = 0 then usesD d ((ge (usersK d ((i : Nat) : Int) d.frames.length) z)).toNat else [])))), (_, .rd (intsC ((if chdE d ((ge (usersK d ((i : Nat) : Int) d.frames.length) z)) = 0 then usesD d ((ge (usersK d ((i : Nat) : Int) d.frames.length) z)).toNat else []))))] rfl rfl rfl rfl ⟨hFo hS hJ (p_Uses hJ (d := d) (i := ((ge (usersK d ((i : Nat) : Int) d.frames.length) z))) (by exact hw) (by exact hG)) call_10 rfl rfl rfl rfl, trivial⟩ (nx (tr_fact (fun a w h => len_le h 8 rfl) fun hl25 => k_seq (rgo tb hJ [0, 1, 2, 3, 4, 5, 6, 7, 1003] [_, _, .bool (decide ((((i : Nat) : Int)) ∈ ((if chdE d ((ge (usersK d ((i : Nat) : Int) d.frames.length) z)) = 0 then usesD d ((ge (usersK d ((i : Nat) : Int) d.frames.length) z)).toNat else [])))), _] [2] [(_, _), (_, _), (_, _), (_, _), (_, _), (_, _), (_, _), (_, _), (_, .bool (!(decide ((((i : Nat) : Int)) ∈ ((if chdE d ((ge (usersK d ((i : Nat) : Int) d.frames.length) z)) = 0 then usesD d ((ge (usersK d ((i : Nat) : Int) d.frames.length) z)).toNat else []))))))] rfl rfl rfl rfl ⟨hFo hS hJ (p_ContainsI hJ (xs := ((if chdE d ((ge (usersK d ((i : Nat) : Int) d.frames.length) z)) = 0 then usesD d ((ge (usersK d ((i : Nat) : Int) d.frames.length) z)).toNat else []))) (n := (((i : Nat) : Int))) ) call_24 rfl rfl rfl rfl, trivial⟩ ?_)))))))))))
            refine nx (tc 8 rfl rfl (fun hb10 => ?_) (fun hb10 => ?_))
            ·
             exact False.elim (by rw [if_pos e43] at hb10; simp [e41.2.2] at hb10)
            ·
             refine tr_skip (nx (rgo tb hJ [0, 1, 2, 3, 4, 5, 6, 1001] [.int (((z + 1 : Nat) : Int)), _] [0] [(_, _), (_, _), (_, _), (_, _), (_, _), (_, _), (_, _), (_, .int (((z + 1 : Nat) : Int)))] rfl rfl rfl rfl ⟨hAdd (by first | omega | (simp; omega) | grind [ge_mem]) rfl rfl rfl rfl rfl, trivial⟩ ?_))
             intro a w h; change ∃ j, _ ∧ _
             exact ⟨z + 1, ⟨(show ((z + 1) ≤ (usersK d ((i : Nat) : Int) d.frames.length).length) from by omega), lz [0, 1, 2, 3, 4, 5, 6, 7] rfl h⟩, (show (usersK d ((i : Nat) : Int) d.frames.length).length - (z + 1) < (usersK d ((i : Nat) : Int) d.frames.length).length - z from by first | omega | (simp; omega))⟩
           ·
            try simp at hb9
            refine tr_exit (nx (rgo tb hJ [0, 1, 2, 1001] [.int (((i + 1 : Nat) : Int)), _] [0] [(_, _), (_, _), (_, _), (_, .int (((i + 1 : Nat) : Int)))] rfl rfl rfl rfl ⟨hAdd (by first | omega | (simp; omega) | grind [ge_mem]) rfl rfl rfl rfl rfl, trivial⟩ ?_))
            intro a w h; change ∃ j, _ ∧ _
            exact ⟨i + 1, ⟨(show ((i + 1) ≤ d.frames.length) from by omega), lz [0, 1, 2, 3] rfl h⟩, (show d.frames.length - (i + 1) < d.frames.length - i from by first | omega | (simp; omega))⟩
     ·
      try simp at hb4
      refine tr_exit (nx (k_seq (rgo tb hJ [1001] [.bool true, _] [0] [(_, .bool true)] rfl rfl rfl rfl ⟨hFo hS hJ (w_awake hJ  (by exact hG)) call_9 rfl rfl rfl rfl, trivial⟩ (nx (tr_ret (fun a w h => leave1' (m := 0) rfl (st_disown h) rfl rfl))))))

end Go.Proofs.YtnpgmdffjemnbaaGreatDoor
