/-
  CONTRACTS: the check of a database by the reference.
  CONTRACTS: the check of a database by the reference, whole.
  CONTRACTS: what uses what, by the reference.
  CONTRACTS: Uses, Users by the reference.
  CONTRACTS of the program: look-ups, functions that take functions.
  CONTRACTS of the library: slices' functions.
  CONTRACTS of the library: slices.DeleteFunc.
-/
import Derived.Test.YtnpgmdffjemnbaaGreatDoorJQ
import Derived.Test.YtnpgmdffjemnbaaGreatDoorJN
import Derived.Test.YtnpgmdffjemnbaaGreatDoorJG
import Derived.Test.YtnpgmdffjemnbaaGreatDoorJO
set_option maxHeartbeats 8000000
set_option maxRecDepth 100000
namespace Go.Proofs.YtnpgmdffjemnbaaGreatDoor
open Go.RowKit

theorem c_structure {J : World → Prop} (hJ : Stab J) (d : Db) (f : Fr) (h1 : d.vars.length ≤ 8000) (h2 : f.hyps.length ≤ 40) (h3 : f.wide.length * 32 ≤ 140737488351232) (h4 : ∀ h ∈ f.hyps, h.floating = true → h.text.length = 2) : Fn Tryz.prog J 112 [.agg (dbC d), .agg (frC f)] (.bool (strB d f)) := by
 refine fn_enter (N := 113) Tryz.func112 rfl rfl (lb rfl) fun S w0 hS hJ0 => ?_
 refine tw st_own ?_
 refine k_seq (rgo tb hJ [1000, 1001] [_, _, _] [0, 1] [(_, .ptr (dbC d)), (_, .ptr (frC f))] rfl rfl rfl rfl ⟨fun _ _ hk hx hl _ => r_box rfl (hl.env 0 0 _ rfl rfl) (xo_new hS _ hk hx _ (Nat.le_refl _)) (jo hJ hx), fun _ _ hk hx hl _ => r_box rfl (hl.env 1 1 _ rfl rfl) (xo_new hS _ hk hx _ (Nat.le_refl _)) (jo hJ hx), trivial⟩ (nx (k_seq (rgo tb hJ [0, 1, 1001, 1003, 1004, 1006, 1007, 1008] [_, _, _, _, _, _, _, _, _] [4, 7] [(_, _), (_, _), (_, .rd (hysC f.hyps)), (_, .rd (strsC f.text)), (_, .rd (strssC ((f.text :: (essF f.hyps).map Hy.text)))), (_, .rd (strsC d.vars)), (_, .rd (strsC ((occF d.vars ((f.text :: (essF f.hyps).map Hy.text)).flatten)))), (_, .rd (strsC ((occF d.vars ((f.text :: (essF f.hyps).map Hy.text)).flatten))))] rfl rfl rfl rfl ⟨hFo hS hJ (c_formulas hJ (hs := f.hyps) (t := f.text) (by first | omega | (simp; omega) | grind [ge_mem])) call_137 rfl rfl rfl rfl, hFo hS hJ (c_occurring hJ (l := ((f.text :: (essF f.hyps).map Hy.text))) (vs := d.vars) (by first | omega | (simp; omega) | grind [ge_mem])) call_136 rfl rfl rfl rfl, trivial⟩ (nx (tr_fact (fun a w h => len_le h 2 rfl) fun hl1 => tr_fact (fun a w h => len_le h 3 rfl) fun hl2 => tr_fact (fun a w h => len_le h 4 rfl) fun hl3 => tr_fact (fun a w h => len_le h 5 rfl) fun hl4 => tr_fact (fun a w h => len_le h 6 rfl) fun hl5 => k_seq (tr_text ?_)))))))
 refine sq_own0 elem_22_9_1 hJ rfl rfl rfl (lb rfl) fun v1 => ?_
 refine sv tb rfl rfl rfl rfl (sq_end ?_)
 refine kw (lz [0, 2, 3, 9] (env' := [(_, _), (_, _), (_, _), (_, _)]) rfl) ?_
 refine nx (k_seq (k_seq (rgo tb hJ [0, 1, 2, 3, 1000] [_] [] [(_, _), (_, _), (_, _), (_, _), (_, .int (0 : Int))] rfl rfl rfl rfl trivial (nx (tr_block (tr_loop (ι := Nat × Value × (List ByteArray)) (fun (ii' : Nat × Value × (List ByteArray)) a w => match ii' with | (k, vo, found) => ((k ≤ f.hyps.length) ∧ (found = typF (f.hyps.take k)) ∧ (found.length ≤ k) ∧ ((f.hyps.take k).all (hIn (mandF d f)) = true)) ∧ St All (SO S [OB.row vo 9 1 (found.map strC)]) w0 113 [(2, .ptr (dbC d)), (3, .ptr (frC f)), (5, .rd (strsC ((occF d.vars ((f.text :: (essF f.hyps).map Hy.text)).flatten)))), (7, .int (((k : Nat) : Int))), (6, .lit vo)] (XO J S w0.heap.size [OB.row vo 9 1 (found.map strC)]) a w) (fun (ii' : Nat × Value × (List ByteArray)) => match ii' with | (k, _, _) => (f.hyps.length - k : Nat)) ?_ ?_))))))
 ·
  intro a w h
  exact ⟨(0, v1, ([] : List ByteArray)), (show (0 ≤ f.hyps.length) ∧ (([] : List ByteArray) = typF (f.hyps.take 0)) ∧ (([] : List ByteArray).length ≤ 0) ∧ ((f.hyps.take 0).all (hIn (mandF d f)) = true) from ⟨Nat.zero_le _, rfl, Nat.zero_le _, rfl⟩), lz [1, 2, 3, 4, 0] rfl h⟩
 ·
  rintro ⟨k, vo, found⟩
  refine tr_and fun hF => ?_
  obtain ⟨f1_1, f1_2, f1_3, f1_4⟩ := hF
  refine k_seq (k_seq (rgo tb hJ [0, 1, 2, 3, 4, 1004] [_, _, _, .int (((f.hyps.length : Nat) : Int)), _] [3] [(_, _), (_, _), (_, _), (_, _), (_, _), (_, .bool (decide (((k : Nat) : Int) < ((f.hyps.length : Nat) : Int))))] rfl rfl rfl rfl ⟨hLen unds_56_109 rfl rfl rfl rfl, trivial⟩ (nx (tc 5 rfl rfl (fun hb1 => ?_) (fun hb1 => ?_)))))
  ·
   try simp at hb1
   refine tr_skip (nx (k_seq (tr_block (k_seq (rgo tb hJ [0, 1, 2, 3, 4, 1005] [_, _, _, .ptr (hyC (ge f.hyps k)), _, _] [3] [(_, _), (_, _), (_, _), (_, _), (_, _), (_, .bool ((ge f.hyps k).floating))] rfl rfl rfl rfl ⟨hIx elem_56_109_3 (by first | omega | (simp; omega) | grind [ge_mem]) rfl rfl rfl rfl rfl rfl, trivial⟩ (nx (tc 5 rfl rfl (fun hb2 => ?_) (fun hb2 => ?_))))))))
   ·
    try simp at hb2
    refine k_seq (k_seq (rgo tb hJ [0, 1, 2, 3, 4, 1007] [_, _, _, .ptr (hyC (ge f.hyps k)), _, _, .bool (ofB (ge f.hyps k) ((occF d.vars ((f.text :: (essF f.hyps).map Hy.text)).flatten))), _] [3, 6] [(_, _), (_, _), (_, _), (_, _), (_, _), (_, .bool (!(ofB (ge f.hyps k) ((occF d.vars ((f.text :: (essF f.hyps).map Hy.text)).flatten)))))] rfl rfl rfl rfl ⟨hIx elem_56_109_3 (by first | omega | (simp; omega) | grind [ge_mem]) rfl rfl rfl rfl rfl rfl, hFo hS hJ (c_of hJ (y := (ge f.hyps k)) (vs := ((occF d.vars ((f.text :: (essF f.hyps).map Hy.text)).flatten))) ) call_134 rfl rfl rfl rfl, trivial⟩ (nx (tc 5 rfl rfl (fun hb3 => ?_) (fun hb3 => ?_)))))
    ·
     try simp at hb3
     have q3 : f.hyps.all (hIn (mandF d f)) = false := not_all_ge hb1 (by simp only [hIn, hb2, mandF]; simpa using hb3)
     refine k_seq (rgo tb hJ [1000] [_] [] [(_, .bool false)] rfl rfl rfl rfl trivial (nx (tr_ret (fun a w h => leave1' (m := 0) rfl (st_disown h) rfl (congrArg AV.bool (show false = (strB d f) from by clear h; first | (rw [strB, q3]; rfl) | (rw [strB, e1, q5]; rfl) | (rw [strB, e1, e4, q7]; rfl) | (rw [strB, e1, e4, e6]; rfl)))))))
    ·
     try simp at hb3
     refine tr_skip (nx (tr_text (sv tb rfl rfl rfl rfl (sv (av := .ptr [hysC f.hyps, prsC f.apart, strsC f.text, hysC f.dummies, prsC f.wide, strsC f.proof]) tb rfl rfl rfl rfl (sv (av := .rd (hysC f.hyps)) tb rfl rfl rfl rfl (sv tb rfl rfl rfl rfl (sq (.ptr (hyC (ge f.hyps k))) rfl rfl (lb rfl) (fun _ _ h => r_index (i := ((k : Nat) : Int)) elem_56_109_3 rfl (h.get 1 rfl) (h.get 0 rfl) (Int.natCast_nonneg _) (row_nat (xs := f.hyps) (k := k) (by first | omega | (simp; omega) | grind [ge_mem])) rfl h.x) (sv (av := .ptr [strsC ((ge f.hyps k).text)]) tb rfl rfl rfl rfl (sv (av := .rd (strsC ((ge f.hyps k).text))) tb rfl rfl rfl rfl (sq (.ptr [.lit (.string ((ge ((ge f.hyps k).text) 1)))]) rfl rfl (lb rfl) (fun _ _ h => r_index (i := ((1 : Nat) : Int)) elem_22_9_1 rfl (h.get 0 rfl) (Rel.of_lit (Go.Value.int Go.IntKind.i64 1)) (Int.natCast_nonneg _) (row_nat (xs := (ge f.hyps k).text) (k := 1) (by have := h4 _ (ge_mem hb1) hb2; omega)) rfl h.x) (sv (av := .str ((ge ((ge f.hyps k).text) 1))) tb rfl rfl rfl rfl (sq (.rd (strsC ([(ge ((ge f.hyps k).text) 1)]))) rfl rfl (lb rfl) (fun _ _ h => r_build1 elem_22_9_1 zero_9 rfl (h.get 0 rfl) (xo_new hS _ h.keep h.x _ (Nat.le_refl _)) (jo hJ h.x)) ?_))))))))))))
     refine sq_appendM (f := strC) (m := 9) (s := 41) found ([(ge ((ge f.hyps k).text) 1)]) (fun _ => rfl) app_22_9 hJ hJ0 rfl rfl rfl (lb rfl) rfl rfl (fun a w h => (h.get 0 rfl)) (by first | (simp; omega) | (refine small16 ?_; simp; omega)) (by first | (simp; omega) | (refine small16 ?_; simp; omega)) fun v2 => ?_
     refine sv tb rfl rfl rfl rfl (sq_end ?_)
     refine kw (lz [0, 2, 5, 12, 13, 14, 15] (env' := [(_, _), (_, _), (_, _), (_, _), (_, _), (_, _), (_, _)]) rfl) ?_
     refine nx (tr_fact (fun a w h => len_le h 1 rfl) fun hl6 => tr_fact (fun a w h => len_le h 2 rfl) fun hl7 => rgo tb hJ [0, 3, 4, 5, 1002] [_, .int (((k + 1 : Nat) : Int)), _] [1] [(_, _), (_, _), (_, _), (_, _), (_, .int (((k + 1 : Nat) : Int)))] rfl rfl rfl rfl ⟨hAdd (by first | omega | (simp; omega) | grind [ge_mem]) rfl rfl rfl rfl rfl, trivial⟩ ?_)
     intro a w h; change ∃ j, _ ∧ _
     exact ⟨(k + 1, v2, found ++ ([(ge ((ge f.hyps k).text) 1)])), ⟨⟨(show (k + 1) ≤ f.hyps.length from by omega), (show (found ++ ([(ge ((ge f.hyps k).text) 1)])) = typF (f.hyps.take (k + 1)) from by rw [f1_2, typF, typF, filter_take_succ (by omega)]; simp [hb2]), (show (found ++ ([(ge ((ge f.hyps k).text) 1)])).length ≤ (k + 1) from by simp; omega), (show (f.hyps.take (k + 1)).all (hIn (mandF d f)) = true from by rw [all_take_succ (by omega), f1_4]; simp only [hIn, hb2, mandF]; simpa using hb3)⟩, lz [1, 2, 3, 4, 0] rfl h⟩, (show f.hyps.length - (k + 1) < f.hyps.length - k from by first | omega | (simp; omega))⟩
   ·
    try simp at hb2
    refine tr_skip (nx (rgo tb hJ [0, 1, 2, 4, 1002] [_, .int (((k + 1 : Nat) : Int)), _] [1] [(_, _), (_, _), (_, _), (_, _), (_, .int (((k + 1 : Nat) : Int)))] rfl rfl rfl rfl ⟨hAdd (by first | omega | (simp; omega) | grind [ge_mem]) rfl rfl rfl rfl rfl, trivial⟩ ?_))
    intro a w h; change ∃ j, _ ∧ _
    exact ⟨(k + 1, vo, found), ⟨⟨(show (k + 1) ≤ f.hyps.length from by omega), (show found = typF (f.hyps.take (k + 1)) from by rw [f1_2, typF, typF, filter_take_succ (by omega)]; simp [hb2]), (show found.length ≤ (k + 1) from by omega), (show (f.hyps.take (k + 1)).all (hIn (mandF d f)) = true from by rw [all_take_succ (by omega), f1_4]; simp [hIn, hb2])⟩, lz [0, 1, 2, 4, 3] rfl h⟩, (show f.hyps.length - (k + 1) < f.hyps.length - k from by first | omega | (simp; omega))⟩
  ·
   try simp at hb1
   have e1 : f.hyps.all (hIn (mandF d f)) = true := by rw [← take_all (xs := f.hyps) (by omega)]; exact f1_4
   have f1_2' : found = typF f.hyps := by rw [f1_2, take_all (by omega)]
   refine tr_exit (nx (k_seq (k_seq ?_)))
   refine tw (fun h => st_freeze hS h (m := 4) (s := 6) rfl) ?_
   refine rgo tb hJ [0, 1, 2, 3, 1000] [_] [] [(_, _), (_, _), (_, _), (_, _), (_, .int (0 : Int))] rfl rfl rfl rfl trivial (nx (tr_fact (fun a w h => len_le h 0 rfl) fun hl8 => tr_block (tr_loop (ι := Nat) (fun (k : Nat) a w => ((k ≤ (mandF d f).length) ∧ (((mandF d f).take k).all (fun s => decide (s ∈ typF f.hyps)) = true)) ∧ St All (SO S []) w0 113 [(6, .rd (strsC found)), (2, .ptr (dbC d)), (3, .ptr (frC f)), (5, .rd (strsC ((occF d.vars ((f.text :: (essF f.hyps).map Hy.text)).flatten)))), (8, .int (((k : Nat) : Int)))] (XO J S w0.heap.size []) a w) (fun (k : Nat) => ((mandF d f).length - k : Nat)) ?_ ?_)))
   ·
    intro a w h
    exact ⟨0, (show (0 ≤ (mandF d f).length) ∧ (((mandF d f).take 0).all (fun s => decide (s ∈ typF f.hyps)) = true) from ⟨Nat.zero_le _, rfl⟩), lz [0, 1, 2, 3, 4] rfl h⟩
   ·
    rintro k
    refine tr_and fun hF => ?_
    obtain ⟨f2_1, f2_2⟩ := hF
    refine k_seq (k_seq (rgo tb hJ [0, 1, 2, 3, 4, 1003] [_, _, .int (((((occF d.vars ((f.text :: (essF f.hyps).map Hy.text)).flatten)).length : Nat) : Int)), _] [2] [(_, _), (_, _), (_, _), (_, _), (_, _), (_, .bool (decide (((k : Nat) : Int) < ((((occF d.vars ((f.text :: (essF f.hyps).map Hy.text)).flatten)).length : Nat) : Int))))] rfl rfl rfl rfl ⟨hLen unds_22_9 rfl rfl rfl rfl, trivial⟩ (nx (tc 5 rfl rfl (fun hb4 => ?_) (fun hb4 => ?_)))))
    ·
     try simp at hb4
     have hb4' := hb4
     replace hb4 : k < (mandF d f).length := hb4
     refine tr_skip (nx (k_seq (tr_block (k_seq (rgo tb hJ [0, 1, 2, 3, 4, 1006] [_, _, _, .ptr [.lit (.string ((ge ((occF d.vars ((f.text :: (essF f.hyps).map Hy.text)).flatten)) k)))], _, .bool (decide (((ge ((occF d.vars ((f.text :: (essF f.hyps).map Hy.text)).flatten)) k)) ∈ found)), _] [3, 5] [(_, _), (_, _), (_, _), (_, _), (_, _), (_, .bool (!(decide (((ge ((occF d.vars ((f.text :: (essF f.hyps).map Hy.text)).flatten)) k)) ∈ found))))] rfl rfl rfl rfl ⟨hIx elem_22_9_1 (by first | omega | (simp; omega) | grind [ge_mem]) rfl rfl rfl rfl rfl rfl, hFo hS hJ (c_Has hJ (xs := found) (s := ((ge ((occF d.vars ((f.text :: (essF f.hyps).map Hy.text)).flatten)) k))) ) call_105 rfl rfl rfl rfl, trivial⟩ (nx (tc 5 rfl rfl (fun hb5 => ?_) (fun hb5 => ?_))))))))
     ·
      try simp at hb5
      have q5 : (mandF d f).all (fun s => decide (s ∈ typF f.hyps)) = false := not_all_ge hb4 (decide_eq_false (by rw [← f1_2']; exact hb5))
      refine k_seq (rgo tb hJ [1000] [_] [] [(_, .bool false)] rfl rfl rfl rfl trivial (nx (tr_ret (fun a w h => leave1' (m := 0) rfl (st_disown h) rfl (congrArg AV.bool (show false = (strB d f) from by clear h; first | (rw [strB, q3]; rfl) | (rw [strB, e1, q5]; rfl) | (rw [strB, e1, e4, q7]; rfl) | (rw [strB, e1, e4, e6]; rfl)))))))
     ·
      try simp at hb5
      refine tr_skip (nx (rgo tb hJ [0, 1, 2, 3, 1002] [_, .int (((k + 1 : Nat) : Int)), _] [1] [(_, _), (_, _), (_, _), (_, _), (_, .int (((k + 1 : Nat) : Int)))] rfl rfl rfl rfl ⟨hAdd (by first | omega | (simp; omega) | grind [ge_mem]) rfl rfl rfl rfl rfl, trivial⟩ ?_))
      intro a w h; change ∃ j, _ ∧ _
      exact ⟨k + 1, ⟨⟨(show (k + 1) ≤ (mandF d f).length from by omega), (show ((mandF d f).take (k + 1)).all (fun s => decide (s ∈ typF f.hyps)) = true from by rw [all_take_succ hb4, f2_2, Bool.true_and]; exact decide_eq_true (by rw [← f1_2']; exact hb5))⟩, lz [0, 1, 2, 3, 4] rfl h⟩, (show (mandF d f).length - (k + 1) < (mandF d f).length - k from by first | omega | (simp; omega))⟩
    ·
     try simp at hb4
     replace hb4 : (mandF d f).length ≤ k := hb4
     have e4 : (mandF d f).all (fun s => decide (s ∈ typF f.hyps)) = true := by rw [← take_all (xs := mandF d f) hb4]; exact f2_2
     refine tr_exit (nx (k_seq (k_seq (rgo tb hJ [1, 2, 3, 1000] [_] [] [(_, _), (_, _), (_, _), (_, .int (0 : Int))] rfl rfl rfl rfl trivial (nx (tr_block (tr_loop (ι := Nat) (fun (k : Nat) a w => ((k ≤ f.wide.length) ∧ ((f.wide.take k).any (badW d) = false)) ∧ St All (SO S []) w0 113 [(2, .ptr (dbC d)), (3, .ptr (frC f)), (5, .rd (strsC ((occF d.vars ((f.text :: (essF f.hyps).map Hy.text)).flatten)))), (9, .int (((k : Nat) : Int)))] (XO J S w0.heap.size []) a w) (fun (k : Nat) => (f.wide.length - k : Nat)) ?_ ?_)))))))
     ·
      intro a w h
      exact ⟨0, (show (0 ≤ f.wide.length) ∧ ((f.wide.take 0).any (badW d) = false) from ⟨Nat.zero_le _, rfl⟩), lz [0, 1, 2, 3] rfl h⟩
     ·
      rintro k
      refine tr_and fun hF => ?_
      obtain ⟨f3_1, f3_2⟩ := hF
      refine k_seq (k_seq (rgo tb hJ [0, 1, 2, 3, 1002, 1004] [_, _, _, .int (((f.wide.length : Nat) : Int)), _] [3] [(_, _), (_, _), (_, _), (_, _), (_, .rd (prsC f.wide)), (_, .bool (decide (((k : Nat) : Int) < ((f.wide.length : Nat) : Int))))] rfl rfl rfl rfl ⟨hLen unds_57_148 rfl rfl rfl rfl, trivial⟩ (nx (tr_fact (fun a w h => len_le h 4 rfl) fun hl9 => tc 5 rfl rfl (fun hb6 => ?_) (fun hb6 => ?_)))))
      ·
       try simp at hb6
       refine tr_skip (nx (k_seq (tr_block (k_seq (tr_text (sv (av := .ptr [prsC f.wide, strsC f.proof]) tb rfl rfl rfl rfl (sv (av := .rd (prsC f.wide)) tb rfl rfl rfl rfl (sv tb rfl rfl rfl rfl (sq (.ptr (prC (ge f.wide k))) rfl rfl (lb rfl) (fun _ _ h => r_index (i := ((k : Nat) : Int)) elem_57_148_2 rfl (h.get 1 rfl) (h.get 0 rfl) (Int.natCast_nonneg _) (row_nat (xs := f.wide) (k := k) (by first | omega | (simp; omega) | grind [ge_mem])) rfl h.x) (sv (av := .agg (prC (ge f.wide k))) tb rfl rfl rfl rfl (sq_var (cs := prC (ge f.wide k)) var_148_2 rfl rfl rfl (lb rfl) rfl rfl rfl (by decide) (m := 0) rfl rfl (fun a w h => xo_new hS _ h.keep h.x _ (Nat.le_refl _)) (fun a w h w' hk' => xo_stab hJ _ _ hk' h.x) (sq_end ?_))))))))))))
       refine kw (lz [0, 6, 7, 8, 9] (env' := [(_, _), (_, _), (_, _), (_, _), (_, _)]) rfl) ?_
       refine nx (k_seq (rgo tb hJ [1, 2, 3, 4, 1020] [_, _, _, _, _, _, _, _, _, _, .bool (decide (((ge f.wide k).a) ∈ d.vars)), _, _, _, _, _, _, _, .bool (decide (((ge f.wide k).b) ∈ d.vars)), _, _] [10, 18] [(_, _), (_, _), (_, _), (_, _), (_, .bool (((!Op.bytesLess ((ge f.wide k).a).toList ((ge f.wide k).b).toList) || (!(decide (((ge f.wide k).a) ∈ d.vars)))) || (!(decide (((ge f.wide k).b) ∈ d.vars)))))] rfl rfl rfl rfl ⟨fun a _ hk hx hl hc => r_fn (c_Has hJ (xs := d.vars) (s := ((ge f.wide k).a)) ) call_105 rfl (xo_new hS _ hk hx) (hx.1) (relL_cons (hl.dep 7 84 _ rfl rfl rfl hc) (relL_cons (hl.dep 9 86 _ rfl rfl rfl hc) relL_nil)) (jo hJ hx), fun _ _ hk hx hl hc => r_fn (c_Has hJ (xs := d.vars) (s := ((ge f.wide k).b)) ) call_105 rfl (xo_new hS _ hk hx) (hx.1) (relL_cons (hl.dep 15 92 _ rfl rfl rfl hc) (relL_cons (hl.dep 17 94 _ rfl rfl rfl hc) relL_nil)) (jo hJ hx), trivial⟩ (nx (tc 4 rfl rfl (fun hb7 => ?_) (fun hb7 => ?_)))))
       ·
        have q7 : f.wide.any (badW d) = true := any_hit (by omega : k < f.wide.length) hb7
        refine k_seq (rgo tb hJ [1000] [_] [] [(_, .bool false)] rfl rfl rfl rfl trivial (nx (tr_ret (fun a w h => leave1' (m := 0) rfl (st_disown h) rfl (congrArg AV.bool (show false = (strB d f) from by clear h; first | (rw [strB, q3]; rfl) | (rw [strB, e1, q5]; rfl) | (rw [strB, e1, e4, q7]; rfl) | (rw [strB, e1, e4, e6]; rfl)))))))
       ·
        refine tr_skip (nx (rgo tb hJ [0, 1, 2, 1002] [_, .int (((k + 1 : Nat) : Int)), _] [1] [(_, _), (_, _), (_, _), (_, .int (((k + 1 : Nat) : Int)))] rfl rfl rfl rfl ⟨hAdd (by first | omega | (simp; omega) | grind [ge_mem]) rfl rfl rfl rfl rfl, trivial⟩ ?_))
        intro a w h; change ∃ j, _ ∧ _
        exact ⟨k + 1, ⟨⟨(show (k + 1) ≤ f.wide.length from by omega), (show (f.wide.take (k + 1)).any (badW d) = false from any_miss (by omega) f3_2 hb7)⟩, lz [0, 1, 2, 3] rfl h⟩, (show f.wide.length - (k + 1) < f.wide.length - k from by first | omega | (simp; omega))⟩
      ·
       try simp at hb6
       have e6 := any_none (p := badW d) f3_2 (by omega)
       refine tr_exit (nx (k_seq (rgo tb hJ [1004, 1015] [_, _, _, _, _, .bool (decide (f.wide = ((joinF f.wide ([] : List Pr))))), _, _, _, _, _, _, .rd (prsC ((f.wide.filter (inV ((occF d.vars ((f.text :: (essF f.hyps).map Hy.text)).flatten)))))), .bool (decide (f.apart = ((f.wide.filter (inV ((occF d.vars ((f.text :: (essF f.hyps).map Hy.text)).flatten))))))), _, _] [4, 5, 12, 13] [(_, .rd (prsC ((joinF f.wide ([] : List Pr))))), (_, .bool ((decide (f.wide = ((joinF f.wide ([] : List Pr))))) && (decide (f.apart = ((f.wide.filter (inV ((occF d.vars ((f.text :: (essF f.hyps).map Hy.text)).flatten)))))))))] rfl rfl rfl rfl ⟨fun _ _ hk hx hl _ => r_fn (c_Join hJ (ws := f.wide) (zs := ([] : List Pr)) (by simp only [List.length_nil]; omega)) call_139 rfl (xo_new hS _ hk hx) (hx.1) (relL_cons (hl.dep 3 101 _ rfl rfl rfl rfl) (relL_cons (nil_view (Rel.of_lit (Go.Value.slice none 0 0))) relL_nil)) (jo hJ hx), hFo hS hJ (c_samePairs hJ (xs := f.wide) (ys := ((joinF f.wide ([] : List Pr)))) ) call_138 rfl rfl rfl rfl, fun _ _ hk hx hl hc => r_fn (c_within hJ (l := f.wide) (vs := ((occF d.vars ((f.text :: (essF f.hyps).map Hy.text)).flatten))) (by have hc' : (((decide (f.wide = ((joinF f.wide ([] : List Pr))))) == true)) = true := hc; (try simp at hc'); (omega))) call_140 rfl (xo_new hS _ hk hx) (hx.1) (relL_cons (hl.dep 10 108 _ rfl rfl rfl hc) (relL_cons (hl.dep 11 109 _ rfl rfl rfl hc) relL_nil)) (jo hJ hx), fun _ _ hk hx hl hc => r_fn (c_samePairs hJ (xs := f.apart) (ys := ((f.wide.filter (inV ((occF d.vars ((f.text :: (essF f.hyps).map Hy.text)).flatten)))))) ) call_138 rfl (xo_new hS _ hk hx) (hx.1) (relL_cons (hl.dep 8 106 _ rfl rfl rfl hc) (relL_cons (hl.dep 12 110 _ rfl rfl rfl hc) relL_nil)) (jo hJ hx), trivial⟩ (nx (tr_fact (fun a w h => len_le h 0 rfl) fun hl10 => tr_ret (fun a w h => leave1' (m := 1) rfl (st_disown h) rfl (congrArg AV.bool (show ((decide (f.wide = ((joinF f.wide ([] : List Pr))))) && (decide (f.apart = ((f.wide.filter (inV ((occF d.vars ((f.text :: (essF f.hyps).map Hy.text)).flatten)))))))) = (strB d f) from by clear h; first | (rw [strB, q3]; rfl) | (rw [strB, e1, q5]; rfl) | (rw [strB, e1, e4, q7]; rfl) | (rw [strB, e1, e4, e6]; rfl)))))))))

theorem c_symbols {J : World → Prop} (hJ : Stab J) (d : Db)  : Fn Tryz.prog J 79 [.agg (dbC d)] (.int (symE d)) := by
 refine fn_enter (N := 63) Tryz.func79 rfl rfl (lb rfl) fun S w0 hS hJ0 => ?_
 clear hJ0
 refine k_seq (rg tb hJ [1000] [_, _] [0] [(_, .ptr (dbC d))] rfl rfl rfl rfl ⟨fun _ _ hk hx hl _ => r_box rfl (hl.env 0 0 _ rfl rfl) (hS _ hk.size) (js hJ hx), trivial⟩ (nx (k_seq (k_seq (rg tb hJ [0, 1000] [_] [] [(_, _), (_, .int (0 : Int))] rfl rfl rfl rfl trivial (nx (tr_block (tr_loop (ι := Nat) (fun (k : Nat) a w => ((k ≤ d.consts.length) ∧ (∀ j, j < k → cstE d j = 0)) ∧ St All S w0 63 [(1, .ptr (dbC d)), (3, .int (((k : Nat) : Int)))] J a w) (fun (k : Nat) => (d.consts.length - k : Nat)) ?_ ?_))))))))
 ·
  intro a w h
  exact ⟨0, (show (0 ≤ d.consts.length) ∧ (∀ j, j < 0 → cstE d j = 0) from ⟨Nat.zero_le _, fun j hj => by omega⟩), lz [0, 1] rfl h⟩
 ·
  rintro k
  refine tr_and fun hF => ?_
  obtain ⟨f1_1, f1_2⟩ := hF
  refine k_seq (k_seq (rg tb hJ [0, 1, 1002, 1004] [_, _, _, .int (((d.consts.length : Nat) : Int)), _] [3] [(_, _), (_, _), (_, .rd (strsC d.consts)), (_, .bool (decide (((k : Nat) : Int) < ((d.consts.length : Nat) : Int))))] rfl rfl rfl rfl ⟨hLen unds_22_9 rfl rfl rfl rfl, trivial⟩ (nx (tr_fact (fun a w h => len_le h 2 rfl) fun hl1 => tc 3 rfl rfl (fun hb1 => ?_) (fun hb1 => ?_)))))
  ·
   try simp at hb1
   refine tr_skip (nx (k_seq (tr_block (k_seq (k_seq (rg tb hJ [0, 1, 1006] [_, _, _, .ptr [.lit (.string (ge d.consts k))], _, .bool (symB (ge d.consts k)), _] [3, 5] [(_, _), (_, _), (_, .bool (!(symB (ge d.consts k))))] rfl rfl rfl rfl ⟨hIx elem_22_9_1 (by first | omega | (simp; omega) | grind [ge_mem]) rfl rfl rfl rfl rfl rfl, hFn hS hJ (c_IsSymbol hJ (s := (ge d.consts k)) ) call_104 rfl rfl rfl rfl, trivial⟩ (nx (tc 2 rfl rfl (fun hb2 => ?_) (fun hb2 => ?_)))))))))
   ·
    try simp at hb2
    have q2 : cstE d k = 2 := by simp [cstE, hb2]
    refine k_seq (rg tb hJ [1000] [_] [] [(_, .int (2 : Int))] rfl rfl rfl rfl trivial (nx (tr_ret (fun a w h => leave1' (m := 0) rfl h rfl (congrArg AV.int (show (2 : Int) = (symE d) from by first | (clear h; have := firstE_hit (by omega : k < d.consts.length) f1_2 (by rw [q2]; decide); rw [symE, this, q2]; rfl) | (clear h; have := firstE_hit (by omega : k < d.vars.length) f2_2 (by rw [q5]; decide); rw [symE, e1, this, q5]; rfl) | (rw [symE, e1, e4]; rfl)))))))
   ·
    try simp at hb2
    refine tr_skip (nx (k_seq (rg tb hJ [0, 1, 1003, 1009] [_, _, _, _, _, _, _, .ptr [.lit (.string (ge d.consts k))], _, _] [3, 7, 9] [(_, _), (_, _), (_, .rd (strsC (d.consts.take k))), (_, .bool (decide ((ge d.consts k) ∈ (d.consts.take k))))] rfl rfl rfl rfl ⟨fun _ _ _ hx hl _ => r_sliceE (ys := d.consts.take k) (lo := 0) (hi := k) List.drop_zero elem_22_9_1 (fun _ => rfl) rfl (hl.dep 1 20 _ rfl rfl rfl rfl) rfl (hl.dep 2 21 _ rfl rfl rfl rfl) (by first | omega | (simp; omega) | grind [ge_mem]) (by first | omega | (simp; omega) | grind [ge_mem]) hx, hIx elem_22_9_1 (by first | omega | (simp; omega) | grind [ge_mem]) rfl rfl rfl rfl rfl rfl, hFn hS hJ (c_Has hJ (xs := (d.consts.take k)) (s := (ge d.consts k)) ) call_105 rfl rfl rfl rfl, trivial⟩ (nx (tr_fact (fun a w h => len_le h 2 rfl) fun hl2 => tc 3 rfl rfl (fun hb3 => ?_) (fun hb3 => ?_))))))
    ·
     try simp at hb3
     have q2 : cstE d k = 6 := by simp [cstE, hb2, hb3]
     refine k_seq (rg tb hJ [1000] [_] [] [(_, .int (6 : Int))] rfl rfl rfl rfl trivial (nx (tr_ret (fun a w h => leave1' (m := 0) rfl h rfl (congrArg AV.int (show (6 : Int) = (symE d) from by first | (clear h; have := firstE_hit (by omega : k < d.consts.length) f1_2 (by rw [q2]; decide); rw [symE, this, q2]; rfl) | (clear h; have := firstE_hit (by omega : k < d.vars.length) f2_2 (by rw [q5]; decide); rw [symE, e1, this, q5]; rfl) | (rw [symE, e1, e4]; rfl)))))))
    ·
     try simp at hb3
     refine tr_skip (nx (rg tb hJ [0, 1002] [_, .int (((k + 1 : Nat) : Int)), _] [1] [(_, _), (_, .int (((k + 1 : Nat) : Int)))] rfl rfl rfl rfl ⟨hAdd (by first | omega | (simp; omega) | grind [ge_mem]) rfl rfl rfl rfl rfl, trivial⟩ ?_))
     intro a w h; change ∃ j, _ ∧ _
     exact ⟨k + 1, ⟨⟨(show (k + 1) ≤ d.consts.length from by omega), (show ∀ j, j < (k + 1) → cstE d j = 0 from step_all f1_2 (by simp_all [cstE]))⟩, lz [0, 1] rfl h⟩, (show d.consts.length - (k + 1) < d.consts.length - k from by first | omega | (simp; omega))⟩
  ·
   try simp at hb1
   have e1 : firstE d.consts.length (cstE d) = 0 := firstE_ok fun j hj => f1_2 j (by omega)
   refine tr_exit (nx (k_seq (k_seq (rg tb hJ [0, 1000] [_] [] [(_, _), (_, .int (0 : Int))] rfl rfl rfl rfl trivial (nx (tr_block (tr_loop (ι := Nat) (fun (k : Nat) a w => ((k ≤ d.vars.length) ∧ (∀ j, j < k → varE d j = 0)) ∧ St All S w0 63 [(1, .ptr (dbC d)), (4, .int (((k : Nat) : Int)))] J a w) (fun (k : Nat) => (d.vars.length - k : Nat)) ?_ ?_)))))))
   ·
    intro a w h
    exact ⟨0, (show (0 ≤ d.vars.length) ∧ (∀ j, j < 0 → varE d j = 0) from ⟨Nat.zero_le _, fun j hj => by omega⟩), lz [0, 1] rfl h⟩
   ·
    rintro k
    refine tr_and fun hF => ?_
    obtain ⟨f2_1, f2_2⟩ := hF
    refine k_seq (k_seq (rg tb hJ [0, 1, 1002, 1004] [_, _, _, .int (((d.vars.length : Nat) : Int)), _] [3] [(_, _), (_, _), (_, .rd (strsC d.vars)), (_, .bool (decide (((k : Nat) : Int) < ((d.vars.length : Nat) : Int))))] rfl rfl rfl rfl ⟨hLen unds_22_9 rfl rfl rfl rfl, trivial⟩ (nx (tr_fact (fun a w h => len_le h 2 rfl) fun hl3 => tc 3 rfl rfl (fun hb4 => ?_) (fun hb4 => ?_)))))
    ·
     try simp at hb4
     refine tr_skip (nx (k_seq (tr_block (k_seq (k_seq (rg tb hJ [0, 1, 1006] [_, _, _, .ptr [.lit (.string (ge d.vars k))], _, .bool (symB (ge d.vars k)), _] [3, 5] [(_, _), (_, _), (_, .bool (!(symB (ge d.vars k))))] rfl rfl rfl rfl ⟨hIx elem_22_9_1 (by first | omega | (simp; omega) | grind [ge_mem]) rfl rfl rfl rfl rfl rfl, hFn hS hJ (c_IsSymbol hJ (s := (ge d.vars k)) ) call_104 rfl rfl rfl rfl, trivial⟩ (nx (tc 2 rfl rfl (fun hb5 => ?_) (fun hb5 => ?_)))))))))
     ·
      try simp at hb5
      have q5 : varE d k = 2 := by simp [varE, hb5]
      refine k_seq (rg tb hJ [1000] [_] [] [(_, .int (2 : Int))] rfl rfl rfl rfl trivial (nx (tr_ret (fun a w h => leave1' (m := 0) rfl h rfl (congrArg AV.int (show (2 : Int) = (symE d) from by first | (clear h; have := firstE_hit (by omega : k < d.consts.length) f1_2 (by rw [q2]; decide); rw [symE, this, q2]; rfl) | (clear h; have := firstE_hit (by omega : k < d.vars.length) f2_2 (by rw [q5]; decide); rw [symE, e1, this, q5]; rfl) | (rw [symE, e1, e4]; rfl)))))))
     ·
      try simp at hb5
      refine tr_skip (nx (k_seq (rg tb hJ [0, 1, 1019] [_, _, _, _, _, .ptr [.lit (.string (ge d.vars k))], _, .bool (decide ((ge d.vars k) ∈ d.consts)), _, _, _, _, .rd (strsC (d.vars.take k)), _, _, _, .ptr [.lit (.string (ge d.vars k))], _, .bool (decide ((ge d.vars k) ∈ (d.vars.take k))), _] [5, 7, 12, 16, 18] [(_, _), (_, _), (_, .bool ((decide ((ge d.vars k) ∈ d.consts)) || (decide ((ge d.vars k) ∈ (d.vars.take k)))))] rfl rfl rfl rfl ⟨hIx elem_22_9_1 (by first | omega | (simp; omega) | grind [ge_mem]) rfl rfl rfl rfl rfl rfl, hFn hS hJ (c_Has hJ (xs := d.consts) (s := (ge d.vars k)) ) call_105 rfl rfl rfl rfl, fun _ _ _ hx hl hc => r_sliceE (ys := d.vars.take k) (lo := 0) (hi := k) List.drop_zero elem_22_9_1 (fun _ => rfl) rfl (hl.dep 10 53 _ rfl rfl rfl hc) rfl (hl.dep 11 54 _ rfl rfl rfl hc) (by have hc' : (((decide ((ge d.vars k) ∈ d.consts)) == false)) = true := hc; (try simp at hc'); (first | omega | (simp; omega) | grind [ge_mem])) (by have hc' : (((decide ((ge d.vars k) ∈ d.consts)) == false)) = true := hc; (try simp at hc'); (first | omega | (simp; omega) | grind [ge_mem])) hx, fun _ _ _ hx hl hc => r_index (i := ((k : Nat) : Int)) elem_22_9_1 rfl (hl.dep 14 57 _ rfl rfl rfl hc) (hl.dep 15 58 _ rfl rfl rfl hc) (Int.natCast_nonneg _) (row_nat (xs := d.vars) (k := k) (by have hc' : (((decide ((ge d.vars k) ∈ d.consts)) == false)) = true := hc; (try simp at hc'); (first | omega | (simp; omega) | grind [ge_mem]))) rfl hx, fun _ _ hk hx hl hc => r_fn (c_Has hJ (xs := (d.vars.take k)) (s := (ge d.vars k)) ) call_105 rfl (nm hS hk) (hx) (relL_cons (hl.dep 12 55 _ rfl rfl rfl hc) (relL_cons (hl.dep 17 60 _ rfl rfl rfl hc) relL_nil)) (js hJ hx), trivial⟩ (nx (tc 2 rfl rfl (fun hb6 => ?_) (fun hb6 => ?_))))))
      ·
       try simp at hb6
       have q5 : varE d k = 6 := by simp_all [varE]
       refine k_seq (rg tb hJ [1000] [_] [] [(_, .int (6 : Int))] rfl rfl rfl rfl trivial (nx (tr_ret (fun a w h => leave1' (m := 0) rfl h rfl (congrArg AV.int (show (6 : Int) = (symE d) from by first | (clear h; have := firstE_hit (by omega : k < d.consts.length) f1_2 (by rw [q2]; decide); rw [symE, this, q2]; rfl) | (clear h; have := firstE_hit (by omega : k < d.vars.length) f2_2 (by rw [q5]; decide); rw [symE, e1, this, q5]; rfl) | (rw [symE, e1, e4]; rfl)))))))
      ·
       try simp at hb6
       refine tr_skip (nx (rg tb hJ [0, 1002] [_, .int (((k + 1 : Nat) : Int)), _] [1] [(_, _), (_, .int (((k + 1 : Nat) : Int)))] rfl rfl rfl rfl ⟨hAdd (by first | omega | (simp; omega) | grind [ge_mem]) rfl rfl rfl rfl rfl, trivial⟩ ?_))
       intro a w h; change ∃ j, _ ∧ _
       exact ⟨k + 1, ⟨⟨(show (k + 1) ≤ d.vars.length from by omega), (show ∀ j, j < (k + 1) → varE d j = 0 from step_all f2_2 (by simp_all [varE]))⟩, lz [0, 1] rfl h⟩, (show d.vars.length - (k + 1) < d.vars.length - k from by first | omega | (simp; omega))⟩
    ·
     try simp at hb4
     have e4 : firstE d.vars.length (varE d) = 0 := firstE_ok fun j hj => f2_2 j (by omega)
     refine tr_exit (nx (k_seq (rg tb hJ [1000] [_] [] [(_, .int (0 : Int))] rfl rfl rfl rfl trivial (nx (tr_ret (fun a w h => leave1' (m := 0) rfl h rfl (congrArg AV.int (show (0 : Int) = (symE d) from by first | (clear h; have := firstE_hit (by omega : k < d.consts.length) f1_2 (by rw [q2]; decide); rw [symE, this, q2]; rfl) | (clear h; have := firstE_hit (by omega : k < d.vars.length) f2_2 (by rw [q5]; decide); rw [symE, e1, this, q5]; rfl) | (rw [symE, e1, e4]; rfl)))))))))

end Go.Proofs.YtnpgmdffjemnbaaGreatDoor
set_option maxHeartbeats 8000000
set_option maxRecDepth 100000
namespace Go.Proofs.YtnpgmdffjemnbaaGreatDoor
open Go.RowKit

theorem c_frame {J : World → Prop} (hJ : Stab J) (d : Db) (k : Nat) (hk0 : k < d.frames.length) (hf : d.frames.length ≤ 400) (hv : d.vars.length ≤ 8000) (hz : ∀ i, i < k → (ge d.frames i).hyps.length ≤ 40 ∧ (ge d.frames i).dummies.length ≤ 40) (hw : (ge d.frames k).wide.length * 32 ≤ 140737488351232) : Fn Tryz.prog J 80 [.agg (dbC d), .int (((k : Nat) : Int))] (.int (frE d k)) := by
 refine fn_enter (N := 154) Tryz.func80 rfl rfl (lb rfl) fun S w0 hS hJ0 => ?_
 clear hJ0
 refine k_seq (rg tb hJ [1, 1000] [_, _] [0] [(_, _), (_, .ptr (dbC d))] rfl rfl rfl rfl ⟨fun _ _ hk hx hl _ => r_box rfl (hl.env 0 0 _ rfl rfl) (hS _ hk.size) (js hJ hx), trivial⟩ (nx (k_seq (tr_text (sv (av := .ptr [frsC d.frames]) tb rfl rfl rfl rfl (sv (av := .rd (frsC d.frames)) tb rfl rfl rfl rfl (sv tb rfl rfl rfl rfl (sq (.ptr (frC (ge d.frames k))) rfl rfl (lb rfl) (fun _ _ h => r_index (i := ((k : Nat) : Int)) elem_23_59_8 rfl (h.get 1 rfl) (h.get 0 rfl) (Int.natCast_nonneg _) (row_nat (xs := d.frames) (k := k) (by first | omega | (simp; omega) | grind [ge_mem])) rfl h.x) (sv (av := .agg (frC (ge d.frames k))) tb rfl rfl rfl rfl (sq_var (cs := frC (ge d.frames k)) var_59_8 rfl rfl rfl (lb rfl) rfl rfl rfl (by decide) (m := 0) rfl rfl (fun a w h => hS _ h.keep.size) (fun a w h w' hk' => hJ _ _ hk' h.x) (sq_end ?_)))))))))))
 refine kw (lz [0, 4, 6, 7] (env' := [(_, _), (_, _), (_, _), (_, _)]) rfl) ?_
 refine nx (tr_fact (fun a w h => len_le h 1 rfl) fun hl1 => k_seq (k_seq (rg tb hJ [0, 2, 3, 1003] [_, _, .bool (labB ((ge d.frames k).label)), _] [2] [(_, _), (_, _), (_, _), (_, .bool (!(labB ((ge d.frames k).label))))] rfl rfl rfl rfl ⟨hFn hS hJ (c_IsLabel hJ (s := ((ge d.frames k).label)) ) call_106 rfl rfl rfl rfl, trivial⟩ (nx (tc 3 rfl rfl (fun hb1 => ?_) (fun hb1 => ?_))))))
 ·
  try simp at hb1
  refine k_seq (rg tb hJ [1000] [_] [] [(_, .int (2 : Int))] rfl rfl rfl rfl trivial (nx (tr_ret (fun a w h => leave1' (m := 0) rfl h rfl (congrArg AV.int (show (2 : Int) = (frE d k) from by clear h; first | (show lstG d k j = _; have q6 : lstG d k j ≠ 0 := nd_t hb5; rw [frE, frmE]; grind) | (rw [frE, frmE]; grind)))))))
 ·
  try simp at hb1
  refine tr_skip (nx (k_seq (k_seq (rg tb hJ [0, 1, 2, 1008, 1009] [_, _, _, _, .tup [.bool (frL d k ((ge d.frames k).label)), .bool (hyL d k ((ge d.frames k).label))], _, _, _, _, _] [4] [(_, _), (_, _), (_, _), (_, .bool (frL d k ((ge d.frames k).label))), (_, .bool (hyL d k ((ge d.frames k).label)))] rfl rfl rfl rfl ⟨hFn hS hJ (c_label hJ (d := d) (n := k) (s := ((ge d.frames k).label)) (by first | omega | (simp; omega) | grind [ge_mem]) (hz)) call_107 rfl rfl rfl rfl, trivial⟩ (nx (k_seq (rg tb hJ [0, 1, 2, 1009] [_, _, _, _, _, _, _, _, .bool (symD d ((ge d.frames k).label)), _] [8] [(_, _), (_, _), (_, _), (_, .bool (((frL d k ((ge d.frames k).label)) || (hyL d k ((ge d.frames k).label))) || (symD d ((ge d.frames k).label))))] rfl rfl rfl rfl ⟨fun _ _ hk hx hl hc => r_fn (c_symbol hJ (d := d) (s := ((ge d.frames k).label)) ) call_108 rfl (nm hS hk) (hx) (relL_cons (hl.dep 5 39 _ rfl rfl rfl hc) (relL_cons (hl.dep 7 41 _ rfl rfl rfl hc) relL_nil)) (js hJ hx), trivial⟩ (nx (tc 3 rfl rfl (fun hb2 => ?_) (fun hb2 => ?_))))))))))
  ·
   refine k_seq (rg tb hJ [1000] [_] [] [(_, .int (6 : Int))] rfl rfl rfl rfl trivial (nx (tr_ret (fun a w h => leave1' (m := 0) rfl h rfl (congrArg AV.int (show (6 : Int) = (frE d k) from by clear h; first | (show lstG d k j = _; have q6 : lstG d k j ≠ 0 := nd_t hb5; rw [frE, frmE]; grind) | (rw [frE, frmE]; grind)))))))
  ·
   refine tr_skip (nx (k_seq (k_seq (rg tb hJ [0, 1, 2, 1001, 1009] [_, _, .int (((((ge d.frames k).hyps).length : Nat) : Int)), _, _, _, _, .int (((((ge d.frames k).dummies).length : Nat) : Int)), _, _] [2, 7] [(_, _), (_, _), (_, _), (_, .rd (hysC ((ge d.frames k).hyps))), (_, .bool ((decide ((40 : Int) < ((((ge d.frames k).hyps).length : Nat) : Int))) || (decide ((40 : Int) < ((((ge d.frames k).dummies).length : Nat) : Int)))))] rfl rfl rfl rfl ⟨hLen unds_56_109 rfl rfl rfl rfl, fun _ _ _ hx hl hc => r_lenM unds_56_109 rfl (hl.dep 6 50 _ rfl rfl rfl hc) hx, trivial⟩ (nx (tr_fact (fun a w h => len_le h 3 rfl) fun hl2 => tc 4 rfl rfl (fun hb3 => ?_) (fun hb3 => ?_)))))))
   ·
    refine k_seq (rg tb hJ [1000] [_] [] [(_, .int (4 : Int))] rfl rfl rfl rfl trivial (nx (tr_ret (fun a w h => leave1' (m := 0) rfl h rfl (congrArg AV.int (show (4 : Int) = (frE d k) from by clear h; first | (show lstG d k j = _; have q6 : lstG d k j ≠ 0 := nd_t hb5; rw [frE, frmE]; grind) | (rw [frE, frmE]; grind)))))))
   ·
    have e3 : (ge d.frames k).hyps.length ≤ 40 ∧ (ge d.frames k).dummies.length ≤ 40 := by simp at hb3; omega
    refine tr_skip (nx (k_seq (rg tb hJ [0, 1, 2, 1001, 1002] [_, _, _] [1] [(_, _), (_, _), (_, _), (_, .rd (hysC (((ge d.frames k).hyps ++ (ge d.frames k).dummies)))), (_, .rd (hysC (((ge d.frames k).hyps ++ (ge d.frames k).dummies))))] rfl rfl rfl rfl ⟨hFn hS hJ (c_All hJ (f := (ge d.frames k)) (by first | omega | (simp; omega) | grind [ge_mem])) call_109 rfl rfl rfl rfl, trivial⟩ (nx (tr_fact (fun a w h => len_le h 3 rfl) fun hl3 => k_seq (k_seq (rg tb hJ [0, 1, 2, 4, 1000] [_] [] [(_, _), (_, _), (_, _), (_, _), (_, .int (0 : Int))] rfl rfl rfl rfl trivial (nx (tr_block (tr_loop (ι := Nat) (fun (j : Nat) a w => ((j ≤ ((ge d.frames k).hyps ++ (ge d.frames k).dummies).length) ∧ (∀ i, i < j → lstG d k i = 0)) ∧ St All S w0 154 [(5, .ptr (frC (ge d.frames k))), (1, .int (((k : Nat) : Int))), (2, .ptr (dbC d)), (8, .rd (hysC (((ge d.frames k).hyps ++ (ge d.frames k).dummies)))), (9, .int (((j : Nat) : Int)))] J a w) (fun (j : Nat) => (((ge d.frames k).hyps ++ (ge d.frames k).dummies).length - j : Nat)) ?_ ?_))))))))))
    ·
     intro a w h
     exact ⟨0, (show (0 ≤ ((ge d.frames k).hyps ++ (ge d.frames k).dummies).length) ∧ (∀ i, i < 0 → lstG d k i = 0) from ⟨Nat.zero_le _, fun j hj => by omega⟩), lz [0, 1, 2, 3, 4] rfl h⟩
    ·
     rintro j
     refine tr_and fun hF => ?_
     obtain ⟨f1_1, f1_2⟩ := hF
     refine k_seq (k_seq (rg tb hJ [0, 1, 2, 3, 4, 1003] [_, _, .int ((((((ge d.frames k).hyps ++ (ge d.frames k).dummies)).length : Nat) : Int)), _] [2] [(_, _), (_, _), (_, _), (_, _), (_, _), (_, .bool (decide (((j : Nat) : Int) < (((((ge d.frames k).hyps ++ (ge d.frames k).dummies)).length : Nat) : Int))))] rfl rfl rfl rfl ⟨hLen unds_56_109 rfl rfl rfl rfl, trivial⟩ (nx (tc 5 rfl rfl (fun hb4 => ?_) (fun hb4 => ?_)))))
     ·
      try simp at hb4
      refine tr_skip (nx (k_seq (tr_block (k_seq (rg tb hJ [0, 1, 2, 3, 4, 1008, 1015] [_, _, _, _, .ptr (hyC ((ge (((ge d.frames k).hyps ++ (ge d.frames k).dummies)) j))), _, _, _, _, _, _, _, .int (((((ge d.frames k).hyps).length : Nat) : Int)), _, .int (hypE d k ((ge (((ge d.frames k).hyps ++ (ge d.frames k).dummies)) j)) ((((ge d.frames k).hyps ++ (ge d.frames k).dummies)).take j) (decide (((((ge d.frames k).hyps).length : Nat) : Int) ≤ ((j : Nat) : Int)))), _] [4, 8, 12, 14] [(_, _), (_, _), (_, _), (_, _), (_, _), (_, .rd (hysC ((((ge d.frames k).hyps ++ (ge d.frames k).dummies)).take j))), (_, .int (hypE d k ((ge (((ge d.frames k).hyps ++ (ge d.frames k).dummies)) j)) ((((ge d.frames k).hyps ++ (ge d.frames k).dummies)).take j) (decide (((((ge d.frames k).hyps).length : Nat) : Int) ≤ ((j : Nat) : Int)))))] rfl rfl rfl rfl ⟨hIx elem_56_109_3 (by first | omega | (simp; omega) | grind [ge_mem]) rfl rfl rfl rfl rfl rfl, fun _ _ _ hx hl _ => r_sliceE (ys := (((ge d.frames k).hyps ++ (ge d.frames k).dummies)).take j) (lo := 0) (hi := j) List.drop_zero elem_56_109_3 (fun _ => rfl) rfl (hl.dep 6 68 _ rfl rfl rfl rfl) rfl (hl.dep 7 69 _ rfl rfl rfl rfl) (by first | omega | (simp; omega) | grind [ge_mem]) (by first | omega | (simp; omega) | grind [ge_mem]) hx, hLen unds_56_109 rfl rfl rfl rfl, hFn hS hJ (c_hypothesis hJ (d := d) (k := k) (y := ((ge (((ge d.frames k).hyps ++ (ge d.frames k).dummies)) j))) (bs := ((((ge d.frames k).hyps ++ (ge d.frames k).dummies)).take j)) (dm := (decide (((((ge d.frames k).hyps).length : Nat) : Int) ≤ ((j : Nat) : Int)))) (by first | omega | (simp; omega) | grind [ge_mem]) (by first | omega | (simp; omega) | grind [ge_mem]) (by intro i hi; by_cases e : i = k; (subst e; exact e3); exact hz i (by omega)) (by have := List.length_take_le' j ((ge d.frames k).hyps ++ (ge d.frames k).dummies); simp at this ⊢; omega)) call_110 rfl rfl rfl rfl, trivial⟩ (nx (tr_fact (fun a w h => len_le h 5 rfl) fun hl4 => k_seq (rg tb hJ [0, 1, 2, 3, 4, 6, 1001] [_, _] [] [(_, _), (_, _), (_, _), (_, _), (_, _), (_, _), (_, .bool (!decide (hypE d k ((ge (((ge d.frames k).hyps ++ (ge d.frames k).dummies)) j)) ((((ge d.frames k).hyps ++ (ge d.frames k).dummies)).take j) (decide (((((ge d.frames k).hyps).length : Nat) : Int) ≤ ((j : Nat) : Int))) = (0 : Int))))] rfl rfl rfl rfl trivial (nx (tc 6 rfl rfl (fun hb5 => ?_) (fun hb5 => ?_)))))))))))
      ·
       have q5 : lstE d k = lstG d k j := firstE_hit (by simp; omega) f1_2 (nd_t hb5)
       refine k_seq (rg tb hJ [1001] [_, _] [] [(_, .int (hypE d k ((ge (((ge d.frames k).hyps ++ (ge d.frames k).dummies)) j)) ((((ge d.frames k).hyps ++ (ge d.frames k).dummies)).take j) (decide (((((ge d.frames k).hyps).length : Nat) : Int) ≤ ((j : Nat) : Int)))))] rfl rfl rfl rfl trivial (nx (tr_ret (fun a w h => leave1' (m := 0) rfl h rfl (congrArg AV.int (show (hypE d k ((ge (((ge d.frames k).hyps ++ (ge d.frames k).dummies)) j)) ((((ge d.frames k).hyps ++ (ge d.frames k).dummies)).take j) (decide (((((ge d.frames k).hyps).length : Nat) : Int) ≤ ((j : Nat) : Int)))) = (frE d k) from by clear h; first | (show lstG d k j = _; have q6 : lstG d k j ≠ 0 := nd_t hb5; rw [frE, frmE]; grind) | (rw [frE, frmE]; grind)))))))
      ·
       refine tr_skip (nx (rg tb hJ [0, 1, 2, 3, 1002] [_, .int (((j + 1 : Nat) : Int)), _] [1] [(_, _), (_, _), (_, _), (_, _), (_, .int (((j + 1 : Nat) : Int)))] rfl rfl rfl rfl ⟨hAdd (by first | omega | (simp; omega) | grind [ge_mem]) rfl rfl rfl rfl rfl, trivial⟩ ?_))
       intro a w h; change ∃ j, _ ∧ _
       exact ⟨j + 1, ⟨⟨(show (j + 1) ≤ ((ge d.frames k).hyps ++ (ge d.frames k).dummies).length from by simp; omega), (show ∀ i, i < (j + 1) → lstG d k i = 0 from step_all f1_2 (nd_f hb5))⟩, lz [0, 1, 2, 3, 4] rfl h⟩, (show ((ge d.frames k).hyps ++ (ge d.frames k).dummies).length - (j + 1) < ((ge d.frames k).hyps ++ (ge d.frames k).dummies).length - j from by first | omega | (simp; omega))⟩
     ·
      try simp at hb4
      have e4 : lstE d k = 0 := firstE_ok fun i hi => f1_2 i (by simp at hb4 hi; omega)
      refine tr_exit (nx (k_seq (k_seq (rg tb hJ [0, 1, 2, 1001, 1009] [_, _, .int (((((ge d.frames k).text).length : Nat) : Int)), _, _, _, _, .int (((((ge d.frames k).text).length : Nat) : Int)), _, _] [2, 7] [(_, _), (_, _), (_, _), (_, .rd (strsC ((ge d.frames k).text))), (_, .bool ((decide (((((ge d.frames k).text).length : Nat) : Int) = (0 : Int))) || (decide ((200 : Int) < ((((ge d.frames k).text).length : Nat) : Int)))))] rfl rfl rfl rfl ⟨hLen unds_22_9 rfl rfl rfl rfl, fun _ _ _ hx hl hc => r_lenM unds_22_9 rfl (hl.dep 6 86 _ rfl rfl rfl hc) hx, trivial⟩ (nx (tr_fact (fun a w h => len_le h 3 rfl) fun hl5 => tc 4 rfl rfl (fun hb6 => ?_) (fun hb6 => ?_)))))))
      ·
       refine k_seq (rg tb hJ [1000] [_] [] [(_, .int (2 : Int))] rfl rfl rfl rfl trivial (nx (tr_ret (fun a w h => leave1' (m := 0) rfl h rfl (congrArg AV.int (show (2 : Int) = (frE d k) from by clear h; first | (show lstG d k j = _; have q6 : lstG d k j ≠ 0 := nd_t hb5; rw [frE, frmE]; grind) | (rw [frE, frmE]; grind)))))))
      ·
       refine tr_skip (nx (k_seq (k_seq (rg tb hJ [0, 1, 2, 1004] [_, _, _, .int (formE d ((ge d.frames k).text)), _] [3] [(_, _), (_, _), (_, _), (_, .int (formE d ((ge d.frames k).text)))] rfl rfl rfl rfl ⟨hFn hS hJ (c_formula hJ (d := d) (l := ((ge d.frames k).text)) (by first | omega | (simp; omega) | grind [ge_mem])) call_111 rfl rfl rfl rfl, trivial⟩ (nx (k_seq (rg tb hJ [0, 1, 2, 3, 1001] [_, _] [] [(_, _), (_, _), (_, _), (_, _), (_, .bool (!decide (formE d ((ge d.frames k).text) = (0 : Int))))] rfl rfl rfl rfl trivial (nx (tc 4 rfl rfl (fun hb7 => ?_) (fun hb7 => ?_))))))))))
       ·
        try simp at hb7
        refine k_seq (rg tb hJ [1001] [_, _] [] [(_, .int (formE d ((ge d.frames k).text)))] rfl rfl rfl rfl trivial (nx (tr_ret (fun a w h => leave1' (m := 0) rfl h rfl (congrArg AV.int (show (formE d ((ge d.frames k).text)) = (frE d k) from by clear h; first | (show lstG d k j = _; have q6 : lstG d k j ≠ 0 := nd_t hb5; rw [frE, frmE]; grind) | (rw [frE, frmE]; grind)))))))
       ·
        try simp at hb7
        refine tr_skip (nx (k_seq (k_seq (rg tb hJ [0, 1, 2, 1003] [_, _, .bool (strB d (ge d.frames k)), _] [2] [(_, _), (_, _), (_, _), (_, .bool (!(strB d (ge d.frames k))))] rfl rfl rfl rfl ⟨hFn hS hJ (c_structure hJ (d := d) (f := (ge d.frames k)) (by first | omega | (simp; omega) | grind [ge_mem]) (by first | omega | (simp; omega) | grind [ge_mem]) (hw) (fun h hh => lstE_two e4 h (by simp [hh]))) call_112 rfl rfl rfl rfl, trivial⟩ (nx (tc 3 rfl rfl (fun hb8 => ?_) (fun hb8 => ?_)))))))
        ·
         try simp at hb8
         refine k_seq (rg tb hJ [1000] [_] [] [(_, .int (70 : Int))] rfl rfl rfl rfl trivial (nx (tr_ret (fun a w h => leave1' (m := 0) rfl h rfl (congrArg AV.int (show (70 : Int) = (frE d k) from by clear h; first | (show lstG d k j = _; have q6 : lstG d k j ≠ 0 := nd_t hb5; rw [frE, frmE]; grind) | (rw [frE, frmE]; grind)))))))
        ·
         try simp at hb8
         refine tr_skip (nx (k_seq (k_seq (rg tb hJ [0, 1, 2, 1001, 1014] [_, _, .int (((((ge d.frames k).proof).length : Nat) : Int)), _, _, _, _, _, _, _, _, _, .int (((((ge d.frames k).proof).length : Nat) : Int)), _, _] [2, 12] [(_, _), (_, _), (_, _), (_, .rd (strsC ((ge d.frames k).proof))), (_, .bool (((decide ((0 : Int) < ((((ge d.frames k).proof).length : Nat) : Int))) && (!((ge d.frames k).thm))) || (decide ((8000 : Int) < ((((ge d.frames k).proof).length : Nat) : Int)))))] rfl rfl rfl rfl ⟨hLen unds_22_9 rfl rfl rfl rfl, fun _ _ _ hx hl hc => r_lenM unds_22_9 rfl (hl.dep 11 112 _ rfl rfl rfl hc) hx, trivial⟩ (nx (tr_fact (fun a w h => len_le h 3 rfl) fun hl6 => tc 4 rfl rfl (fun hb9 => ?_) (fun hb9 => ?_)))))))
         ·
          refine k_seq (rg tb hJ [1000] [_] [] [(_, .int (2 : Int))] rfl rfl rfl rfl trivial (nx (tr_ret (fun a w h => leave1' (m := 0) rfl h rfl (congrArg AV.int (show (2 : Int) = (frE d k) from by clear h; first | (show lstG d k j = _; have q6 : lstG d k j ≠ 0 := nd_t hb5; rw [frE, frmE]; grind) | (rw [frE, frmE]; grind)))))))
         ·
          refine tr_skip (nx (k_seq (k_seq (rg tb hJ [0, 1, 2, 1000] [_] [] [(_, _), (_, _), (_, _), (_, .int (0 : Int))] rfl rfl rfl rfl trivial (nx (tr_block (tr_loop (ι := Nat) (fun (j : Nat) a w => ((j ≤ (ge d.frames k).proof.length) ∧ (((ge d.frames k).proof.take j).all proofB = true)) ∧ St All S w0 154 [(5, .ptr (frC (ge d.frames k))), (1, .int (((k : Nat) : Int))), (2, .ptr (dbC d)), (12, .int (((j : Nat) : Int)))] J a w) (fun (j : Nat) => ((ge d.frames k).proof.length - j : Nat)) ?_ ?_)))))))
          ·
           intro a w h
           exact ⟨0, (show (0 ≤ (ge d.frames k).proof.length) ∧ (((ge d.frames k).proof.take 0).all proofB = true) from ⟨Nat.zero_le _, rfl⟩), lz [0, 1, 2, 3] rfl h⟩
          ·
           rintro j
           refine tr_and fun hF => ?_
           obtain ⟨f2_1, f2_2⟩ := hF
           refine k_seq (k_seq (rg tb hJ [0, 1, 2, 3, 1004] [_, _, _, .int (((((ge d.frames k).proof).length : Nat) : Int)), _] [3] [(_, _), (_, _), (_, _), (_, _), (_, .bool (decide (((j : Nat) : Int) < ((((ge d.frames k).proof).length : Nat) : Int))))] rfl rfl rfl rfl ⟨hLen unds_22_9 rfl rfl rfl rfl, trivial⟩ (nx (tc 4 rfl rfl (fun hb10 => ?_) (fun hb10 => ?_)))))
           ·
            try simp at hb10
            refine tr_skip (nx (k_seq (tr_block (k_seq (rg tb hJ [0, 1, 2, 3, 1006] [_, _, _, .ptr [.lit (.string ((ge ((ge d.frames k).proof) j)))], _, .bool (proofB ((ge ((ge d.frames k).proof) j))), _] [3, 5] [(_, _), (_, _), (_, _), (_, _), (_, .bool (!(proofB ((ge ((ge d.frames k).proof) j)))))] rfl rfl rfl rfl ⟨hIx elem_22_9_1 (by first | omega | (simp; omega) | grind [ge_mem]) rfl rfl rfl rfl rfl rfl, hFn hS hJ (c_IsProof hJ (s := ((ge ((ge d.frames k).proof) j))) ) call_113 rfl rfl rfl rfl, trivial⟩ (nx (tc 4 rfl rfl (fun hb11 => ?_) (fun hb11 => ?_))))))))
            ·
             try simp at hb11
             have q11 : (ge d.frames k).proof.all proofB = false := not_all_ge hb10 hb11
             refine k_seq (rg tb hJ [1000] [_] [] [(_, .int (2 : Int))] rfl rfl rfl rfl trivial (nx (tr_ret (fun a w h => leave1' (m := 0) rfl h rfl (congrArg AV.int (show (2 : Int) = (frE d k) from by clear h; first | (show lstG d k j = _; have q6 : lstG d k j ≠ 0 := nd_t hb5; rw [frE, frmE]; grind) | (rw [frE, frmE]; grind)))))))
            ·
             try simp at hb11
             refine tr_skip (nx (rg tb hJ [0, 1, 2, 1002] [_, .int (((j + 1 : Nat) : Int)), _] [1] [(_, _), (_, _), (_, _), (_, .int (((j + 1 : Nat) : Int)))] rfl rfl rfl rfl ⟨hAdd (by first | omega | (simp; omega) | grind [ge_mem]) rfl rfl rfl rfl rfl, trivial⟩ ?_))
             intro a w h; change ∃ j, _ ∧ _
             exact ⟨j + 1, ⟨⟨(show (j + 1) ≤ (ge d.frames k).proof.length from by omega), (show ((ge d.frames k).proof.take (j + 1)).all proofB = true from by rw [all_take_succ (by omega), f2_2]; simpa using hb11)⟩, lz [0, 1, 2, 3] rfl h⟩, (show (ge d.frames k).proof.length - (j + 1) < (ge d.frames k).proof.length - j from by first | omega | (simp; omega))⟩
           ·
            try simp at hb10
            have e10 : (ge d.frames k).proof.all proofB = true := by rw [← take_all (xs := (ge d.frames k).proof) (by omega)]; exact f2_2
            refine tr_exit (nx (k_seq (rg tb hJ [1, 2, 1001, 1002] [_, _, _] [1] [(_, _), (_, _), (_, .rd (strsC (((essF (ge d.frames k).hyps).map Hy.label)))), (_, .rd (strsC (((essF (ge d.frames k).hyps).map Hy.label))))] rfl rfl rfl rfl ⟨hFn hS hJ (c_Essentials hJ (f := (ge d.frames k)) (by first | omega | (simp; omega) | grind [ge_mem])) call_114 rfl rfl rfl rfl, trivial⟩ (nx (tr_fact (fun a w h => len_le h 2 rfl) fun hl7 => k_seq (k_seq (rg tb hJ [0, 1, 3, 1002, 1005] [_, _, _, _, .int (((comL (befL d k) (((essF (ge d.frames k).hyps).map Hy.label)) : Nat) : Int)), _] [2, 4] [(_, _), (_, _), (_, _), (_, .rd (strsC (befL d k))), (_, .int (((comL (befL d k) (((essF (ge d.frames k).hyps).map Hy.label)) : Nat) : Int)))] rfl rfl rfl rfl ⟨hFn hS hJ (c_before hJ (d := d) (k := k) (by first | omega | (simp; omega) | grind [ge_mem]) (by first | omega | (simp; omega) | grind [ge_mem]) (fun h => (hz (k - 1) (by omega)).1)) call_116 rfl rfl rfl rfl, hFn hS hJ (c_common hJ (xs := (befL d k)) (ys := (((essF (ge d.frames k).hyps).map Hy.label))) ) call_115 rfl rfl rfl rfl, trivial⟩ (nx (tr_fact (fun a w h => len_le h 3 rfl) fun hl8 => tr_block (tr_loop (ι := Nat) (fun (m : Nat) a w => ((comL (befL d k) ((essF (ge d.frames k).hyps).map Hy.label) ≤ m) ∧ (m ≤ ((essF (ge d.frames k).hyps).map Hy.label).length) ∧ (∀ i, comL (befL d k) ((essF (ge d.frames k).hyps).map Hy.label) ≤ i → i < m → hyL d k (ge ((essF (ge d.frames k).hyps).map Hy.label) i) = false)) ∧ St All S w0 154 [(1, .int (((k : Nat) : Int))), (2, .ptr (dbC d)), (13, .rd (strsC (((essF (ge d.frames k).hyps).map Hy.label)))), (14, .int (((m : Nat) : Int)))] J a w) (fun (m : Nat) => (((essF (ge d.frames k).hyps).map Hy.label).length - m : Nat)) ?_ ?_))))))))))
            ·
             intro a w h
             exact ⟨comL (befL d k) ((essF (ge d.frames k).hyps).map Hy.label), (show (comL (befL d k) ((essF (ge d.frames k).hyps).map Hy.label) ≤ (comL (befL d k) ((essF (ge d.frames k).hyps).map Hy.label))) ∧ ((comL (befL d k) ((essF (ge d.frames k).hyps).map Hy.label)) ≤ ((essF (ge d.frames k).hyps).map Hy.label).length) ∧ (∀ i, comL (befL d k) ((essF (ge d.frames k).hyps).map Hy.label) ≤ i → i < (comL (befL d k) ((essF (ge d.frames k).hyps).map Hy.label)) → hyL d k (ge ((essF (ge d.frames k).hyps).map Hy.label) i) = false) from ⟨Nat.le_refl _, comL_le _ _, fun i h1 h2 => by omega⟩), lz [0, 1, 2, 4] rfl h⟩
            ·
             rintro m
             refine tr_and fun hF => ?_
             obtain ⟨f3_1, f3_2, f3_3⟩ := hF
             refine k_seq (k_seq (rg tb hJ [0, 1, 2, 3, 1003] [_, _, .int ((((((essF (ge d.frames k).hyps).map Hy.label)).length : Nat) : Int)), _] [2] [(_, _), (_, _), (_, _), (_, _), (_, .bool (decide (((m : Nat) : Int) < (((((essF (ge d.frames k).hyps).map Hy.label)).length : Nat) : Int))))] rfl rfl rfl rfl ⟨hLen unds_22_9 rfl rfl rfl rfl, trivial⟩ (nx (tc 4 rfl rfl (fun hb12 => ?_) (fun hb12 => ?_)))))
             ·
              replace hb12 : m < ((essF (ge d.frames k).hyps).map Hy.label).length := by have := of_decide_eq_true hb12; omega
              refine tr_skip (nx (k_seq (tr_block (k_seq (rg tb hJ [0, 1, 2, 3, 1011] [_, _, _, _, .ptr [.lit (.string ((ge (((essF (ge d.frames k).hyps).map Hy.label)) m)))], _, .tup [.bool (frL d k ((ge (((essF (ge d.frames k).hyps).map Hy.label)) m))), .bool (hyL d k ((ge (((essF (ge d.frames k).hyps).map Hy.label)) m)))], _, _, _, _, _] [4, 6] [(_, _), (_, _), (_, _), (_, _), (_, .bool (hyL d k ((ge (((essF (ge d.frames k).hyps).map Hy.label)) m))))] rfl rfl rfl rfl ⟨hIx elem_22_9_1 (by first | omega | (simp; omega) | grind [ge_mem]) rfl rfl rfl rfl rfl rfl, hFn hS hJ (c_label hJ (d := d) (n := k) (s := ((ge (((essF (ge d.frames k).hyps).map Hy.label)) m))) (by first | omega | (simp; omega) | grind [ge_mem]) (hz)) call_107 rfl rfl rfl rfl, trivial⟩ (nx (k_seq (rg tb hJ [0, 1, 2, 3, 1000] [_] [] [(_, _), (_, _), (_, _), (_, _), (_, .bool (hyL d k ((ge (((essF (ge d.frames k).hyps).map Hy.label)) m))))] rfl rfl rfl rfl trivial (nx (tc 4 rfl rfl (fun hb13 => ?_) (fun hb13 => ?_)))))))))))
              ·
               try simp at hb13
               have q13 : ordB d k (ge d.frames k) = true := drop_hit f3_1 hb12 hb13
               refine k_seq (rg tb hJ [1000] [_] [] [(_, .int (7 : Int))] rfl rfl rfl rfl trivial (nx (tr_ret (fun a w h => leave1' (m := 0) rfl h rfl (congrArg AV.int (show (7 : Int) = (frE d k) from by clear h; first | (show lstG d k j = _; have q6 : lstG d k j ≠ 0 := nd_t hb5; rw [frE, frmE]; grind) | (rw [frE, frmE]; grind)))))))
              ·
               try simp at hb13
               refine tr_skip (nx (rg tb hJ [0, 1, 2, 1002] [_, .int (((m + 1 : Nat) : Int)), _] [1] [(_, _), (_, _), (_, _), (_, .int (((m + 1 : Nat) : Int)))] rfl rfl rfl rfl ⟨hAdd (by first | omega | (simp; omega) | grind [ge_mem]) rfl rfl rfl rfl rfl, trivial⟩ ?_))
               intro a w h; change ∃ j, _ ∧ _
               exact ⟨m + 1, ⟨⟨(show comL (befL d k) ((essF (ge d.frames k).hyps).map Hy.label) ≤ (m + 1) from by omega), (show (m + 1) ≤ ((essF (ge d.frames k).hyps).map Hy.label).length from by omega), (show ∀ i, comL (befL d k) ((essF (ge d.frames k).hyps).map Hy.label) ≤ i → i < (m + 1) → hyL d k (ge ((essF (ge d.frames k).hyps).map Hy.label) i) = false from fun i h1 h2 => by by_cases e : i = m; (subst e; simpa using hb13); exact f3_3 i h1 (by omega))⟩, lz [0, 1, 2, 3] rfl h⟩, (show ((essF (ge d.frames k).hyps).map Hy.label).length - (m + 1) < ((essF (ge d.frames k).hyps).map Hy.label).length - m from by first | omega | (simp; omega))⟩
             ·
              replace hb12 : ((essF (ge d.frames k).hyps).map Hy.label).length ≤ m := by have := of_decide_eq_false hb12; omega
              have e12 : ordB d k (ge d.frames k) = false := drop_none fun i h1 h2 => f3_3 i h1 (by omega)
              refine tr_exit (nx (k_seq (rg tb hJ [1000] [_] [] [(_, .int (0 : Int))] rfl rfl rfl rfl trivial (nx (tr_ret (fun a w h => leave1' (m := 0) rfl h rfl (congrArg AV.int (show (0 : Int) = (frE d k) from by clear h; first | (show lstG d k j = _; have q6 : lstG d k j ≠ 0 := nd_t hb5; rw [frE, frmE]; grind) | (rw [frE, frmE]; grind)))))))))

theorem c_Check {J : World → Prop} (hJ : Stab J) (d : Db) (hw : ∀ i, i < d.frames.length → (ge d.frames i).wide.length * 32 ≤ 140737488351232) : Fn Tryz.prog J 62 [.agg (dbC d)] (.int (chkE d)) := by
 refine fn_enter (N := 40) Tryz.func62 rfl rfl (lb rfl) fun S w0 hS hJ0 => ?_
 clear hJ0
 refine k_seq (rg tb hJ [1000] [_, _] [0] [(_, .ptr (dbC d))] rfl rfl rfl rfl ⟨fun _ _ hk hx hl _ => r_box rfl (hl.env 0 0 _ rfl rfl) (hS _ hk.size) (js hJ hx), trivial⟩ (nx (k_seq (k_seq (rg tb hJ [0, 1001, 1015] [_, _, .int (((d.frames.length : Nat) : Int)), _, _, _, _, .int (((d.consts.length : Nat) : Int)), _, _, _, _, _, .int (((d.vars.length : Nat) : Int)), _, _] [2, 7, 13] [(_, _), (_, .rd (frsC d.frames)), (_, .bool (((decide ((400 : Int) < ((d.frames.length : Nat) : Int))) || (decide ((8000 : Int) < ((d.consts.length : Nat) : Int)))) || (decide ((8000 : Int) < ((d.vars.length : Nat) : Int)))))] rfl rfl rfl rfl ⟨hLen unds_23_59 rfl rfl rfl rfl, fun _ _ _ hx hl hc => r_lenM unds_22_9 rfl (hl.dep 6 12 _ rfl rfl rfl hc) hx, fun _ _ _ hx hl hc => r_lenM unds_22_9 rfl (hl.dep 12 18 _ rfl rfl rfl hc) hx, trivial⟩ (nx (tr_fact (fun a w h => len_le h 1 rfl) fun hl1 => tc 2 rfl rfl (fun hb1 => ?_) (fun hb1 => ?_))))))))
 ·
  refine k_seq (rg tb hJ [1000] [_] [] [(_, .int (8 : Int))] rfl rfl rfl rfl trivial (nx (tr_ret (fun a w h => leave1' (m := 0) rfl h rfl (congrArg AV.int (show (8 : Int) = (chkE d) from by clear h; rw [chkE]; grind))))))
 ·
  have e1 : (d.frames.length ≤ 400 ∧ d.consts.length ≤ 8000) ∧ d.vars.length ≤ 8000 := by simp at hb1; omega
  refine tr_skip (nx (k_seq (k_seq (rg tb hJ [0, 1002] [_, .int (symE d), _] [1] [(_, _), (_, .int (symE d))] rfl rfl rfl rfl ⟨hFn hS hJ (c_symbols hJ (d := d) ) call_79 rfl rfl rfl rfl, trivial⟩ (nx (k_seq (rg tb hJ [0, 1, 1001] [_, _] [] [(_, _), (_, _), (_, .bool (!decide (symE d = (0 : Int))))] rfl rfl rfl rfl trivial (nx (tc 2 rfl rfl (fun hb2 => ?_) (fun hb2 => ?_))))))))))
  ·
   try simp at hb2
   refine k_seq (rg tb hJ [1001] [_, _] [] [(_, .int (symE d))] rfl rfl rfl rfl trivial (nx (tr_ret (fun a w h => leave1' (m := 0) rfl h rfl (congrArg AV.int (show (symE d) = (chkE d) from by clear h; rw [chkE]; grind))))))
  ·
   try simp at hb2
   refine tr_skip (nx (k_seq (k_seq (rg tb hJ [0, 1000] [_] [] [(_, _), (_, .int (0 : Int))] rfl rfl rfl rfl trivial (nx (tr_block (tr_loop (ι := Nat) (fun (k : Nat) a w => ((k ≤ d.frames.length) ∧ (∀ i, i < k → frE d i = 0)) ∧ St All S w0 40 [(1, .ptr (dbC d)), (4, .int (((k : Nat) : Int)))] J a w) (fun (k : Nat) => (d.frames.length - k : Nat)) ?_ ?_)))))))
   ·
    intro a w h
    exact ⟨0, (show (0 ≤ d.frames.length) ∧ (∀ i, i < 0 → frE d i = 0) from ⟨Nat.zero_le _, fun j hj => by omega⟩), lz [0, 1] rfl h⟩
   ·
    rintro k
    refine tr_and fun hF => ?_
    obtain ⟨f1_1, f1_2⟩ := hF
    refine k_seq (k_seq (rg tb hJ [0, 1, 1004] [_, _, _, .int (((d.frames.length : Nat) : Int)), _] [3] [(_, _), (_, _), (_, .bool (decide (((k : Nat) : Int) < ((d.frames.length : Nat) : Int))))] rfl rfl rfl rfl ⟨hLen unds_23_59 rfl rfl rfl rfl, trivial⟩ (nx (tc 2 rfl rfl (fun hb3 => ?_) (fun hb3 => ?_)))))
    ·
     try simp at hb3
     refine tr_skip (nx (k_seq (tr_block (k_seq (rg tb hJ [0, 1, 1003] [_, _, .int (frE d k), _] [2] [(_, _), (_, _), (_, .int (frE d k))] rfl rfl rfl rfl ⟨hFn hS hJ (c_frame hJ (d := d) (k := k) (by first | omega | (simp; omega) | grind [ge_mem]) (e1.1.1) (e1.2) (fun i hi => frE_size (f1_2 i hi)) (hw k (by omega))) call_80 rfl rfl rfl rfl, trivial⟩ (nx (k_seq (rg tb hJ [0, 1, 2, 1001] [_, _] [] [(_, _), (_, _), (_, _), (_, .bool (!decide (frE d k = (0 : Int))))] rfl rfl rfl rfl trivial (nx (tc 3 rfl rfl (fun hb4 => ?_) (fun hb4 => ?_)))))))))))
     ·
      try simp at hb4
      have q4 := firstE_hit (by omega) f1_2 hb4
      refine k_seq (rg tb hJ [1001] [_, _] [] [(_, .int (frE d k))] rfl rfl rfl rfl trivial (nx (tr_ret (fun a w h => leave1' (m := 0) rfl h rfl (congrArg AV.int (show (frE d k) = (chkE d) from by clear h; rw [chkE]; grind))))))
     ·
      try simp at hb4
      refine tr_skip (nx (rg tb hJ [0, 1002] [_, .int (((k + 1 : Nat) : Int)), _] [1] [(_, _), (_, .int (((k + 1 : Nat) : Int)))] rfl rfl rfl rfl ⟨hAdd (by first | omega | (simp; omega) | grind [ge_mem]) rfl rfl rfl rfl rfl, trivial⟩ ?_))
      intro a w h; change ∃ j, _ ∧ _
      exact ⟨k + 1, ⟨⟨(show (k + 1) ≤ d.frames.length from by omega), (show ∀ i, i < (k + 1) → frE d i = 0 from step_all f1_2 hb4)⟩, lz [0, 1] rfl h⟩, (show d.frames.length - (k + 1) < d.frames.length - k from by first | omega | (simp; omega))⟩
    ·
     try simp at hb3
     have e3 : firstE d.frames.length (frE d) = 0 := firstE_ok fun i hi => f1_2 i (by omega)
     refine tr_exit (nx (k_seq (rg tb hJ [1000] [_] [] [(_, .int (0 : Int))] rfl rfl rfl rfl trivial (nx (tr_ret (fun a w h => leave1' (m := 0) rfl h rfl (congrArg AV.int (show (0 : Int) = (chkE d) from by clear h; rw [chkE]; grind))))))))

end Go.Proofs.YtnpgmdffjemnbaaGreatDoor
set_option maxHeartbeats 8000000
set_option maxRecDepth 100000
namespace Go.Proofs.YtnpgmdffjemnbaaGreatDoor
open Go.RowKit

theorem c_checked {J : World → Prop} (hJ : Stab J) (d : Db) (i : Int) (hw : ∀ i, i < d.frames.length → (ge d.frames i).wide.length * 32 ≤ 140737488351232) : Fn Tryz.prog J 44 [.agg (dbC d), .int i] (.int (chdE d i)) := by
 refine fn_enter (N := 20) Tryz.func44 rfl rfl (lb rfl) fun S w0 hS hJ0 => ?_
 clear hJ0
 refine k_seq (rg tb hJ [1, 1000] [_, _] [0] [(_, _), (_, .ptr (dbC d))] rfl rfl rfl rfl ⟨fun _ _ hk hx hl _ => r_box rfl (hl.env 0 0 _ rfl rfl) (hS _ hk.size) (js hJ hx), trivial⟩ (nx (k_seq (k_seq (rg tb hJ [0, 1, 1002] [_, .int (chkE d), _] [1] [(_, _), (_, _), (_, .int (chkE d))] rfl rfl rfl rfl ⟨hFn hS hJ (c_Check hJ (d := d) (hw)) call_62 rfl rfl rfl rfl, trivial⟩ (nx (k_seq (rg tb hJ [0, 1, 2, 1001] [_, _] [] [(_, _), (_, _), (_, _), (_, .bool (!decide (chkE d = (0 : Int))))] rfl rfl rfl rfl trivial (nx (tc 3 rfl rfl (fun hb1 => ?_) (fun hb1 => ?_)))))))))))
 ·
  try simp at hb1
  refine k_seq (rg tb hJ [1001] [_, _] [] [(_, .int (chkE d))] rfl rfl rfl rfl trivial (nx (tr_ret (fun a w h => leave1' (m := 0) rfl h rfl (congrArg AV.int (show (chkE d) = (chdE d i) from by clear h; rw [chdE]; grind))))))
 ·
  try simp at hb1
  refine tr_skip (nx (k_seq (k_seq (rg tb hJ [1008] [_, _, _, _, _, _, .int (((d.frames.length : Nat) : Int)), _, _] [6] [(_, .bool ((decide (i < (0 : Int))) || (decide (((d.frames.length : Nat) : Int) ≤ i))))] rfl rfl rfl rfl ⟨fun _ _ _ hx hl hc => r_lenM unds_23_59 rfl (hl.dep 5 16 _ rfl rfl rfl hc) hx, trivial⟩ (nx (tc 0 rfl rfl (fun hb2 => ?_) (fun hb2 => ?_)))))))
  ·
   refine k_seq (rg tb hJ [1000] [_] [] [(_, .int (3 : Int))] rfl rfl rfl rfl trivial (nx (tr_ret (fun a w h => leave1' (m := 0) rfl h rfl (congrArg AV.int (show (3 : Int) = (chdE d i) from by clear h; rw [chdE]; grind))))))
  ·
   refine tr_skip (nx (k_seq (rg tb hJ [1000] [_] [] [(_, .int (0 : Int))] rfl rfl rfl rfl trivial (nx (tr_ret (fun a w h => leave1' (m := 0) rfl h rfl (congrArg AV.int (show (0 : Int) = (chdE d i) from by clear h; rw [chdE]; grind))))))))

theorem c_uses {J : World → Prop} (hJ : Stab J) (d : Db) (i : Nat) (hi : i < d.frames.length) (hf : d.frames.length ≤ 400) : Fn Tryz.prog J 45 [.agg (dbC d), .int (((i : Nat) : Int))] (.rd (intsC (usesD d i))) := by
 refine fn_enter (N := 81) Tryz.func45 rfl rfl (lb rfl) fun S w0 hS hJ0 => ?_
 refine tw st_own ?_
 refine k_seq (rgo tb hJ [1, 1000] [_, _] [0] [(_, _), (_, .ptr (dbC d))] rfl rfl rfl rfl ⟨fun _ _ hk hx hl _ => r_box rfl (hl.env 0 0 _ rfl rfl) (xo_new hS _ hk hx _ (Nat.le_refl _)) (jo hJ hx), trivial⟩ (nx (k_seq (tr_text (sq_own0 elem_28_3_1 hJ rfl rfl rfl (lb rfl) fun v1 => ?_)))))
 refine sv tb rfl rfl rfl rfl (sq_end ?_)
 refine kw (lz [0, 2, 3] (env' := [(_, _), (_, _), (_, _)]) rfl) ?_
 refine nx (k_seq (tr_text (sv (av := .ptr [frsC d.frames]) tb rfl rfl rfl rfl (sv (av := .rd (frsC d.frames)) tb rfl rfl rfl rfl (sv tb rfl rfl rfl rfl (sq (.ptr (frC (ge d.frames i))) rfl rfl (lb rfl) (fun _ _ h => r_index (i := ((i : Nat) : Int)) elem_23_59_8 rfl (h.get 1 rfl) (h.get 0 rfl) (Int.natCast_nonneg _) (row_nat (xs := d.frames) (k := i) (by first | omega | (simp; omega) | grind [ge_mem])) rfl h.x) (sv (av := .agg (frC (ge d.frames i))) tb rfl rfl rfl rfl (sq_var (cs := frC (ge d.frames i)) var_59_8 rfl rfl rfl (lb rfl) rfl rfl rfl (by decide) (m := 0) rfl rfl (fun a w h => xo_new hS _ h.keep h.x _ (Nat.le_refl _)) (fun a w h w' hk' => xo_stab hJ _ _ hk' h.x) (sq_end ?_)))))))))
 refine kw (lz [0, 4, 6, 7, 8] (env' := [(_, _), (_, _), (_, _), (_, _), (_, _)]) rfl) ?_
 refine nx (tr_fact (fun a w h => len_le h 1 rfl) fun hl1 => k_seq (k_seq (rgo tb hJ [0, 2, 3, 4, 1002] [_, _, _] [] [(_, _), (_, _), (_, _), (_, _), (_, .bool (!((ge d.frames i).thm)))] rfl rfl rfl rfl trivial (nx (tc 4 rfl rfl (fun hb1 => ?_) (fun hb1 => ?_))))))
 ·
  try simp at hb1
  refine k_seq (rgo tb hJ [1001] [_, _] [] [(_, .lit v1)] rfl rfl rfl rfl trivial (nx ?_))
  refine tw (fun h => st_freeze hS h (m := 0) (s := 4) rfl) ?_
  refine tr_ret (fun a w h => leave1' (m := 0) rfl (st_disown h) rfl (congrArg (fun z => AV.rd (intsC z)) (show ([] : List Int) = (usesD d i) from by grind [usesD])))
 ·
  try simp at hb1
  refine tr_skip (nx (k_seq (rgo tb hJ [1, 2, 3, 1001, 1002] [_, _, _] [] [(_, _), (_, _), (_, _), (_, .rd (strsC ((ge d.frames i).proof))), (_, .rd (strsC ((ge d.frames i).proof)))] rfl rfl rfl rfl trivial (nx (tr_fact (fun a w h => len_le h 3 rfl) fun hl2 => k_seq (k_seq (rgo tb hJ [0, 1, 2, 4, 1008] [_, .int (((((ge d.frames i).proof).length : Nat) : Int)), _, _, _, .ptr [.lit (.string ((ge ((ge d.frames i).proof) 0)))], _, _, _] [1, 5] [(_, _), (_, _), (_, _), (_, _), (_, .bool ((decide ((0 : Int) < ((((ge d.frames i).proof).length : Nat) : Int))) && (decide (((ge ((ge d.frames i).proof) 0)) = (⟨#[40]⟩ : ByteArray)))))] rfl rfl rfl rfl ⟨hLen unds_22_9 rfl rfl rfl rfl, fun _ _ _ hx hl hc => r_index (i := ((0 : Nat) : Int)) elem_22_9_1 rfl (hl.dep 4 27 _ rfl rfl rfl hc) (Rel.of_lit (Go.Value.int Go.IntKind.i64 0)) (Int.natCast_nonneg _) (row_nat (xs := (ge d.frames i).proof) (k := 0) (by have hc' : (((decide ((0 : Int) < ((((ge d.frames i).proof).length : Nat) : Int))) == true)) = true := hc; (try simp at hc'); (first | omega | (simp; omega) | grind [ge_mem]))) rfl hx, trivial⟩ (nx (tc 4 rfl rfl (fun hb2 => ?_) (fun hb2 => ?_))))))))))
  ·
   try simp at hb2
   refine k_seq (rgo tb hJ [0, 1, 2, 3, 1000] [_] [] [(_, _), (_, _), (_, _), (_, _), (_, .int (1 : Int))] rfl rfl rfl rfl trivial (nx (k_seq (tr_block (tr_loop (ι := Nat) (fun (n : Nat) a w => ((1 ≤ n) ∧ (n ≤ (ge d.frames i).proof.length) ∧ (∀ j, 1 ≤ j → j < n → ge (ge d.frames i).proof j ≠ ⟨#[41]⟩)) ∧ St All (SO S [OB.row v1 3 1 (([] : List Int).map intC)]) w0 81 [(5, .lit v1), (1, .int (((i : Nat) : Int))), (2, .ptr (dbC d)), (7, .rd (strsC ((ge d.frames i).proof))), (8, .int (((n : Nat) : Int)))] (XO J S w0.heap.size [OB.row v1 3 1 (([] : List Int).map intC)]) a w) (fun (n : Nat) => ((ge d.frames i).proof.length - n : Nat)) ?_ ?_)))))
   ·
    intro a w h
    exact ⟨1, (show (1 ≤ 1) ∧ (1 ≤ (ge d.frames i).proof.length) ∧ (∀ j, 1 ≤ j → j < 1 → ge (ge d.frames i).proof j ≠ ⟨#[41]⟩) from ⟨Nat.le_refl _, by omega, fun j h1 h2 => by omega⟩), lz [0, 1, 2, 3, 4] rfl h⟩
   ·
    rintro n
    refine tr_and fun hF => ?_
    obtain ⟨f1_1, f1_2, f1_3⟩ := hF
    refine k_seq (k_seq (rgo tb hJ [0, 1, 2, 3, 4, 1010] [_, _, .int (((((ge d.frames i).proof).length : Nat) : Int)), _, _, _, _, .ptr [.lit (.string ((ge ((ge d.frames i).proof) n)))], _, _, _] [2, 7] [(_, _), (_, _), (_, _), (_, _), (_, _), (_, .bool ((decide (((n : Nat) : Int) < ((((ge d.frames i).proof).length : Nat) : Int))) && (!decide (((ge ((ge d.frames i).proof) n)) = (⟨#[41]⟩ : ByteArray)))))] rfl rfl rfl rfl ⟨hLen unds_22_9 rfl rfl rfl rfl, fun _ _ _ hx hl hc => r_index (i := ((n : Nat) : Int)) elem_22_9_1 rfl (hl.dep 5 37 _ rfl rfl rfl hc) (hl.dep 6 38 _ rfl rfl rfl hc) (Int.natCast_nonneg _) (row_nat (xs := (ge d.frames i).proof) (k := n) (by have hc' : (((decide (((n : Nat) : Int) < ((((ge d.frames i).proof).length : Nat) : Int))) == true)) = true := hc; (try simp at hc'); (first | omega | (simp; omega) | grind [ge_mem]))) rfl hx, trivial⟩ (nx (tc 5 rfl rfl (fun hb3 => ?_) (fun hb3 => ?_)))))
    ·
     try simp at hb3
     refine tr_skip (nx (tr_block (rgo tb hJ [0, 1, 2, 3, 1002] [_, .int (((n + 1 : Nat) : Int)), _] [1] [(_, _), (_, _), (_, _), (_, _), (_, .int (((n + 1 : Nat) : Int)))] rfl rfl rfl rfl ⟨hAdd (by first | omega | (simp; omega) | grind [ge_mem]) rfl rfl rfl rfl rfl, trivial⟩ ?_)))
     intro a w h; change ∃ j, _ ∧ _
     exact ⟨n + 1, ⟨⟨(show 1 ≤ (n + 1) from by omega), (show (n + 1) ≤ (ge d.frames i).proof.length from by omega), (show ∀ j, 1 ≤ j → j < (n + 1) → ge (ge d.frames i).proof j ≠ ⟨#[41]⟩ from fun j h1 h2 => by by_cases e : j = n; (subst e; exact hb3.2); exact f1_3 j h1 (by omega))⟩, lz [0, 1, 2, 3, 4] rfl h⟩, (show (ge d.frames i).proof.length - (n + 1) < (ge d.frames i).proof.length - n from by first | omega | (simp; omega))⟩
    ·
     try simp at hb3
     refine tr_exit (nx (rgo tb hJ [0, 1, 2, 1002, 1003] [_, _, _, _] [2] [(_, _), (_, _), (_, _), (_, .rd (strsC ((((ge d.frames i).proof).take n).drop 1))), (_, .rd (strsC ((((ge d.frames i).proof).take n).drop 1)))] rfl rfl rfl rfl ⟨fun _ _ _ hx hl _ => r_sliceE (ys := (((ge d.frames i).proof).take n).drop 1) (lo := 1) (hi := n) rfl elem_22_9_1 (fun _ => rfl) rfl (hl.dep 0 45 _ rfl rfl rfl rfl) (Rel.of_lit (Go.Value.int Go.IntKind.i64 1)) (hl.dep 1 46 _ rfl rfl rfl rfl) (by first | omega | (simp; omega) | grind [ge_mem]) (by first | omega | (simp; omega) | grind [ge_mem]) hx, trivial⟩ (nx (tr_fact (fun a w h => len_le h 3 rfl) fun hl3 => k_seq (k_seq ?_)))))
     refine tw (sa 4 rfl (congrArg (fun z' => AV.rd (strsC z')) (show ((((ge d.frames i).proof).take n).drop 1) = (namW (ge d.frames i).proof) from by first | exact namW_open hb2 f1_1 f1_2 f1_3 (by grind) | exact namW_plain (by grind)))) ?_
     refine rgo tb hJ [0, 1, 2, 4, 1000] [_] [] [(_, _), (_, _), (_, _), (_, _), (_, .int (0 : Int))] rfl rfl rfl rfl trivial (nx (tr_fact (fun a w h => len_le h 3 rfl) fun hl4 => tr_block (tr_loop (ι := Nat × Value × (List Int)) (fun (ii' : Nat × Value × (List Int)) a w => match ii' with | (k, vo, out) => ((k ≤ i) ∧ (out = usesK d (namW (ge d.frames i).proof) k) ∧ (out.length ≤ k)) ∧ St All (SO S [OB.row vo 3 1 (out.map intC)]) w0 81 [(1, .int (((i : Nat) : Int))), (2, .ptr (dbC d)), (7, .rd (strsC (namW (ge d.frames i).proof))), (9, .int (((k : Nat) : Int))), (5, .lit vo)] (XO J S w0.heap.size [OB.row vo 3 1 (out.map intC)]) a w) (fun (ii' : Nat × Value × (List Int)) => match ii' with | (k, _, _) => (i - k : Nat)) ?_ ?_)))
     ·
      intro a w h
      exact ⟨(0, v1, ([] : List Int)), (show (0 ≤ i) ∧ (([] : List Int) = usesK d (namW (ge d.frames i).proof) 0) ∧ (([] : List Int).length ≤ 0) from ⟨Nat.zero_le _, rfl, Nat.zero_le _⟩), lz [1, 2, 3, 4, 0] rfl h⟩
     ·
      rintro ⟨k, vo, out⟩
      refine tr_and fun hF => ?_
      obtain ⟨f2_1, f2_2, f2_3⟩ := hF
      refine k_seq (k_seq (rgo tb hJ [0, 1, 2, 3, 4, 1002] [_, _, _] [] [(_, _), (_, _), (_, _), (_, _), (_, _), (_, .bool (decide (((k : Nat) : Int) < ((i : Nat) : Int))))] rfl rfl rfl rfl trivial (nx (tc 5 rfl rfl (fun hb4 => ?_) (fun hb4 => ?_)))))
      ·
       try simp at hb4
       refine tr_skip (nx (k_seq (tr_block (k_seq (rgo tb hJ [0, 1, 2, 3, 4, 1000] [_] [] [(_, _), (_, _), (_, _), (_, _), (_, _), (_, .int (0 : Int))] rfl rfl rfl rfl trivial (nx (tr_block (tr_loop (ι := Nat × Value × (List Int)) (fun (ii' : Nat × Value × (List Int)) a w => match ii' with | (n, vp, out2) => ((n ≤ (namW (ge d.frames i).proof).length) ∧ (out2 = usesM d (namW (ge d.frames i).proof) k n) ∧ (out2.length ≤ k + 1)) ∧ St All (SO S [OB.row vp 3 1 (out2.map intC)]) w0 81 [(1, .int (((i : Nat) : Int))), (2, .ptr (dbC d)), (7, .rd (strsC (namW (ge d.frames i).proof))), (9, .int (((k : Nat) : Int))), (10, .int (((n : Nat) : Int))), (5, .lit vp)] (XO J S w0.heap.size [OB.row vp 3 1 (out2.map intC)]) a w) (fun (ii' : Nat × Value × (List Int)) => match ii' with | (n, _, _) => ((namW (ge d.frames i).proof).length - n : Nat)) ?_ ?_))))))))
       ·
        intro a w h
        exact ⟨(0, vo, out), (show (0 ≤ (namW (ge d.frames i).proof).length) ∧ (out = usesM d (namW (ge d.frames i).proof) k 0) ∧ (out.length ≤ k + 1) from ⟨Nat.zero_le _, by simp [f2_2, usesM], by omega⟩), lz [0, 1, 2, 3, 5, 4] rfl h⟩
       ·
        rintro ⟨n, vp, out2⟩
        refine tr_and fun hF => ?_
        obtain ⟨f3_1, f3_2, f3_3⟩ := hF
        refine k_seq (k_seq (rgo tb hJ [0, 1, 2, 3, 4, 5, 1003] [_, _, .int ((((namW (ge d.frames i).proof).length : Nat) : Int)), _] [2] [(_, _), (_, _), (_, _), (_, _), (_, _), (_, _), (_, .bool (decide (((n : Nat) : Int) < (((namW (ge d.frames i).proof).length : Nat) : Int))))] rfl rfl rfl rfl ⟨hLen unds_22_9 rfl rfl rfl rfl, trivial⟩ (nx (tc 6 rfl rfl (fun hb5 => ?_) (fun hb5 => ?_)))))
        ·
         try simp at hb5
         refine tr_skip (nx (k_seq (tr_block (k_seq (rgr tb hJ [0, 1, 2, 3, 4, 5, 1016] [_, _, .ptr [.lit (.string ((ge (namW (ge d.frames i).proof) n)))], _, _, _, _, .ptr (frC (ge d.frames k)), _, _, _, _, _, _, .bool (decide ((((k : Nat) : Int)) ∈ out2)), _, _] [2, 7, 14] [(_, _), (_, _), (_, _), (_, _), (_, _), (_, _), (_, .bool ((decide (((ge (namW (ge d.frames i).proof) n)) = ((ge d.frames k).label))) && (!(decide ((((k : Nat) : Int)) ∈ out2)))))] rfl rfl rfl rfl ⟨hIx elem_22_9_1 (by first | omega | (simp; omega) | grind [ge_mem]) rfl rfl rfl rfl rfl rfl, hIx elem_23_59_8 (by first | omega | (simp; omega) | grind [ge_mem]) rfl rfl rfl rfl rfl rfl, fun _ _ hk hx hl hc => r_fn (c_in hJ (xs := out2) (n := (((k : Nat) : Int))) ) call_46 rfl (nm hS hk) (hx.1) (relL_cons (own_view hS hx (mo 0 rfl) (hl.dep 12 71 _ rfl rfl rfl hc)) (relL_cons (hl.dep 13 72 _ rfl rfl rfl hc) relL_nil)) (jo hJ hx), trivial⟩ (nx (tc 6 rfl rfl (fun hb6 => ?_) (fun hb6 => ?_))))))))
         ·
          try simp at hb6
          refine tr_text (sv tb rfl rfl rfl rfl (sv tb rfl rfl rfl rfl (sq (.rd (intsC ([((k : Nat) : Int)]))) rfl rfl (lb rfl) (fun _ _ h => r_build1 elem_28_3_1 zero_3 rfl (h.get 0 rfl) (xo_new hS _ h.keep h.x _ (Nat.le_refl _)) (jo hJ h.x)) (sq_appendM (f := intC) (m := 2) (s := 76) out2 ([((k : Nat) : Int)]) (fun _ => rfl) app_28_3 hJ hJ0 rfl rfl rfl (lb rfl) rfl rfl (fun a w h => (h.get 0 rfl)) (by simp; omega) (by simp; omega) fun v2 => ?_))))
          refine sv tb rfl rfl rfl rfl (sq_end ?_)
          refine kw (lz [0, 2, 5, 6, 7, 8, 9] (env' := [(_, _), (_, _), (_, _), (_, _), (_, _), (_, _), (_, _)]) rfl) ?_
          refine nx (tr_fact (fun a w h => len_le h 1 rfl) fun hl5 => rgo tb hJ [0, 2, 3, 4, 5, 1002] [_, .int (((n + 1 : Nat) : Int)), _] [1] [(_, _), (_, _), (_, _), (_, _), (_, _), (_, .int (((n + 1 : Nat) : Int)))] rfl rfl rfl rfl ⟨hAdd (by first | omega | (simp; omega) | grind [ge_mem]) rfl rfl rfl rfl rfl, trivial⟩ ?_)
          intro a w h; change ∃ j, _ ∧ _
          exact ⟨(n + 1, v2, out2 ++ ([((k : Nat) : Int)])), ⟨⟨(show (n + 1) ≤ (namW (ge d.frames i).proof).length from by omega), (show (out2 ++ ([((k : Nat) : Int)])) = usesM d (namW (ge d.frames i).proof) k (n + 1) from by rw [f3_2]; exact usesM_hit hb5 hb6.1 (f3_2 ▸ hb6.2)), (show (out2 ++ ([((k : Nat) : Int)])).length ≤ k + 1 from by have e := usesM_hit hb5 hb6.1 (f3_2 ▸ hb6.2); rw [f3_2, e]; exact usesM_len _ _ _ _)⟩, lz [1, 2, 3, 4, 5, 0] rfl h⟩, (show (namW (ge d.frames i).proof).length - (n + 1) < (namW (ge d.frames i).proof).length - n from by first | omega | (simp; omega))⟩
         ·
          try simp at hb6
          refine tr_skip (nx (rgo tb hJ [0, 1, 2, 3, 5, 1002] [_, .int (((n + 1 : Nat) : Int)), _] [1] [(_, _), (_, _), (_, _), (_, _), (_, _), (_, .int (((n + 1 : Nat) : Int)))] rfl rfl rfl rfl ⟨hAdd (by first | omega | (simp; omega) | grind [ge_mem]) rfl rfl rfl rfl rfl, trivial⟩ ?_))
          intro a w h; change ∃ j, _ ∧ _
          exact ⟨(n + 1, vp, out2), ⟨⟨(show (n + 1) ≤ (namW (ge d.frames i).proof).length from by omega), (show out2 = usesM d (namW (ge d.frames i).proof) k (n + 1) from by rw [f3_2]; exact usesM_miss hb5 (fun e => f3_2 ▸ hb6 e)), (show out2.length ≤ k + 1 from by omega)⟩, lz [0, 1, 2, 3, 5, 4] rfl h⟩, (show (namW (ge d.frames i).proof).length - (n + 1) < (namW (ge d.frames i).proof).length - n from by first | omega | (simp; omega))⟩
        ·
         try simp at hb5
         refine tr_exit (nx (rgo tb hJ [0, 1, 2, 5, 1002] [_, .int (((k + 1 : Nat) : Int)), _] [1] [(_, _), (_, _), (_, _), (_, _), (_, .int (((k + 1 : Nat) : Int)))] rfl rfl rfl rfl ⟨hAdd (by first | omega | (simp; omega) | grind [ge_mem]) rfl rfl rfl rfl rfl, trivial⟩ ?_))
         intro a w h; change ∃ j, _ ∧ _
         exact ⟨(k + 1, vp, out2), ⟨⟨(show (k + 1) ≤ i from by omega), (show out2 = usesK d (namW (ge d.frames i).proof) (k + 1) from by rw [f3_2]; exact usesM_end hb5), (show out2.length ≤ (k + 1) from by omega)⟩, lz [0, 1, 2, 4, 3] rfl h⟩, (show i - (k + 1) < i - k from by first | omega | (simp; omega))⟩
      ·
       try simp at hb4
       refine tr_exit (nx (k_seq (rgo tb hJ [1001] [_, _] [] [(_, .lit vo)] rfl rfl rfl rfl trivial (nx ?_))))
       refine tw (fun h => st_freeze hS h (m := 0) (s := 4) rfl) ?_
       refine tr_ret (fun a w h => leave1' (m := 0) rfl (st_disown h) rfl (congrArg (fun z => AV.rd (intsC z)) (show out = (usesD d i) from by grind [usesD])))
  ·
   try simp at hb2
   refine tr_skip (nx (k_seq (k_seq ?_)))
   refine tw (sa 3 rfl (congrArg (fun z' => AV.rd (strsC z')) (show ((ge d.frames i).proof) = (namW (ge d.frames i).proof) from by first | exact namW_open hb2 f1_1 f1_2 f1_3 (by grind) | exact namW_plain (by grind)))) ?_
   refine rgo tb hJ [0, 1, 2, 3, 1000] [_] [] [(_, _), (_, _), (_, _), (_, _), (_, .int (0 : Int))] rfl rfl rfl rfl trivial (nx (tr_fact (fun a w h => len_le h 3 rfl) fun hl6 => tr_block (tr_loop (ι := Nat × Value × (List Int)) (fun (ii' : Nat × Value × (List Int)) a w => match ii' with | (k, vo, out) => ((k ≤ i) ∧ (out = usesK d (namW (ge d.frames i).proof) k) ∧ (out.length ≤ k)) ∧ St All (SO S [OB.row vo 3 1 (out.map intC)]) w0 81 [(1, .int (((i : Nat) : Int))), (2, .ptr (dbC d)), (7, .rd (strsC (namW (ge d.frames i).proof))), (9, .int (((k : Nat) : Int))), (5, .lit vo)] (XO J S w0.heap.size [OB.row vo 3 1 (out.map intC)]) a w) (fun (ii' : Nat × Value × (List Int)) => match ii' with | (k, _, _) => (i - k : Nat)) ?_ ?_)))
   ·
    intro a w h
    exact ⟨(0, v1, ([] : List Int)), (show (0 ≤ i) ∧ (([] : List Int) = usesK d (namW (ge d.frames i).proof) 0) ∧ (([] : List Int).length ≤ 0) from ⟨Nat.zero_le _, rfl, Nat.zero_le _⟩), lz [1, 2, 3, 4, 0] rfl h⟩
   ·
    rintro ⟨k, vo, out⟩
    refine tr_and fun hF => ?_
    obtain ⟨f2_1, f2_2, f2_3⟩ := hF
    refine k_seq (k_seq (rgo tb hJ [0, 1, 2, 3, 4, 1002] [_, _, _] [] [(_, _), (_, _), (_, _), (_, _), (_, _), (_, .bool (decide (((k : Nat) : Int) < ((i : Nat) : Int))))] rfl rfl rfl rfl trivial (nx (tc 5 rfl rfl (fun hb4 => ?_) (fun hb4 => ?_)))))
    ·
     try simp at hb4
     refine tr_skip (nx (k_seq (tr_block (k_seq (rgo tb hJ [0, 1, 2, 3, 4, 1000] [_] [] [(_, _), (_, _), (_, _), (_, _), (_, _), (_, .int (0 : Int))] rfl rfl rfl rfl trivial (nx (tr_block (tr_loop (ι := Nat × Value × (List Int)) (fun (ii' : Nat × Value × (List Int)) a w => match ii' with | (n, vp, out2) => ((n ≤ (namW (ge d.frames i).proof).length) ∧ (out2 = usesM d (namW (ge d.frames i).proof) k n) ∧ (out2.length ≤ k + 1)) ∧ St All (SO S [OB.row vp 3 1 (out2.map intC)]) w0 81 [(1, .int (((i : Nat) : Int))), (2, .ptr (dbC d)), (7, .rd (strsC (namW (ge d.frames i).proof))), (9, .int (((k : Nat) : Int))), (10, .int (((n : Nat) : Int))), (5, .lit vp)] (XO J S w0.heap.size [OB.row vp 3 1 (out2.map intC)]) a w) (fun (ii' : Nat × Value × (List Int)) => match ii' with | (n, _, _) => ((namW (ge d.frames i).proof).length - n : Nat)) ?_ ?_))))))))
     ·
      intro a w h
      exact ⟨(0, vo, out), (show (0 ≤ (namW (ge d.frames i).proof).length) ∧ (out = usesM d (namW (ge d.frames i).proof) k 0) ∧ (out.length ≤ k + 1) from ⟨Nat.zero_le _, by simp [f2_2, usesM], by omega⟩), lz [0, 1, 2, 3, 5, 4] rfl h⟩
     ·
      rintro ⟨n, vp, out2⟩
      refine tr_and fun hF => ?_
      obtain ⟨f3_1, f3_2, f3_3⟩ := hF
      refine k_seq (k_seq (rgo tb hJ [0, 1, 2, 3, 4, 5, 1003] [_, _, .int ((((namW (ge d.frames i).proof).length : Nat) : Int)), _] [2] [(_, _), (_, _), (_, _), (_, _), (_, _), (_, _), (_, .bool (decide (((n : Nat) : Int) < (((namW (ge d.frames i).proof).length : Nat) : Int))))] rfl rfl rfl rfl ⟨hLen unds_22_9 rfl rfl rfl rfl, trivial⟩ (nx (tc 6 rfl rfl (fun hb5 => ?_) (fun hb5 => ?_)))))
      ·
       try simp at hb5
       refine tr_skip (nx (k_seq (tr_block (k_seq (rgr tb hJ [0, 1, 2, 3, 4, 5, 1016] [_, _, .ptr [.lit (.string ((ge (namW (ge d.frames i).proof) n)))], _, _, _, _, .ptr (frC (ge d.frames k)), _, _, _, _, _, _, .bool (decide ((((k : Nat) : Int)) ∈ out2)), _, _] [2, 7, 14] [(_, _), (_, _), (_, _), (_, _), (_, _), (_, _), (_, .bool ((decide (((ge (namW (ge d.frames i).proof) n)) = ((ge d.frames k).label))) && (!(decide ((((k : Nat) : Int)) ∈ out2)))))] rfl rfl rfl rfl ⟨hIx elem_22_9_1 (by first | omega | (simp; omega) | grind [ge_mem]) rfl rfl rfl rfl rfl rfl, hIx elem_23_59_8 (by first | omega | (simp; omega) | grind [ge_mem]) rfl rfl rfl rfl rfl rfl, fun _ _ hk hx hl hc => r_fn (c_in hJ (xs := out2) (n := (((k : Nat) : Int))) ) call_46 rfl (nm hS hk) (hx.1) (relL_cons (own_view hS hx (mo 0 rfl) (hl.dep 12 71 _ rfl rfl rfl hc)) (relL_cons (hl.dep 13 72 _ rfl rfl rfl hc) relL_nil)) (jo hJ hx), trivial⟩ (nx (tc 6 rfl rfl (fun hb6 => ?_) (fun hb6 => ?_))))))))
       ·
        try simp at hb6
        refine tr_text (sv tb rfl rfl rfl rfl (sv tb rfl rfl rfl rfl (sq (.rd (intsC ([((k : Nat) : Int)]))) rfl rfl (lb rfl) (fun _ _ h => r_build1 elem_28_3_1 zero_3 rfl (h.get 0 rfl) (xo_new hS _ h.keep h.x _ (Nat.le_refl _)) (jo hJ h.x)) (sq_appendM (f := intC) (m := 2) (s := 76) out2 ([((k : Nat) : Int)]) (fun _ => rfl) app_28_3 hJ hJ0 rfl rfl rfl (lb rfl) rfl rfl (fun a w h => (h.get 0 rfl)) (by simp; omega) (by simp; omega) fun v3 => ?_))))
        refine sv tb rfl rfl rfl rfl (sq_end ?_)
        refine kw (lz [0, 2, 5, 6, 7, 8, 9] (env' := [(_, _), (_, _), (_, _), (_, _), (_, _), (_, _), (_, _)]) rfl) ?_
        refine nx (tr_fact (fun a w h => len_le h 1 rfl) fun hl7 => rgo tb hJ [0, 2, 3, 4, 5, 1002] [_, .int (((n + 1 : Nat) : Int)), _] [1] [(_, _), (_, _), (_, _), (_, _), (_, _), (_, .int (((n + 1 : Nat) : Int)))] rfl rfl rfl rfl ⟨hAdd (by first | omega | (simp; omega) | grind [ge_mem]) rfl rfl rfl rfl rfl, trivial⟩ ?_)
        intro a w h; change ∃ j, _ ∧ _
        exact ⟨(n + 1, v3, out2 ++ ([((k : Nat) : Int)])), ⟨⟨(show (n + 1) ≤ (namW (ge d.frames i).proof).length from by omega), (show (out2 ++ ([((k : Nat) : Int)])) = usesM d (namW (ge d.frames i).proof) k (n + 1) from by rw [f3_2]; exact usesM_hit hb5 hb6.1 (f3_2 ▸ hb6.2)), (show (out2 ++ ([((k : Nat) : Int)])).length ≤ k + 1 from by have e := usesM_hit hb5 hb6.1 (f3_2 ▸ hb6.2); rw [f3_2, e]; exact usesM_len _ _ _ _)⟩, lz [1, 2, 3, 4, 5, 0] rfl h⟩, (show (namW (ge d.frames i).proof).length - (n + 1) < (namW (ge d.frames i).proof).length - n from by first | omega | (simp; omega))⟩
       ·
        try simp at hb6
        refine tr_skip (nx (rgo tb hJ [0, 1, 2, 3, 5, 1002] [_, .int (((n + 1 : Nat) : Int)), _] [1] [(_, _), (_, _), (_, _), (_, _), (_, _), (_, .int (((n + 1 : Nat) : Int)))] rfl rfl rfl rfl ⟨hAdd (by first | omega | (simp; omega) | grind [ge_mem]) rfl rfl rfl rfl rfl, trivial⟩ ?_))
        intro a w h; change ∃ j, _ ∧ _
        exact ⟨(n + 1, vp, out2), ⟨⟨(show (n + 1) ≤ (namW (ge d.frames i).proof).length from by omega), (show out2 = usesM d (namW (ge d.frames i).proof) k (n + 1) from by rw [f3_2]; exact usesM_miss hb5 (fun e => f3_2 ▸ hb6 e)), (show out2.length ≤ k + 1 from by omega)⟩, lz [0, 1, 2, 3, 5, 4] rfl h⟩, (show (namW (ge d.frames i).proof).length - (n + 1) < (namW (ge d.frames i).proof).length - n from by first | omega | (simp; omega))⟩
      ·
       try simp at hb5
       refine tr_exit (nx (rgo tb hJ [0, 1, 2, 5, 1002] [_, .int (((k + 1 : Nat) : Int)), _] [1] [(_, _), (_, _), (_, _), (_, _), (_, .int (((k + 1 : Nat) : Int)))] rfl rfl rfl rfl ⟨hAdd (by first | omega | (simp; omega) | grind [ge_mem]) rfl rfl rfl rfl rfl, trivial⟩ ?_))
       intro a w h; change ∃ j, _ ∧ _
       exact ⟨(k + 1, vp, out2), ⟨⟨(show (k + 1) ≤ i from by omega), (show out2 = usesK d (namW (ge d.frames i).proof) (k + 1) from by rw [f3_2]; exact usesM_end hb5), (show out2.length ≤ (k + 1) from by omega)⟩, lz [0, 1, 2, 4, 3] rfl h⟩, (show i - (k + 1) < i - k from by first | omega | (simp; omega))⟩
    ·
     try simp at hb4
     refine tr_exit (nx (k_seq (rgo tb hJ [1001] [_, _] [] [(_, .lit vo)] rfl rfl rfl rfl trivial (nx ?_))))
     refine tw (fun h => st_freeze hS h (m := 0) (s := 4) rfl) ?_
     refine tr_ret (fun a w h => leave1' (m := 0) rfl (st_disown h) rfl (congrArg (fun z => AV.rd (intsC z)) (show out = (usesD d i) from by grind [usesD])))

end Go.Proofs.YtnpgmdffjemnbaaGreatDoor
set_option maxHeartbeats 8000000
set_option maxRecDepth 100000
namespace Go.Proofs.YtnpgmdffjemnbaaGreatDoor
open Go.RowKit

theorem c_Uses {J : World → Prop} (hJ : Stab J) (d : Db) (i : Int) (hw : ∀ i, i < d.frames.length → (ge d.frames i).wide.length * 32 ≤ 140737488351232) : Fn Tryz.prog J 11 [.agg (dbC d), .int i] (.tup [.rd (intsC (if chdE d i = 0 then usesD d i.toNat else [])), .int (chdE d i)]) := by
 refine fn_enter (N := 16) Tryz.func11 rfl rfl (lb rfl) fun S w0 hS hJ0 => ?_
 clear hJ0
 refine k_seq (rg tb hJ [1, 1000] [_, _, _] [0] [(_, _), (_, .ptr (dbC d))] rfl rfl rfl rfl ⟨fun _ _ hk hx hl _ => r_box rfl (hl.env 0 0 _ rfl rfl) (hS _ hk.size) (js hJ hx), trivial⟩ (nx (k_seq (k_seq (rg tb hJ [0, 1, 1003] [_, _, .int (chdE d i), _] [2] [(_, _), (_, _), (_, .int (chdE d i))] rfl rfl rfl rfl ⟨hFn hS hJ (c_checked hJ (d := d) (i := i) (hw)) call_44 rfl rfl rfl rfl, trivial⟩ (nx (k_seq (rg tb hJ [0, 1, 2, 1001] [_, _] [] [(_, _), (_, _), (_, _), (_, .bool (!decide (chdE d i = (0 : Int))))] rfl rfl rfl rfl trivial (nx (tc 3 rfl rfl (fun hb1 => ?_) (fun hb1 => ?_)))))))))))
 ·
  try simp at hb1
  refine k_seq (rg tb hJ [1001, 1002] [_, _, _] [] [(_, .lit (.slice none 0 0)), (_, .int (chdE d i))] rfl rfl rfl rfl trivial (nx ?_))
  refine tw (fun h => st_nilrd h (m := 0) (s := 4) rfl) ?_
  refine tr_ret (fun a w h => leave2' (m := 0) (k := 1) rfl h rfl rfl (congrArg (fun z => AV.rd (intsC z)) (show ([] : List Int) = (if chdE d i = 0 then usesD d i.toNat else []) from by clear h; simp [hb1])) rfl)
 ·
  try simp at hb1
  refine tr_skip (nx (k_seq ?_))
  refine tw (sa 0 rfl (congrArg AV.int (show i = ((i.toNat : Nat) : Int) from by have := chdE_range hb1; omega))) ?_
  refine rg tb hJ [1002, 1003, 1004] [_, _, _, _, _] [2] [(_, .rd (intsC (usesD d i.toNat))), (_, .rd (intsC (usesD d i.toNat))), (_, .int (0 : Int))] rfl rfl rfl rfl ⟨hFn hS hJ (c_uses hJ (d := d) (i := i.toNat) (by have := chdE_range hb1; omega) (chkE_size (chdE_range hb1).1)) call_45 rfl rfl rfl rfl, trivial⟩ (nx (tr_fact (fun a w h => len_le h 0 rfl) fun hl1 => tr_ret (fun a w h => leave2' (m := 1) (k := 2) rfl h rfl rfl (congrArg (fun z => AV.rd (intsC z)) (show (usesD d i.toNat) = (if chdE d i = 0 then usesD d i.toNat else []) from by clear h; simp [hb1])) (congrArg AV.int (show (0 : Int) = (chdE d i) from by clear h; simp [hb1])))))

theorem c_Users {J : World → Prop} (hJ : Stab J) (d : Db) (i : Int) (hw : ∀ i, i < d.frames.length → (ge d.frames i).wide.length * 32 ≤ 140737488351232) : Fn Tryz.prog J 13 [.agg (dbC d), .int i] (.tup [.rd (intsC (if chdE d i = 0 then usersK d i d.frames.length else [])), .int (chdE d i)]) := by
 refine fn_enter (N := 33) Tryz.func13 rfl rfl (lb rfl) fun S w0 hS hJ0 => ?_
 refine tw st_own ?_
 refine k_seq (rgo tb hJ [1, 1000] [_, _, _] [0] [(_, _), (_, .ptr (dbC d))] rfl rfl rfl rfl ⟨fun _ _ hk hx hl _ => r_box rfl (hl.env 0 0 _ rfl rfl) (xo_new hS _ hk hx _ (Nat.le_refl _)) (jo hJ hx), trivial⟩ (nx (k_seq (k_seq (rgo tb hJ [0, 1, 1003] [_, _, .int (chdE d i), _] [2] [(_, _), (_, _), (_, .int (chdE d i))] rfl rfl rfl rfl ⟨hFo hS hJ (c_checked hJ (d := d) (i := i) (hw)) call_44 rfl rfl rfl rfl, trivial⟩ (nx (k_seq (rgo tb hJ [0, 1, 2, 1001] [_, _] [] [(_, _), (_, _), (_, _), (_, .bool (!decide (chdE d i = (0 : Int))))] rfl rfl rfl rfl trivial (nx (tc 3 rfl rfl (fun hb1 => ?_) (fun hb1 => ?_)))))))))))
 ·
  try simp at hb1
  refine k_seq (rgo tb hJ [1001, 1002] [_, _, _] [] [(_, .lit (.slice none 0 0)), (_, .int (chdE d i))] rfl rfl rfl rfl trivial (nx ?_))
  refine tw (fun h => st_nilrd h (m := 0) (s := 4) rfl) ?_
  refine tr_ret (fun a w h => leave2' (m := 0) (k := 1) rfl (st_disown h) rfl rfl (congrArg (fun z => AV.rd (intsC z)) (show ([] : List Int) = (if chdE d i = 0 then usersK d i d.frames.length else []) from by clear h; first | (rw [f1_2, if_pos hb1, show k = d.frames.length by omega]) | (simp [hb1]; done))) rfl)
 ·
  try simp at hb1
  refine tr_skip (nx (k_seq (tr_text (sq_own0 elem_28_3_1 hJ rfl rfl rfl (lb rfl) fun v1 => ?_))))
  refine sv tb rfl rfl rfl rfl (sq_end ?_)
  refine kw (lz [0, 2, 3] (env' := [(_, _), (_, _), (_, _)]) rfl) ?_
  refine nx (k_seq (k_seq (rgo tb hJ [0, 1, 2, 1000] [_] [] [(_, _), (_, _), (_, _), (_, .int (0 : Int))] rfl rfl rfl rfl trivial (nx (tr_block (tr_loop (ι := Nat × Value × (List Int)) (fun (ii' : Nat × Value × (List Int)) a w => match ii' with | (k, vo, out) => ((k ≤ d.frames.length) ∧ (out = usersK d i k) ∧ (out.length ≤ k)) ∧ St All (SO S [OB.row vo 3 1 (out.map intC)]) w0 33 [(1, .int i), (2, .ptr (dbC d)), (8, .int (((k : Nat) : Int))), (7, .lit vo)] (XO J S w0.heap.size [OB.row vo 3 1 (out.map intC)]) a w) (fun (ii' : Nat × Value × (List Int)) => match ii' with | (k, _, _) => (d.frames.length - k : Nat)) ?_ ?_))))))
  ·
   intro a w h
   exact ⟨(0, v1, ([] : List Int)), (show (0 ≤ d.frames.length) ∧ (([] : List Int) = usersK d i 0) ∧ (([] : List Int).length ≤ 0) from ⟨Nat.zero_le _, rfl, Nat.zero_le _⟩), lz [1, 2, 3, 0] rfl h⟩
  ·
   rintro ⟨k, vo, out⟩
   refine tr_and fun hF => ?_
   obtain ⟨f1_1, f1_2, f1_3⟩ := hF
   refine k_seq (k_seq (rgo tb hJ [0, 1, 2, 3, 1002, 1004] [_, _, _, .int (((d.frames.length : Nat) : Int)), _] [3] [(_, _), (_, _), (_, _), (_, _), (_, .rd (frsC d.frames)), (_, .bool (decide (((k : Nat) : Int) < ((d.frames.length : Nat) : Int))))] rfl rfl rfl rfl ⟨hLen unds_23_59 rfl rfl rfl rfl, trivial⟩ (nx (tr_fact (fun a w h => len_le h 4 rfl) fun hl1 => tc 5 rfl rfl (fun hb2 => ?_) (fun hb2 => ?_)))))
   ·
    try simp at hb2
    refine tr_skip (nx (k_seq (tr_block (k_seq (rgo tb hJ [0, 1, 2, 3, 1002, 1004] [_, _, _, _, _] [2, 4] [(_, _), (_, _), (_, _), (_, _), (_, .rd (intsC (usesD d k))), (_, .bool (decide (i ∈ (usesD d k))))] rfl rfl rfl rfl ⟨hFo hS hJ (c_uses hJ (d := d) (i := k) (by omega) (chkE_size (chdE_range hb1).1)) call_45 rfl rfl rfl rfl, hFo hS hJ (c_in hJ (xs := (usesD d k)) (n := i) ) call_46 rfl rfl rfl rfl, trivial⟩ (nx (tr_fact (fun a w h => len_le h 4 rfl) fun hl2 => tc 5 rfl rfl (fun hb3 => ?_) (fun hb3 => ?_))))))))
    ·
     try simp at hb3
     refine tr_text (sv tb rfl rfl rfl rfl (sv tb rfl rfl rfl rfl (sq (.rd (intsC ([((k : Nat) : Int)]))) rfl rfl (lb rfl) (fun _ _ h => r_build1 elem_28_3_1 zero_3 rfl (h.get 0 rfl) (xo_new hS _ h.keep h.x _ (Nat.le_refl _)) (jo hJ h.x)) (sq_appendM (f := intC) (m := 2) (s := 28) out ([((k : Nat) : Int)]) (fun _ => rfl) app_28_3 hJ hJ0 rfl rfl rfl (lb rfl) rfl rfl (fun a w h => (h.get 0 rfl)) (by have := chkE_size (chdE_range hb1).1; simp; omega) (by have := chkE_size (chdE_range hb1).1; simp; omega) fun v2 => ?_))))
     refine sv tb rfl rfl rfl rfl (sq_end ?_)
     refine kw (lz [0, 2, 5, 6, 7] (env' := [(_, _), (_, _), (_, _), (_, _), (_, _)]) rfl) ?_
     refine nx (tr_fact (fun a w h => len_le h 1 rfl) fun hl3 => rgo tb hJ [0, 2, 3, 1002] [_, .int (((k + 1 : Nat) : Int)), _] [1] [(_, _), (_, _), (_, _), (_, .int (((k + 1 : Nat) : Int)))] rfl rfl rfl rfl ⟨hAdd (by first | omega | (simp; omega) | grind [ge_mem]) rfl rfl rfl rfl rfl, trivial⟩ ?_)
     intro a w h; change ∃ j, _ ∧ _
     exact ⟨(k + 1, v2, out ++ ([((k : Nat) : Int)])), ⟨⟨(show (k + 1) ≤ d.frames.length from by omega), (show (out ++ ([((k : Nat) : Int)])) = usersK d i (k + 1) from by rw [f1_2, usersK_succ]; simp [hb3]), (show (out ++ ([((k : Nat) : Int)])).length ≤ (k + 1) from by first | omega | (simp; omega))⟩, lz [1, 2, 3, 0] rfl h⟩, (show d.frames.length - (k + 1) < d.frames.length - k from by first | omega | (simp; omega))⟩
    ·
     try simp at hb3
     refine tr_skip (nx (rgo tb hJ [0, 1, 3, 1002] [_, .int (((k + 1 : Nat) : Int)), _] [1] [(_, _), (_, _), (_, _), (_, .int (((k + 1 : Nat) : Int)))] rfl rfl rfl rfl ⟨hAdd (by first | omega | (simp; omega) | grind [ge_mem]) rfl rfl rfl rfl rfl, trivial⟩ ?_))
     intro a w h; change ∃ j, _ ∧ _
     exact ⟨(k + 1, vo, out), ⟨⟨(show (k + 1) ≤ d.frames.length from by omega), (show out = usersK d i (k + 1) from by rw [f1_2, usersK_succ]; simp [hb3]), (show out.length ≤ (k + 1) from by first | omega | (simp; omega))⟩, lz [0, 1, 3, 2] rfl h⟩, (show d.frames.length - (k + 1) < d.frames.length - k from by first | omega | (simp; omega))⟩
   ·
    try simp at hb2
    refine tr_exit (nx (k_seq (rgo tb hJ [1001, 1002] [_, _, _] [] [(_, .lit vo), (_, .int (0 : Int))] rfl rfl rfl rfl trivial (nx ?_))))
    refine tw (fun h => st_freeze hS h (m := 0) (s := 4) rfl) ?_
    refine tr_ret (fun a w h => leave2' (m := 0) (k := 1) rfl (st_disown h) rfl rfl (congrArg (fun z => AV.rd (intsC z)) (show out = (if chdE d i = 0 then usersK d i d.frames.length else []) from by clear h; first | (rw [f1_2, if_pos hb1, show k = d.frames.length by omega]) | (simp [hb1]; done))) (congrArg AV.int (show (0 : Int) = (chdE d i) from by clear h; first | (rw [f1_2, if_pos hb1, show k = d.frames.length by omega]) | (simp [hb1]; done))))

end Go.Proofs.YtnpgmdffjemnbaaGreatDoor
set_option maxHeartbeats 8000000
set_option maxRecDepth 100000
namespace Go.Proofs.YtnpgmdffjemnbaaGreatDoor
open Go.RowKit

theorem p_isSymbol {J : World → Prop} (hJ : Stab J) (M1 : Nat) (M2 : Nat) (M3 : Nat) (M4 : Nat) (M5 : Nat) (cs : List ByteArray) (vs : List ByteArray) (s : ByteArray)  : FnR Tryz.prog J 87 [OB.set keyS M1 cs, OB.set keyS M2 vs] [.ptr [.lit (.map (some M1)), .lit (.map (some M2)), .lit (.map (some M3)), .lit (.map (some M4)), .lit (.map (some M5))], .str s] (.bool (decide (s ∈ cs) || decide (s ∈ vs))) := by
 refine fn_enterR (N := 19) Tryz.func87 rfl rfl (lb rfl) fun S w0 hS hJ0 hH => ?_
 clear hJ0
 refine k_seq (rg tb hJ [0, 1] [_] [] [(_, _), (_, _)] rfl rfl rfl rfl trivial (nx (k_seq (rg tb hJ [1014] [_, _, _, _, _, .bool (decide (s ∈ cs)), _, _, _, _, _, _, .bool (decide (s ∈ vs)), _, _] [5, 12] [(_, .bool ((decide (s ∈ cs)) || (decide (s ∈ vs))))] rfl rfl rfl rfl ⟨fun _ _ hk hx hl _ => r_lookupS (Kd := keyS) (xs := cs) mapT_99_9_4 zeroF_4_set s rfl (has_now hH hk (mo 0 rfl)) (hl.dep 3 8 _ rfl rfl rfl rfl) (hl.dep 4 9 _ rfl rfl rfl rfl) hx, fun _ _ hk hx hl hc => r_lookupS (Kd := keyS) (xs := vs) mapT_99_9_4 zeroF_4_set s rfl (has_now hH hk (mo 1 rfl)) (hl.dep 10 15 _ rfl rfl rfl hc) (hl.dep 11 16 _ rfl rfl rfl hc) hx, trivial⟩ (nx (tr_ret (fun a w h => leave1' (m := 0) rfl h rfl (congrArg AV.bool (show ((decide (s ∈ cs)) || (decide (s ∈ vs))) = (decide (s ∈ cs) || decide (s ∈ vs)) from by first | rfl | grind [ge_mem])))))))))

theorem p_text1 {J : World → Prop} (hJ : Stab J) (M1 : Nat) (M2 : Nat) (M3 : Nat) (M4 : Nat) (M5 : Nat) (cs : List ByteArray) (vs : List ByteArray) (s : ByteArray)  : FnR Tryz.prog J 123 [OB.set keyS M1 cs, OB.set keyS M2 vs] [.str s, .ptr [.ptr [.lit (.map (some M1)), .lit (.map (some M2)), .lit (.map (some M3)), .lit (.map (some M4)), .lit (.map (some M5))]]] (.bool (!(decide (s ∈ cs) || decide (s ∈ vs)))) := by
 refine fn_enterR (N := 8) Tryz.func123 rfl rfl (lb rfl) fun S w0 hS hJ0 hH => ?_
 clear hJ0
 refine k_seq (rg tb hJ [0, 1] [_] [] [(_, _), (_, _)] rfl rfl rfl rfl trivial (nx (k_seq (rg tb hJ [1004] [_, _, .bool (decide (s ∈ cs) || decide (s ∈ vs)), _, _] [2] [(_, .bool (!(decide (s ∈ cs) || decide (s ∈ vs))))] rfl rfl rfl rfl ⟨fun _ _ hk hx hl _ => r_fnR (p_isSymbol hJ (M1 := M1) (M2 := M2) (M3 := M3) (M4 := M4) (M5 := M5) (cs := cs) (vs := vs) (s := s) ) call_87 rfl (nm hS hk) (hx) (has_cons (has_now hH hk (mo 0 rfl)) (has_cons (has_now hH hk (mo 1 rfl)) has_nil)) (relL_cons (hl.dep 0 4 _ rfl rfl rfl rfl) (relL_cons (hl.dep 1 5 _ rfl rfl rfl rfl) relL_nil)) (js hJ hx), trivial⟩ (nx (tr_ret (fun a w h => leave1' (m := 0) rfl h rfl rfl)))))))

theorem p_IndexFuncS {J : World → Prop} (hJ : Stab J) (xs : List ByteArray) (f : FuncId) (caps : List AV) (Os : List OB) (p : ByteArray → Bool) (hf : ∀ q', FnR Tryz.prog J f Os ([.str (q')] ++ caps) (.bool (p q'))) (hk0 : CallOk Tryz.prog f) : FnR Tryz.prog J 129 Os [.rd (strsC xs), .fn f caps] (.int (idxF p xs)) := by
 refine fn_enterR (N := 19) Tryz.func129 rfl rfl (lb rfl) fun S w0 hS hJ0 hH => ?_
 clear hJ0
 refine tr_fact (fun a w h => len_le h 0 rfl) fun hl1 => k_seq (rg tb hJ [0, 1] [_] [] [(_, _), (_, _)] rfl rfl rfl rfl trivial (nx (k_seq (k_seq (rg tb hJ [0, 1, 1001, 1002] [_, _, _] [1] [(_, _), (_, _), (_, .int (((xs.length : Nat) : Int))), (_, .int (0 : Int))] rfl rfl rfl rfl ⟨hLen unds_22_9 rfl rfl rfl rfl, trivial⟩ (nx (tr_block (tr_loop (ι := Nat) (fun (k : Nat) a w => ((k ≤ xs.length) ∧ (∀ j, j < k → p (ge xs j) = false)) ∧ St All S w0 19 [(0, .rd (strsC xs)), (1, .fn f caps), (7, .int (((xs.length : Nat) : Int))), (8, .int (((k : Nat) : Int)))] J a w) (fun (k : Nat) => (xs.length - k : Nat)) ?_ ?_))))))))
 ·
  intro a w h
  exact ⟨0, (show (0 ≤ xs.length) ∧ (∀ j, j < 0 → p (ge xs j) = false) from ⟨Nat.zero_le _, fun j hj => by omega⟩), lz [0, 1, 2, 3] rfl h⟩
 ·
  rintro k
  refine tr_and fun hF => ?_
  obtain ⟨f1_1, f1_2⟩ := hF
  refine k_seq (rg tb hJ [0, 1, 2, 3, 1000] [_] [] [(_, _), (_, _), (_, _), (_, _), (_, .bool (decide (((k : Nat) : Int) < ((xs.length : Nat) : Int))))] rfl rfl rfl rfl trivial (nx (k_seq (tc 4 rfl rfl (fun hb1 => ?_) (fun hb1 => ?_)))))
  ·
   try simp at hb1
   refine tr_skip (nx (k_seq (tr_block (k_seq (rg tb hJ [0, 1, 2, 3, 1001] [_, _] [] [(_, _), (_, _), (_, _), (_, _), (_, .int (((k : Nat) : Int)))] rfl rfl rfl rfl trivial (nx (k_seq (rg tb hJ [0, 1, 2, 3, 4, 1005] [_, _, _, .ptr [.lit (.string (ge xs k))], _, _] [3, 5] [(_, _), (_, _), (_, _), (_, _), (_, _), (_, .bool (p (ge xs k)))] rfl rfl rfl rfl ⟨hIx elem_22_9_1 (by first | omega | (simp; omega) | grind [ge_mem]) rfl rfl rfl rfl rfl rfl, fun _ _ hk hx hl _ => r_fnv (hf (ge xs k)) hk0 rfl (hl.dep 0 11 _ rfl rfl rfl rfl) (nm hS hk) (hx) (fun _ ho => has_now hH hk ho) (relL_cons (hl.dep 4 15 _ rfl rfl rfl rfl) relL_nil) (js hJ hx), trivial⟩ (nx (tc 5 rfl rfl (fun hb2 => ?_) (fun hb2 => ?_)))))))))))
   ·
    try simp at hb2
    refine k_seq (rg tb hJ [1001] [_, _] [] [(_, .int (((k : Nat) : Int)))] rfl rfl rfl rfl trivial (nx (tr_ret (fun a w h => leave1' (m := 0) rfl h rfl (congrArg AV.int (show (((k : Nat) : Int)) = (idxF p xs) from by first | exact (idxF_hit hb1 hb2 f1_2).symm | exact (idxF_none fun j hj => f1_2 j (by omega)).symm))))))
   ·
    try simp at hb2
    refine tr_skip (nx (rg tb hJ [0, 1, 2, 1001] [.int (((k + 1 : Nat) : Int)), _] [0] [(_, _), (_, _), (_, _), (_, .int (((k + 1 : Nat) : Int)))] rfl rfl rfl rfl ⟨hAdd (by first | omega | (simp; omega) | grind [ge_mem]) rfl rfl rfl rfl rfl, trivial⟩ ?_))
    intro a w h; change ∃ j, _ ∧ _
    exact ⟨k + 1, ⟨⟨(show (k + 1) ≤ xs.length from by omega), (show ∀ j, j < (k + 1) → p (ge xs j) = false from step_all f1_2 hb2)⟩, lz [0, 1, 2, 3] rfl h⟩, (show xs.length - (k + 1) < xs.length - k from by first | omega | (simp; omega))⟩
  ·
   try simp at hb1
   refine tr_exit (nx (k_seq (rg tb hJ [1000] [_] [] [(_, .int (-1 : Int))] rfl rfl rfl rfl trivial (nx (tr_ret (fun a w h => leave1' (m := 0) rfl h rfl (congrArg AV.int (show (-1 : Int) = (idxF p xs) from by first | exact (idxF_hit hb1 hb2 f1_2).symm | exact (idxF_none fun j hj => f1_2 j (by omega)).symm))))))))

end Go.Proofs.YtnpgmdffjemnbaaGreatDoor
set_option maxHeartbeats 8000000
set_option maxRecDepth 100000
namespace Go.Proofs.YtnpgmdffjemnbaaGreatDoor
open Go.RowKit

theorem p_ContainsFuncS {J : World → Prop} (hJ : Stab J) (xs : List ByteArray) (f : FuncId) (caps : List AV) (Os : List OB) (p : ByteArray → Bool) (hf : ∀ q', FnR Tryz.prog J f Os ([.str (q')] ++ caps) (.bool (p q'))) (hk0 : CallOk Tryz.prog f) : FnR Tryz.prog J 93 Os [.rd (strsC xs), .fn f caps] (.bool (xs.any p)) := by
 refine fn_enterR (N := 9) Tryz.func93 rfl rfl (lb rfl) fun S w0 hS hJ0 hH => ?_
 clear hJ0
 refine tr_fact (fun a w h => len_le h 0 rfl) fun hl1 => k_seq (rg tb hJ [0, 1] [_] [] [(_, _), (_, _)] rfl rfl rfl rfl trivial (nx (k_seq (rg tb hJ [1004] [_, _, .int (idxF p xs), _, _] [2] [(_, .bool (decide ((0 : Int) ≤ idxF p xs)))] rfl rfl rfl rfl ⟨fun _ _ hk hx hl _ => r_fnR (p_IndexFuncS hJ (xs := xs) (f := f) (caps := caps) (Os := Os) (p := p) (hf) (hk0)) call_129 rfl (nm hS hk) (hx) (fun _ ho => has_now hH hk ho) (relL_cons (hl.dep 0 5 _ rfl rfl rfl rfl) (relL_cons (hl.dep 1 6 _ rfl rfl rfl rfl) relL_nil)) (js hJ hx), trivial⟩ (nx (tr_ret (fun a w h => leave1' (m := 0) rfl h rfl (congrArg AV.bool (show (decide ((0 : Int) ≤ idxF p xs)) = (xs.any p) from by rw [← idxF_any])))))))))

theorem p_IndexFuncH {J : World → Prop} (hJ : Stab J) (xs : List Hy) (f : FuncId) (caps : List AV) (Os : List OB) (p : Hy → Bool) (hf : ∀ q', FnR Tryz.prog J f Os ([.agg (hyC (q'))] ++ caps) (.bool (p q'))) (hk0 : CallOk Tryz.prog f) : FnR Tryz.prog J 131 Os [.rd (hysC xs), .fn f caps] (.int (idxF p xs)) := by
 refine fn_enterR (N := 19) Tryz.func131 rfl rfl (lb rfl) fun S w0 hS hJ0 hH => ?_
 clear hJ0
 refine tr_fact (fun a w h => len_le h 0 rfl) fun hl1 => k_seq (rg tb hJ [0, 1] [_] [] [(_, _), (_, _)] rfl rfl rfl rfl trivial (nx (k_seq (k_seq (rg tb hJ [0, 1, 1001, 1002] [_, _, _] [1] [(_, _), (_, _), (_, .int (((xs.length : Nat) : Int))), (_, .int (0 : Int))] rfl rfl rfl rfl ⟨hLen unds_56_109 rfl rfl rfl rfl, trivial⟩ (nx (tr_block (tr_loop (ι := Nat) (fun (k : Nat) a w => ((k ≤ xs.length) ∧ (∀ j, j < k → p (ge xs j) = false)) ∧ St All S w0 19 [(0, .rd (hysC xs)), (1, .fn f caps), (7, .int (((xs.length : Nat) : Int))), (8, .int (((k : Nat) : Int)))] J a w) (fun (k : Nat) => (xs.length - k : Nat)) ?_ ?_))))))))
 ·
  intro a w h
  exact ⟨0, (show (0 ≤ xs.length) ∧ (∀ j, j < 0 → p (ge xs j) = false) from ⟨Nat.zero_le _, fun j hj => by omega⟩), lz [0, 1, 2, 3] rfl h⟩
 ·
  rintro k
  refine tr_and fun hF => ?_
  obtain ⟨f1_1, f1_2⟩ := hF
  refine k_seq (rg tb hJ [0, 1, 2, 3, 1000] [_] [] [(_, _), (_, _), (_, _), (_, _), (_, .bool (decide (((k : Nat) : Int) < ((xs.length : Nat) : Int))))] rfl rfl rfl rfl trivial (nx (k_seq (tc 4 rfl rfl (fun hb1 => ?_) (fun hb1 => ?_)))))
  ·
   try simp at hb1
   refine tr_skip (nx (k_seq (tr_block (k_seq (rg tb hJ [0, 1, 2, 3, 1001] [_, _] [] [(_, _), (_, _), (_, _), (_, _), (_, .int (((k : Nat) : Int)))] rfl rfl rfl rfl trivial (nx (k_seq (rg tb hJ [0, 1, 2, 3, 4, 1005] [_, _, _, .ptr (hyC (ge xs k)), _, _] [3, 5] [(_, _), (_, _), (_, _), (_, _), (_, _), (_, .bool (p (ge xs k)))] rfl rfl rfl rfl ⟨hIx elem_56_109_3 (by first | omega | (simp; omega) | grind [ge_mem]) rfl rfl rfl rfl rfl rfl, fun _ _ hk hx hl _ => r_fnv (hf (ge xs k)) hk0 rfl (hl.dep 0 11 _ rfl rfl rfl rfl) (nm hS hk) (hx) (fun _ ho => has_now hH hk ho) (relL_cons (hl.dep 4 15 _ rfl rfl rfl rfl) relL_nil) (js hJ hx), trivial⟩ (nx (tc 5 rfl rfl (fun hb2 => ?_) (fun hb2 => ?_)))))))))))
   ·
    try simp at hb2
    refine k_seq (rg tb hJ [1001] [_, _] [] [(_, .int (((k : Nat) : Int)))] rfl rfl rfl rfl trivial (nx (tr_ret (fun a w h => leave1' (m := 0) rfl h rfl (congrArg AV.int (show (((k : Nat) : Int)) = (idxF p xs) from by first | exact (idxF_hit hb1 hb2 f1_2).symm | exact (idxF_none fun j hj => f1_2 j (by omega)).symm))))))
   ·
    try simp at hb2
    refine tr_skip (nx (rg tb hJ [0, 1, 2, 1001] [.int (((k + 1 : Nat) : Int)), _] [0] [(_, _), (_, _), (_, _), (_, .int (((k + 1 : Nat) : Int)))] rfl rfl rfl rfl ⟨hAdd (by first | omega | (simp; omega) | grind [ge_mem]) rfl rfl rfl rfl rfl, trivial⟩ ?_))
    intro a w h; change ∃ j, _ ∧ _
    exact ⟨k + 1, ⟨⟨(show (k + 1) ≤ xs.length from by omega), (show ∀ j, j < (k + 1) → p (ge xs j) = false from step_all f1_2 hb2)⟩, lz [0, 1, 2, 3] rfl h⟩, (show xs.length - (k + 1) < xs.length - k from by first | omega | (simp; omega))⟩
  ·
   try simp at hb1
   refine tr_exit (nx (k_seq (rg tb hJ [1000] [_] [] [(_, .int (-1 : Int))] rfl rfl rfl rfl trivial (nx (tr_ret (fun a w h => leave1' (m := 0) rfl h rfl (congrArg AV.int (show (-1 : Int) = (idxF p xs) from by first | exact (idxF_hit hb1 hb2 f1_2).symm | exact (idxF_none fun j hj => f1_2 j (by omega)).symm))))))))

theorem p_ContainsFuncH {J : World → Prop} (hJ : Stab J) (xs : List Hy) (f : FuncId) (caps : List AV) (Os : List OB) (p : Hy → Bool) (hf : ∀ q', FnR Tryz.prog J f Os ([.agg (hyC (q'))] ++ caps) (.bool (p q'))) (hk0 : CallOk Tryz.prog f) : FnR Tryz.prog J 97 Os [.rd (hysC xs), .fn f caps] (.bool (xs.any p)) := by
 refine fn_enterR (N := 9) Tryz.func97 rfl rfl (lb rfl) fun S w0 hS hJ0 hH => ?_
 clear hJ0
 refine tr_fact (fun a w h => len_le h 0 rfl) fun hl1 => k_seq (rg tb hJ [0, 1] [_] [] [(_, _), (_, _)] rfl rfl rfl rfl trivial (nx (k_seq (rg tb hJ [1004] [_, _, .int (idxF p xs), _, _] [2] [(_, .bool (decide ((0 : Int) ≤ idxF p xs)))] rfl rfl rfl rfl ⟨fun _ _ hk hx hl _ => r_fnR (p_IndexFuncH hJ (xs := xs) (f := f) (caps := caps) (Os := Os) (p := p) (hf) (hk0)) call_131 rfl (nm hS hk) (hx) (fun _ ho => has_now hH hk ho) (relL_cons (hl.dep 0 5 _ rfl rfl rfl rfl) (relL_cons (hl.dep 1 6 _ rfl rfl rfl rfl) relL_nil)) (js hJ hx), trivial⟩ (nx (tr_ret (fun a w h => leave1' (m := 0) rfl h rfl (congrArg AV.bool (show (decide ((0 : Int) ≤ idxF p xs)) = (xs.any p) from by rw [← idxF_any])))))))))

theorem p_IndexFuncP {J : World → Prop} (hJ : Stab J) (xs : List Pr) (f : FuncId) (caps : List AV) (Os : List OB) (p : Pr → Bool) (hf : ∀ q', FnR Tryz.prog J f Os ([.agg (prC (q'))] ++ caps) (.bool (p q'))) (hk0 : CallOk Tryz.prog f) : FnR Tryz.prog J 174 Os [.rd (prsC xs), .fn f caps] (.int (idxF p xs)) := by
 refine fn_enterR (N := 19) Tryz.func174 rfl rfl (lb rfl) fun S w0 hS hJ0 hH => ?_
 clear hJ0
 refine tr_fact (fun a w h => len_le h 0 rfl) fun hl1 => k_seq (rg tb hJ [0, 1] [_] [] [(_, _), (_, _)] rfl rfl rfl rfl trivial (nx (k_seq (k_seq (rg tb hJ [0, 1, 1001, 1002] [_, _, _] [1] [(_, _), (_, _), (_, .int (((xs.length : Nat) : Int))), (_, .int (0 : Int))] rfl rfl rfl rfl ⟨hLen unds_57_148 rfl rfl rfl rfl, trivial⟩ (nx (tr_block (tr_loop (ι := Nat) (fun (k : Nat) a w => ((k ≤ xs.length) ∧ (∀ j, j < k → p (ge xs j) = false)) ∧ St All S w0 19 [(0, .rd (prsC xs)), (1, .fn f caps), (7, .int (((xs.length : Nat) : Int))), (8, .int (((k : Nat) : Int)))] J a w) (fun (k : Nat) => (xs.length - k : Nat)) ?_ ?_))))))))
 ·
  intro a w h
  exact ⟨0, (show (0 ≤ xs.length) ∧ (∀ j, j < 0 → p (ge xs j) = false) from ⟨Nat.zero_le _, fun j hj => by omega⟩), lz [0, 1, 2, 3] rfl h⟩
 ·
  rintro k
  refine tr_and fun hF => ?_
  obtain ⟨f1_1, f1_2⟩ := hF
  refine k_seq (rg tb hJ [0, 1, 2, 3, 1000] [_] [] [(_, _), (_, _), (_, _), (_, _), (_, .bool (decide (((k : Nat) : Int) < ((xs.length : Nat) : Int))))] rfl rfl rfl rfl trivial (nx (k_seq (tc 4 rfl rfl (fun hb1 => ?_) (fun hb1 => ?_)))))
  ·
   try simp at hb1
   refine tr_skip (nx (k_seq (tr_block (k_seq (rg tb hJ [0, 1, 2, 3, 1001] [_, _] [] [(_, _), (_, _), (_, _), (_, _), (_, .int (((k : Nat) : Int)))] rfl rfl rfl rfl trivial (nx (k_seq (rg tb hJ [0, 1, 2, 3, 4, 1005] [_, _, _, .ptr (prC (ge xs k)), _, _] [3, 5] [(_, _), (_, _), (_, _), (_, _), (_, _), (_, .bool (p (ge xs k)))] rfl rfl rfl rfl ⟨hIx elem_57_148_2 (by first | omega | (simp; omega) | grind [ge_mem]) rfl rfl rfl rfl rfl rfl, fun _ _ hk hx hl _ => r_fnv (hf (ge xs k)) hk0 rfl (hl.dep 0 11 _ rfl rfl rfl rfl) (nm hS hk) (hx) (fun _ ho => has_now hH hk ho) (relL_cons (hl.dep 4 15 _ rfl rfl rfl rfl) relL_nil) (js hJ hx), trivial⟩ (nx (tc 5 rfl rfl (fun hb2 => ?_) (fun hb2 => ?_)))))))))))
   ·
    try simp at hb2
    refine k_seq (rg tb hJ [1001] [_, _] [] [(_, .int (((k : Nat) : Int)))] rfl rfl rfl rfl trivial (nx (tr_ret (fun a w h => leave1' (m := 0) rfl h rfl (congrArg AV.int (show (((k : Nat) : Int)) = (idxF p xs) from by first | exact (idxF_hit hb1 hb2 f1_2).symm | exact (idxF_none fun j hj => f1_2 j (by omega)).symm))))))
   ·
    try simp at hb2
    refine tr_skip (nx (rg tb hJ [0, 1, 2, 1001] [.int (((k + 1 : Nat) : Int)), _] [0] [(_, _), (_, _), (_, _), (_, .int (((k + 1 : Nat) : Int)))] rfl rfl rfl rfl ⟨hAdd (by first | omega | (simp; omega) | grind [ge_mem]) rfl rfl rfl rfl rfl, trivial⟩ ?_))
    intro a w h; change ∃ j, _ ∧ _
    exact ⟨k + 1, ⟨⟨(show (k + 1) ≤ xs.length from by omega), (show ∀ j, j < (k + 1) → p (ge xs j) = false from step_all f1_2 hb2)⟩, lz [0, 1, 2, 3] rfl h⟩, (show xs.length - (k + 1) < xs.length - k from by first | omega | (simp; omega))⟩
  ·
   try simp at hb1
   refine tr_exit (nx (k_seq (rg tb hJ [1000] [_] [] [(_, .int (-1 : Int))] rfl rfl rfl rfl trivial (nx (tr_ret (fun a w h => leave1' (m := 0) rfl h rfl (congrArg AV.int (show (-1 : Int) = (idxF p xs) from by first | exact (idxF_hit hb1 hb2 f1_2).symm | exact (idxF_none fun j hj => f1_2 j (by omega)).symm))))))))

theorem p_IndexFuncF {J : World → Prop} (hJ : Stab J) (xs : List Fr) (f : FuncId) (caps : List AV) (Os : List OB) (p : Fr → Bool) (hf : ∀ q', FnR Tryz.prog J f Os ([.agg (frC (q'))] ++ caps) (.bool (p q'))) (hk0 : CallOk Tryz.prog f) : FnR Tryz.prog J 69 Os [.rd (frsC xs), .fn f caps] (.int (idxF p xs)) := by
 refine fn_enterR (N := 19) Tryz.func69 rfl rfl (lb rfl) fun S w0 hS hJ0 hH => ?_
 clear hJ0
 refine tr_fact (fun a w h => len_le h 0 rfl) fun hl1 => k_seq (rg tb hJ [0, 1] [_] [] [(_, _), (_, _)] rfl rfl rfl rfl trivial (nx (k_seq (k_seq (rg tb hJ [0, 1, 1001, 1002] [_, _, _] [1] [(_, _), (_, _), (_, .int (((xs.length : Nat) : Int))), (_, .int (0 : Int))] rfl rfl rfl rfl ⟨hLen unds_23_59 rfl rfl rfl rfl, trivial⟩ (nx (tr_block (tr_loop (ι := Nat) (fun (k : Nat) a w => ((k ≤ xs.length) ∧ (∀ j, j < k → p (ge xs j) = false)) ∧ St All S w0 19 [(0, .rd (frsC xs)), (1, .fn f caps), (7, .int (((xs.length : Nat) : Int))), (8, .int (((k : Nat) : Int)))] J a w) (fun (k : Nat) => (xs.length - k : Nat)) ?_ ?_))))))))
 ·
  intro a w h
  exact ⟨0, (show (0 ≤ xs.length) ∧ (∀ j, j < 0 → p (ge xs j) = false) from ⟨Nat.zero_le _, fun j hj => by omega⟩), lz [0, 1, 2, 3] rfl h⟩
 ·
  rintro k
  refine tr_and fun hF => ?_
  obtain ⟨f1_1, f1_2⟩ := hF
  refine k_seq (rg tb hJ [0, 1, 2, 3, 1000] [_] [] [(_, _), (_, _), (_, _), (_, _), (_, .bool (decide (((k : Nat) : Int) < ((xs.length : Nat) : Int))))] rfl rfl rfl rfl trivial (nx (k_seq (tc 4 rfl rfl (fun hb1 => ?_) (fun hb1 => ?_)))))
  ·
   try simp at hb1
   refine tr_skip (nx (k_seq (tr_block (k_seq (rg tb hJ [0, 1, 2, 3, 1001] [_, _] [] [(_, _), (_, _), (_, _), (_, _), (_, .int (((k : Nat) : Int)))] rfl rfl rfl rfl trivial (nx (k_seq (rg tb hJ [0, 1, 2, 3, 4, 1005] [_, _, _, .ptr (frC (ge xs k)), _, _] [3, 5] [(_, _), (_, _), (_, _), (_, _), (_, _), (_, .bool (p (ge xs k)))] rfl rfl rfl rfl ⟨hIx elem_23_59_8 (by first | omega | (simp; omega) | grind [ge_mem]) rfl rfl rfl rfl rfl rfl, fun _ _ hk hx hl _ => r_fnv (hf (ge xs k)) hk0 rfl (hl.dep 0 11 _ rfl rfl rfl rfl) (nm hS hk) (hx) (fun _ ho => has_now hH hk ho) (relL_cons (hl.dep 4 15 _ rfl rfl rfl rfl) relL_nil) (js hJ hx), trivial⟩ (nx (tc 5 rfl rfl (fun hb2 => ?_) (fun hb2 => ?_)))))))))))
   ·
    try simp at hb2
    refine k_seq (rg tb hJ [1001] [_, _] [] [(_, .int (((k : Nat) : Int)))] rfl rfl rfl rfl trivial (nx (tr_ret (fun a w h => leave1' (m := 0) rfl h rfl (congrArg AV.int (show (((k : Nat) : Int)) = (idxF p xs) from by first | exact (idxF_hit hb1 hb2 f1_2).symm | exact (idxF_none fun j hj => f1_2 j (by omega)).symm))))))
   ·
    try simp at hb2
    refine tr_skip (nx (rg tb hJ [0, 1, 2, 1001] [.int (((k + 1 : Nat) : Int)), _] [0] [(_, _), (_, _), (_, _), (_, .int (((k + 1 : Nat) : Int)))] rfl rfl rfl rfl ⟨hAdd (by first | omega | (simp; omega) | grind [ge_mem]) rfl rfl rfl rfl rfl, trivial⟩ ?_))
    intro a w h; change ∃ j, _ ∧ _
    exact ⟨k + 1, ⟨⟨(show (k + 1) ≤ xs.length from by omega), (show ∀ j, j < (k + 1) → p (ge xs j) = false from step_all f1_2 hb2)⟩, lz [0, 1, 2, 3] rfl h⟩, (show xs.length - (k + 1) < xs.length - k from by first | omega | (simp; omega))⟩
  ·
   try simp at hb1
   refine tr_exit (nx (k_seq (rg tb hJ [1000] [_] [] [(_, .int (-1 : Int))] rfl rfl rfl rfl trivial (nx (tr_ret (fun a w h => leave1' (m := 0) rfl h rfl (congrArg AV.int (show (-1 : Int) = (idxF p xs) from by first | exact (idxF_hit hb1 hb2 f1_2).symm | exact (idxF_none fun j hj => f1_2 j (by omega)).symm))))))))

theorem p_ContainsFuncF {J : World → Prop} (hJ : Stab J) (xs : List Fr) (f : FuncId) (caps : List AV) (Os : List OB) (p : Fr → Bool) (hf : ∀ q', FnR Tryz.prog J f Os ([.agg (frC (q'))] ++ caps) (.bool (p q'))) (hk0 : CallOk Tryz.prog f) : FnR Tryz.prog J 40 Os [.rd (frsC xs), .fn f caps] (.bool (xs.any p)) := by
 refine fn_enterR (N := 9) Tryz.func40 rfl rfl (lb rfl) fun S w0 hS hJ0 hH => ?_
 clear hJ0
 refine tr_fact (fun a w h => len_le h 0 rfl) fun hl1 => k_seq (rg tb hJ [0, 1] [_] [] [(_, _), (_, _)] rfl rfl rfl rfl trivial (nx (k_seq (rg tb hJ [1004] [_, _, .int (idxF p xs), _, _] [2] [(_, .bool (decide ((0 : Int) ≤ idxF p xs)))] rfl rfl rfl rfl ⟨fun _ _ hk hx hl _ => r_fnR (p_IndexFuncF hJ (xs := xs) (f := f) (caps := caps) (Os := Os) (p := p) (hf) (hk0)) call_69 rfl (nm hS hk) (hx) (fun _ ho => has_now hH hk ho) (relL_cons (hl.dep 0 5 _ rfl rfl rfl rfl) (relL_cons (hl.dep 1 6 _ rfl rfl rfl rfl) relL_nil)) (js hJ hx), trivial⟩ (nx (tr_ret (fun a w h => leave1' (m := 0) rfl h rfl (congrArg AV.bool (show (decide ((0 : Int) ≤ idxF p xs)) = (xs.any p) from by rw [← idxF_any])))))))))

theorem p_EqualS {J : World → Prop} (hJ : Stab J) (xs : List ByteArray) (ys : List ByteArray)  : Fn Tryz.prog J 154 [.rd (strsC xs), .rd (strsC ys)] (.bool (decide (xs = ys))) := by
 refine fn_enter (N := 26) Tryz.func154 rfl rfl (lb rfl) fun S w0 hS hJ0 => ?_
 clear hJ0
 refine tr_fact (fun a w h => len_le h 0 rfl) fun hl1 => tr_fact (fun a w h => len_le h 1 rfl) fun hl2 => k_seq (rg tb hJ [0, 1] [_] [] [(_, _), (_, _)] rfl rfl rfl rfl trivial (nx (k_seq (k_seq (rg tb hJ [0, 1, 1004] [_, .int (((xs.length : Nat) : Int)), _, .int (((ys.length : Nat) : Int)), _] [1, 3] [(_, _), (_, _), (_, .bool (!decide (((xs.length : Nat) : Int) = ((ys.length : Nat) : Int))))] rfl rfl rfl rfl ⟨hLen unds_22_9 rfl rfl rfl rfl, hLen unds_22_9 rfl rfl rfl rfl, trivial⟩ (nx (tc 2 rfl rfl (fun hb1 => ?_) (fun hb1 => ?_))))))))
 ·
  try simp at hb1
  refine k_seq (rg tb hJ [1000] [_] [] [(_, .bool false)] rfl rfl rfl rfl trivial (nx (tr_ret (fun a w h => leave1' (m := 0) rfl h rfl (congrArg AV.bool (show false = (decide (xs = ys)) from by first | (have := ext_ge (xs := xs) (ys := ys) (by omega) (fun j hj => f1_2 j (by omega)); simp [this]; done) | (symm; rw [decide_eq_false_iff_not]; intro e; subst e; simp_all; done)))))))
 ·
  try simp at hb1
  refine tr_skip (nx (k_seq (k_seq (rg tb hJ [0, 1, 1001, 1002] [_, _, _] [1] [(_, _), (_, _), (_, .int (((xs.length : Nat) : Int))), (_, .int (0 : Int))] rfl rfl rfl rfl ⟨hLen unds_22_9 rfl rfl rfl rfl, trivial⟩ (nx (tr_block (tr_loop (ι := Nat) (fun (k : Nat) a w => ((k ≤ xs.length) ∧ (∀ j, j < k → ge xs j = ge ys j)) ∧ St All S w0 26 [(0, .rd (strsC xs)), (1, .rd (strsC ys)), (12, .int (((xs.length : Nat) : Int))), (13, .int (((k : Nat) : Int)))] J a w) (fun (k : Nat) => (xs.length - k : Nat)) ?_ ?_)))))))
  ·
   intro a w h
   exact ⟨0, (show (0 ≤ xs.length) ∧ (∀ j, j < 0 → ge xs j = ge ys j) from ⟨Nat.zero_le _, fun j hj => by omega⟩), lz [0, 1, 2, 3] rfl h⟩
  ·
   rintro k
   refine tr_and fun hF => ?_
   obtain ⟨f1_1, f1_2⟩ := hF
   refine k_seq (rg tb hJ [0, 1, 2, 3, 1000] [_] [] [(_, _), (_, _), (_, _), (_, _), (_, .bool (decide (((k : Nat) : Int) < ((xs.length : Nat) : Int))))] rfl rfl rfl rfl trivial (nx (k_seq (tc 4 rfl rfl (fun hb2 => ?_) (fun hb2 => ?_)))))
   ·
    try simp at hb2
    refine tr_skip (nx (k_seq (tr_block (k_seq (rg tb hJ [0, 1, 2, 3, 1001] [_, _] [] [(_, _), (_, _), (_, _), (_, _), (_, .int (((k : Nat) : Int)))] rfl rfl rfl rfl trivial (nx (k_seq (rg tb hJ [0, 1, 2, 3, 1008] [_, _, .ptr [.lit (.string (ge xs k))], _, _, _, .ptr [.lit (.string (ge ys k))], _, _] [2, 6] [(_, _), (_, _), (_, _), (_, _), (_, .bool (!decide ((ge xs k) = (ge ys k))))] rfl rfl rfl rfl ⟨hIx elem_22_9_1 (by first | omega | (simp; omega) | grind [ge_mem]) rfl rfl rfl rfl rfl rfl, hIx elem_22_9_1 (by first | omega | (simp; omega) | grind [ge_mem]) rfl rfl rfl rfl rfl rfl, trivial⟩ (nx (tc 4 rfl rfl (fun hb3 => ?_) (fun hb3 => ?_)))))))))))
    ·
     try simp at hb3
     refine k_seq (rg tb hJ [1000] [_] [] [(_, .bool false)] rfl rfl rfl rfl trivial (nx (tr_ret (fun a w h => leave1' (m := 0) rfl h rfl (congrArg AV.bool (show false = (decide (xs = ys)) from by first | (have := ext_ge (xs := xs) (ys := ys) (by omega) (fun j hj => f1_2 j (by omega)); simp [this]; done) | (symm; rw [decide_eq_false_iff_not]; intro e; subst e; simp_all; done)))))))
    ·
     try simp at hb3
     refine tr_skip (nx (rg tb hJ [0, 1, 2, 1001] [.int (((k + 1 : Nat) : Int)), _] [0] [(_, _), (_, _), (_, _), (_, .int (((k + 1 : Nat) : Int)))] rfl rfl rfl rfl ⟨hAdd (by first | omega | (simp; omega) | grind [ge_mem]) rfl rfl rfl rfl rfl, trivial⟩ ?_))
     intro a w h; change ∃ j, _ ∧ _
     exact ⟨k + 1, ⟨⟨(show (k + 1) ≤ xs.length from by omega), (show ∀ j, j < (k + 1) → ge xs j = ge ys j from step_all f1_2 hb3)⟩, lz [0, 1, 2, 3] rfl h⟩, (show xs.length - (k + 1) < xs.length - k from by first | omega | (simp; omega))⟩
   ·
    try simp at hb2
    refine tr_exit (nx (k_seq (rg tb hJ [1000] [_] [] [(_, .bool true)] rfl rfl rfl rfl trivial (nx (tr_ret (fun a w h => leave1' (m := 0) rfl h rfl (congrArg AV.bool (show true = (decide (xs = ys)) from by first | (have := ext_ge (xs := xs) (ys := ys) (by omega) (fun j hj => f1_2 j (by omega)); simp [this]; done) | (symm; rw [decide_eq_false_iff_not]; intro e; subst e; simp_all; done)))))))))

theorem p_EqualI {J : World → Prop} (hJ : Stab J) (xs : List Int) (ys : List Int)  : Fn Tryz.prog J 14 [.rd (intsC xs), .rd (intsC ys)] (.bool (decide (xs = ys))) := by
 refine fn_enter (N := 26) Tryz.func14 rfl rfl (lb rfl) fun S w0 hS hJ0 => ?_
 clear hJ0
 refine tr_fact (fun a w h => len_le h 0 rfl) fun hl1 => tr_fact (fun a w h => len_le h 1 rfl) fun hl2 => k_seq (rg tb hJ [0, 1] [_] [] [(_, _), (_, _)] rfl rfl rfl rfl trivial (nx (k_seq (k_seq (rg tb hJ [0, 1, 1004] [_, .int (((xs.length : Nat) : Int)), _, .int (((ys.length : Nat) : Int)), _] [1, 3] [(_, _), (_, _), (_, .bool (!decide (((xs.length : Nat) : Int) = ((ys.length : Nat) : Int))))] rfl rfl rfl rfl ⟨hLen unds_28_3 rfl rfl rfl rfl, hLen unds_28_3 rfl rfl rfl rfl, trivial⟩ (nx (tc 2 rfl rfl (fun hb1 => ?_) (fun hb1 => ?_))))))))
 ·
  try simp at hb1
  refine k_seq (rg tb hJ [1000] [_] [] [(_, .bool false)] rfl rfl rfl rfl trivial (nx (tr_ret (fun a w h => leave1' (m := 0) rfl h rfl (congrArg AV.bool (show false = (decide (xs = ys)) from by first | (have := ext_ge (xs := xs) (ys := ys) (by omega) (fun j hj => f1_2 j (by omega)); simp [this]; done) | (symm; rw [decide_eq_false_iff_not]; intro e; subst e; simp_all; done)))))))
 ·
  try simp at hb1
  refine tr_skip (nx (k_seq (k_seq (rg tb hJ [0, 1, 1001, 1002] [_, _, _] [1] [(_, _), (_, _), (_, .int (((xs.length : Nat) : Int))), (_, .int (0 : Int))] rfl rfl rfl rfl ⟨hLen unds_28_3 rfl rfl rfl rfl, trivial⟩ (nx (tr_block (tr_loop (ι := Nat) (fun (k : Nat) a w => ((k ≤ xs.length) ∧ (∀ j, j < k → ge xs j = ge ys j)) ∧ St All S w0 26 [(0, .rd (intsC xs)), (1, .rd (intsC ys)), (12, .int (((xs.length : Nat) : Int))), (13, .int (((k : Nat) : Int)))] J a w) (fun (k : Nat) => (xs.length - k : Nat)) ?_ ?_)))))))
  ·
   intro a w h
   exact ⟨0, (show (0 ≤ xs.length) ∧ (∀ j, j < 0 → ge xs j = ge ys j) from ⟨Nat.zero_le _, fun j hj => by omega⟩), lz [0, 1, 2, 3] rfl h⟩
  ·
   rintro k
   refine tr_and fun hF => ?_
   obtain ⟨f1_1, f1_2⟩ := hF
   refine k_seq (rg tb hJ [0, 1, 2, 3, 1000] [_] [] [(_, _), (_, _), (_, _), (_, _), (_, .bool (decide (((k : Nat) : Int) < ((xs.length : Nat) : Int))))] rfl rfl rfl rfl trivial (nx (k_seq (tc 4 rfl rfl (fun hb2 => ?_) (fun hb2 => ?_)))))
   ·
    try simp at hb2
    refine tr_skip (nx (k_seq (tr_block (k_seq (rg tb hJ [0, 1, 2, 3, 1001] [_, _] [] [(_, _), (_, _), (_, _), (_, _), (_, .int (((k : Nat) : Int)))] rfl rfl rfl rfl trivial (nx (k_seq (rg tb hJ [0, 1, 2, 3, 1008] [_, _, .ptr [.lit (.int .i64 (ge xs k))], _, _, _, .ptr [.lit (.int .i64 (ge ys k))], _, _] [2, 6] [(_, _), (_, _), (_, _), (_, _), (_, .bool (!decide ((ge xs k) = (ge ys k))))] rfl rfl rfl rfl ⟨hIx elem_28_3_1 (by first | omega | (simp; omega) | grind [ge_mem]) rfl rfl rfl rfl rfl rfl, hIx elem_28_3_1 (by first | omega | (simp; omega) | grind [ge_mem]) rfl rfl rfl rfl rfl rfl, trivial⟩ (nx (tc 4 rfl rfl (fun hb3 => ?_) (fun hb3 => ?_)))))))))))
    ·
     try simp at hb3
     refine k_seq (rg tb hJ [1000] [_] [] [(_, .bool false)] rfl rfl rfl rfl trivial (nx (tr_ret (fun a w h => leave1' (m := 0) rfl h rfl (congrArg AV.bool (show false = (decide (xs = ys)) from by first | (have := ext_ge (xs := xs) (ys := ys) (by omega) (fun j hj => f1_2 j (by omega)); simp [this]; done) | (symm; rw [decide_eq_false_iff_not]; intro e; subst e; simp_all; done)))))))
    ·
     try simp at hb3
     refine tr_skip (nx (rg tb hJ [0, 1, 2, 1001] [.int (((k + 1 : Nat) : Int)), _] [0] [(_, _), (_, _), (_, _), (_, .int (((k + 1 : Nat) : Int)))] rfl rfl rfl rfl ⟨hAdd (by first | omega | (simp; omega) | grind [ge_mem]) rfl rfl rfl rfl rfl, trivial⟩ ?_))
     intro a w h; change ∃ j, _ ∧ _
     exact ⟨k + 1, ⟨⟨(show (k + 1) ≤ xs.length from by omega), (show ∀ j, j < (k + 1) → ge xs j = ge ys j from step_all f1_2 hb3)⟩, lz [0, 1, 2, 3] rfl h⟩, (show xs.length - (k + 1) < xs.length - k from by first | omega | (simp; omega))⟩
   ·
    try simp at hb2
    refine tr_exit (nx (k_seq (rg tb hJ [1000] [_] [] [(_, .bool true)] rfl rfl rfl rfl trivial (nx (tr_ret (fun a w h => leave1' (m := 0) rfl h rfl (congrArg AV.bool (show true = (decide (xs = ys)) from by first | (have := ext_ge (xs := xs) (ys := ys) (by omega) (fun j hj => f1_2 j (by omega)); simp [this]; done) | (symm; rw [decide_eq_false_iff_not]; intro e; subst e; simp_all; done)))))))))

theorem p_CloneS {J : World → Prop} (hJ : Stab J) (xs : List ByteArray) (b : xs.length * 16 ≤ 140737488351232) : FnM (ι := Value) Tryz.prog J 132 [] [.rd (strsC xs)] [] (fun i' => .lit (i')) (fun i' => [OB.row i' 9 1 (xs.map strC)]) := by
 refine fn_enterM (N := 8) Tryz.func132 rfl rfl (lb rfl) fun S w0 R hS hJ0 hH => ?_
 refine tr_weak (B := St All (SO S (R)) w0 8 [(0, .rd (strsC xs))] (XO J S w0.heap.size (R))) ?_ fun a w h => h
 refine tr_fact (fun a w h => len_le h 0 rfl) fun hl1 => k_seq (rgo tb hJ [0] [_] [] [(_, _)] rfl rfl rfl rfl trivial (nx (k_seq (k_seq (tr_text (sv tb rfl rfl rfl rfl (sq_isNil (f := strC) (xs := xs) unds_22_9 rfl rfl rfl (lb rfl) (fun a w h => (h.get 0 rfl)) fun g1 hg1 => ?_)))))))
 refine sq_end ?_
 refine kw (lz [0, 2] (env' := [(_, _), (_, _)]) rfl) ?_
 refine nx (tc 0 rfl rfl (fun hb1 => ?_) (fun hb1 => ?_))
 ·
  try simp at hb1
  refine k_seq (rgo tb hJ [1000] [_] [] [(_, .lit (.slice none 0 0))] rfl rfl rfl rfl trivial (nx ?_))
  refine tw (st_add_nil 9 1 hJ) ?_
  refine tw (ob0 (congrArg (fun z' => OB.row (.slice none 0 0) 9 1 ((z').map strC)) (show ([] : List ByteArray) = xs from by first | exact (hg1 (by assumption)).symm | simp))) ?_
  refine tr_ret (fun a w h => leaveM1  (m := 0) (.slice none 0 0) rfl h rfl rfl)
 ·
  try simp at hb1
  refine tr_skip (nx (k_seq ?_))
  refine fun a w h => region_C (id := 3) (t := 22) (e := 9) (size := 1) (bytes := 16) (i0 := 0) (fol := 3) (d := 2) (ch := [(2, (xs.map strC))]) (fun ix' => ([.any, .rd (strsC xs), .any, .any] : List AV).getD ix' .any) (fun ix' => ([true, true, true, true] : List Bool).getD ix' true) [] (xs.map strC) (by simp) ?r3_1 hJ hJ0 h mixedE rfl rfl rfl rfl ⟨?o3_1_0, ⟨?o3_1_1, ⟨?o3_1_2, ⟨?o3_1_3, trivial⟩⟩⟩⟩ trivial (fun v2 => ?n3_1)
  case r3_1 =>
   refine Row.mk' app_22_9 ⟨_, rfl, rfl, rfl, rfl, rfl⟩ ⟨?x3_1_0, trivial⟩ ⟨_, _, _, _, rfl, rfl, rfl, rfl, rfl, rfl, rfl, rfl, rfl⟩ rfl rfl rfl
   case x3_1_0 => exact ⟨_, _, _, _, rfl, rfl, rfl, rfl, rfl, rfl, rfl, rfl, len_map (f := strC) (fun _ => rfl), (by have hm : maxLen = 9223372036854775807 := rfl; simp [upto]; first | omega | (simp; omega)), (by have hm : maxLen = 9223372036854775807 := rfl; simp [upto]; first | omega | (simp; omega)), fun _ _ _ _ _ hl => (hl.dep 1 6 _ rfl rfl rfl rfl)⟩
  case o3_1_0 => exact fun h => not_in_row rfl h
  case o3_1_1 => exact fun _ _ => ⟨rfl, fun _ _ _ hx hl _ => r_move rfl (hl.env 1 0 _ rfl rfl) hx⟩
  case o3_1_2 => exact fun h => not_in_row rfl h
  case o3_1_3 => exact fun h => not_in_row rfl h
  clear a w h
  refine nx (tr_ret (fun a w h => leaveM1  (m := 0) v2 rfl h rfl rfl))

theorem p_CloneH {J : World → Prop} (hJ : Stab J) (xs : List Hy) (b : xs.length * 48 ≤ 140737488351232) : FnM (ι := Value) Tryz.prog J 102 [] [.rd (hysC xs)] [] (fun i' => .lit (i')) (fun i' => [OB.row i' 109 3 (xs.map hyC)]) := by
 refine fn_enterM (N := 8) Tryz.func102 rfl rfl (lb rfl) fun S w0 R hS hJ0 hH => ?_
 refine tr_weak (B := St All (SO S (R)) w0 8 [(0, .rd (hysC xs))] (XO J S w0.heap.size (R))) ?_ fun a w h => h
 refine tr_fact (fun a w h => len_le h 0 rfl) fun hl1 => k_seq (rgo tb hJ [0] [_] [] [(_, _)] rfl rfl rfl rfl trivial (nx (k_seq (k_seq (tr_text (sv tb rfl rfl rfl rfl (sq_isNil (f := hyC) (xs := xs) unds_56_109 rfl rfl rfl (lb rfl) (fun a w h => (h.get 0 rfl)) fun g1 hg1 => ?_)))))))
 refine sq_end ?_
 refine kw (lz [0, 2] (env' := [(_, _), (_, _)]) rfl) ?_
 refine nx (tc 0 rfl rfl (fun hb1 => ?_) (fun hb1 => ?_))
 ·
  try simp at hb1
  refine k_seq (rgo tb hJ [1000] [_] [] [(_, .lit (.slice none 0 0))] rfl rfl rfl rfl trivial (nx ?_))
  refine tw (st_add_nil 109 3 hJ) ?_
  refine tw (ob0 (congrArg (fun z' => OB.row (.slice none 0 0) 109 3 ((z').map hyC)) (show ([] : List Hy) = xs from by first | exact (hg1 (by assumption)).symm | simp))) ?_
  refine tr_ret (fun a w h => leaveM1  (m := 0) (.slice none 0 0) rfl h rfl rfl)
 ·
  try simp at hb1
  refine tr_skip (nx (k_seq ?_))
  refine fun a w h => region_C (id := 3) (t := 56) (e := 109) (size := 3) (bytes := 48) (i0 := 0) (fol := 3) (d := 2) (ch := [(2, (xs.map hyC))]) (fun ix' => ([.any, .rd (hysC xs), .any, .any] : List AV).getD ix' .any) (fun ix' => ([true, true, true, true] : List Bool).getD ix' true) [] (xs.map hyC) (by simp) ?r3_1 hJ hJ0 h mixedE rfl rfl rfl rfl ⟨?o3_1_0, ⟨?o3_1_1, ⟨?o3_1_2, ⟨?o3_1_3, trivial⟩⟩⟩⟩ trivial (fun v2 => ?n3_1)
  case r3_1 =>
   refine Row.mk' app_56_109 ⟨_, rfl, rfl, rfl, rfl, rfl⟩ ⟨?x3_1_0, trivial⟩ ⟨_, _, _, _, rfl, rfl, rfl, rfl, rfl, rfl, rfl, rfl, rfl⟩ rfl rfl rfl
   case x3_1_0 => exact ⟨_, _, _, _, rfl, rfl, rfl, rfl, rfl, rfl, rfl, rfl, len_map (f := hyC) (fun _ => rfl), (by have hm : maxLen = 9223372036854775807 := rfl; simp [upto]; first | omega | (simp; omega)), (by have hm : maxLen = 9223372036854775807 := rfl; simp [upto]; first | omega | (simp; omega)), fun _ _ _ _ _ hl => (hl.dep 1 6 _ rfl rfl rfl rfl)⟩
  case o3_1_0 => exact fun h => not_in_row rfl h
  case o3_1_1 => exact fun _ _ => ⟨rfl, fun _ _ _ hx hl _ => r_move rfl (hl.env 1 0 _ rfl rfl) hx⟩
  case o3_1_2 => exact fun h => not_in_row rfl h
  case o3_1_3 => exact fun h => not_in_row rfl h
  clear a w h
  refine nx (tr_ret (fun a w h => leaveM1  (m := 0) v2 rfl h rfl rfl))

theorem p_CloneP {J : World → Prop} (hJ : Stab J) (xs : List Pr) (b : xs.length * 32 ≤ 140737488351232) : FnM (ι := Value) Tryz.prog J 157 [] [.rd (prsC xs)] [] (fun i' => .lit (i')) (fun i' => [OB.row i' 148 2 (xs.map prC)]) := by
 refine fn_enterM (N := 8) Tryz.func157 rfl rfl (lb rfl) fun S w0 R hS hJ0 hH => ?_
 refine tr_weak (B := St All (SO S (R)) w0 8 [(0, .rd (prsC xs))] (XO J S w0.heap.size (R))) ?_ fun a w h => h
 refine tr_fact (fun a w h => len_le h 0 rfl) fun hl1 => k_seq (rgo tb hJ [0] [_] [] [(_, _)] rfl rfl rfl rfl trivial (nx (k_seq (k_seq (tr_text (sv tb rfl rfl rfl rfl (sq_isNil (f := prC) (xs := xs) unds_57_148 rfl rfl rfl (lb rfl) (fun a w h => (h.get 0 rfl)) fun g1 hg1 => ?_)))))))
 refine sq_end ?_
 refine kw (lz [0, 2] (env' := [(_, _), (_, _)]) rfl) ?_
 refine nx (tc 0 rfl rfl (fun hb1 => ?_) (fun hb1 => ?_))
 ·
  try simp at hb1
  refine k_seq (rgo tb hJ [1000] [_] [] [(_, .lit (.slice none 0 0))] rfl rfl rfl rfl trivial (nx ?_))
  refine tw (st_add_nil 148 2 hJ) ?_
  refine tw (ob0 (congrArg (fun z' => OB.row (.slice none 0 0) 148 2 ((z').map prC)) (show ([] : List Pr) = xs from by first | exact (hg1 (by assumption)).symm | simp))) ?_
  refine tr_ret (fun a w h => leaveM1  (m := 0) (.slice none 0 0) rfl h rfl rfl)
 ·
  try simp at hb1
  refine tr_skip (nx (k_seq ?_))
  refine fun a w h => region_C (id := 3) (t := 57) (e := 148) (size := 2) (bytes := 32) (i0 := 0) (fol := 3) (d := 2) (ch := [(2, (xs.map prC))]) (fun ix' => ([.any, .rd (prsC xs), .any, .any] : List AV).getD ix' .any) (fun ix' => ([true, true, true, true] : List Bool).getD ix' true) [] (xs.map prC) (by simp) ?r3_1 hJ hJ0 h mixedE rfl rfl rfl rfl ⟨?o3_1_0, ⟨?o3_1_1, ⟨?o3_1_2, ⟨?o3_1_3, trivial⟩⟩⟩⟩ trivial (fun v2 => ?n3_1)
  case r3_1 =>
   refine Row.mk' app_57_148 ⟨_, rfl, rfl, rfl, rfl, rfl⟩ ⟨?x3_1_0, trivial⟩ ⟨_, _, _, _, rfl, rfl, rfl, rfl, rfl, rfl, rfl, rfl, rfl⟩ rfl rfl rfl
   case x3_1_0 => exact ⟨_, _, _, _, rfl, rfl, rfl, rfl, rfl, rfl, rfl, rfl, len_map (f := prC) (fun _ => rfl), (by have hm : maxLen = 9223372036854775807 := rfl; simp [upto]; first | omega | (simp; omega)), (by have hm : maxLen = 9223372036854775807 := rfl; simp [upto]; first | omega | (simp; omega)), fun _ _ _ _ _ hl => (hl.dep 1 6 _ rfl rfl rfl rfl)⟩
  case o3_1_0 => exact fun h => not_in_row rfl h
  case o3_1_1 => exact fun _ _ => ⟨rfl, fun _ _ _ hx hl _ => r_move rfl (hl.env 1 0 _ rfl rfl) hx⟩
  case o3_1_2 => exact fun h => not_in_row rfl h
  case o3_1_3 => exact fun h => not_in_row rfl h
  clear a w h
  refine nx (tr_ret (fun a w h => leaveM1  (m := 0) v2 rfl h rfl rfl))

end Go.Proofs.YtnpgmdffjemnbaaGreatDoor
set_option maxHeartbeats 8000000
set_option maxRecDepth 100000
namespace Go.Proofs.YtnpgmdffjemnbaaGreatDoor
open Go.RowKit

theorem p_DeleteFuncH {J : World → Prop} (hJ : Stab J) (v : Value) (xs : List Hy) (f : FuncId) (caps : List AV) (Os : List OB) (Hs : List OB) (p : Hy → Bool) (hf : ∀ q', FnR Tryz.prog J f (Os ++ Hs) ([.agg (hyC (q'))] ++ caps) (.bool (p q'))) (hk0 : CallOk Tryz.prog f) (hn : xs.length ≤ 9223372036854775807) : FnM (ι := Unit) Tryz.prog J 101 Hs [.lit v, .fn f caps] (OB.row v 109 3 (xs.map hyC) :: Os) (fun _ => .rd (hysC (xs.filter fun x' => !p x'))) (fun _ => (Os)) := by
 refine fn_enterM (N := 42) Tryz.func101 rfl rfl (lb rfl) fun S w0 R hS hJ0 hH => ?_
 refine tr_weak (B := St All (SO S (OB.row v 109 3 (xs.map hyC) :: (Os ++ R))) w0 42 [(0, .lit v), (1, .fn f caps)] (XO J S w0.heap.size (OB.row v 109 3 (xs.map hyC) :: (Os ++ R)))) ?_ fun a w h => h
 refine k_seq (rgo tb hJ [0, 1] [_] [] [(_, _), (_, _)] rfl rfl rfl rfl trivial (nx (k_seq (rgr tb hJ [0, 1, 1003] [_, _, .int (idxF p xs), _] [2] [(_, _), (_, _), (_, .int (idxF p xs))] rfl rfl rfl rfl ⟨fun _ _ hk hx hl _ => r_fnR (p_IndexFuncH hJ (xs := xs) (f := f) (caps := caps) (Os := ((Os ++ Hs))) (p := p) (hf) (hk0)) call_131 rfl (nm hS hk) (hx.1) (has_app (fun _ ho => own_nowS hx (List.mem_cons_of_mem _ (List.mem_append_left _ ho))) (fun _ ho => has_nowS hH hk hx ho)) (relL_cons (own_view hS hx (mo 0 rfl) (hl.dep 0 8 _ rfl rfl rfl rfl)) (relL_cons (hl.dep 1 9 _ rfl rfl rfl rfl) relL_nil)) (jo hJ hx), trivial⟩ (nx (k_seq (k_seq (rgo tb hJ [0, 1, 2, 1001] [_, _] [] [(_, _), (_, _), (_, _), (_, .bool (decide (idxF p xs = (-1 : Int))))] rfl rfl rfl rfl trivial (nx (tc 3 rfl rfl (fun hb1 => ?_) (fun hb1 => ?_)))))))))))
 ·
  have e1 := of_decide_eq_true hb1
  refine k_seq (rgo tb hJ [1001] [_, _] [] [(_, .lit v)] rfl rfl rfl rfl trivial (nx ?_))
  refine tw (fun h => st_freeze hS h (m := 0) (s := 4) rfl) ?_
  refine tr_ret (fun a w h => leaveM1  (m := 0) () rfl h rfl (congrArg (fun z => AV.rd (hysC z)) (show xs = (xs.filter fun x' => !p x') from by first | exact DelF.none e1 | exact f1_1.fin (by have := f1_1.len; omega))))
 ·
  have e1 := of_decide_eq_false hb1
  refine tr_skip (nx (k_seq (k_seq ?_)))
  refine tw (sa 2 rfl (congrArg AV.int (show idxF p xs = (((idxF p xs).toNat : Nat) : Int) from by have := idxF_spec e1; omega))) ?_
  refine rgo tb hJ [0, 1, 2, 1002] [_, .int ((((idxF p xs).toNat + 1 : Nat) : Int)), _] [1] [(_, _), (_, _), (_, _), (_, .int ((((idxF p xs).toNat + 1 : Nat) : Int)))] rfl rfl rfl rfl ⟨hAdd (by have := (idxF_spec e1).2.1; omega) rfl rfl rfl rfl rfl, trivial⟩ (nx (tr_block (tr_loop (ι := Nat × Nat × (List Hy) × Value) (fun (ii' : Nat × Nat × (List Hy) × Value) a w => match ii' with | (i, j, ys, vo) => ((DelF p xs ys i j)) ∧ St All (SO S (OB.row vo 109 3 (ys.map hyC) :: (Os ++ R))) w0 42 [(1, .fn f caps), (5, .int (((i : Nat) : Int))), (6, .int (((j : Nat) : Int))), (0, .lit vo)] (XO J S w0.heap.size (OB.row vo 109 3 (ys.map hyC) :: (Os ++ R))) a w) (fun (ii' : Nat × Nat × (List Hy) × Value) => match ii' with | (_, j, _, _) => (xs.length - j : Nat)) ?_ ?_)))
  ·
   intro a w h
   exact ⟨((idxF p xs).toNat, (idxF p xs).toNat + 1, xs, v), (show (DelF p xs xs ((idxF p xs).toNat) ((idxF p xs).toNat + 1)) from DelF.init e1), lz [1, 2, 3, 0] rfl h⟩
  ·
   rintro ⟨i, j, ys, vo⟩
   refine tr_and fun hF => ?_
   have f1_1 : DelF p xs ys i j := hF
   refine k_seq (k_seq (rgr tb hJ [0, 1, 2, 3, 1003] [_, _, .int (((ys.length : Nat) : Int)), _] [2] [(_, _), (_, _), (_, _), (_, _), (_, .bool (decide (((j : Nat) : Int) < ((ys.length : Nat) : Int))))] rfl rfl rfl rfl ⟨fun _ _ _ hx hl _ => r_lenM unds_56_109 rfl (own_view hS hx (mo 0 rfl) (hl.dep 1 17 _ rfl rfl rfl rfl)) hx, trivial⟩ (nx (tc 4 rfl rfl (fun hb2 => ?_) (fun hb2 => ?_)))))
   ·
    try simp at hb2
    refine tr_skip (nx (k_seq (tr_block (k_seq (tr_text (sv tb rfl rfl rfl rfl (sv tb rfl rfl rfl rfl (sq (.lit (rowAt vo (j * 3))) rfl rfl (lb rfl) (fun _ _ h => r_ownAddr (i := ((j : Nat) : Int)) elem_56_109_3 rfl (own_now h.x (mo 0 rfl)) (h.get 1 rfl) (h.get 0 rfl) (Int.natCast_nonneg _) (by rw [List.length_map]; exact Int.ofNat_lt.2 (by omega)) h.x) (sq (.agg (hyC (ge ys j))) rfl rfl (lb rfl) (fun _ _ h => r_ownLoadN (i := j) agg_109_3 rfl (own_now h.x (mo 0 rfl)) (h.get 0 rfl) (row_at (xs := ys) (k := j) (by omega)) rfl h.x) (sq_var (cs := hyC (ge ys j)) var_109_3 rfl rfl rfl (lb rfl) rfl rfl rfl (by decide) (m := 0) rfl rfl (fun a w h => xo_new hS _ h.keep h.x _ (Nat.le_refl _)) (fun a w h w' hk' => xo_stab hJ _ _ hk' h.x) (sq_end ?_)))))))))))
    refine kw (lz [0, 5, 6, 7, 8] (env' := [(_, _), (_, _), (_, _), (_, _), (_, _)]) rfl) ?_
    refine nx (k_seq (rgo tb hJ [0, 1, 2, 3, 4, 1003] [_, _, .bool (p (ge ys j)), _] [2] [(_, _), (_, _), (_, _), (_, _), (_, _), (_, .bool (!(p (ge ys j))))] rfl rfl rfl rfl ⟨fun _ _ hk hx hl _ => r_fnv (hf (ge ys j)) hk0 rfl (hl.dep 0 26 _ rfl rfl rfl rfl) (xo_new hS _ hk hx) (hx.1) (has_app (fun _ ho => own_now hx (List.mem_cons_of_mem _ (List.mem_append_left _ ho))) (fun _ ho => has_nowO hH hk hx ho)) (relL_cons (hl.dep 1 27 _ rfl rfl rfl rfl) relL_nil) (jo hJ hx), trivial⟩ (nx (tc 5 rfl rfl (fun hb3 => ?_) (fun hb3 => ?_)))))
    ·
     try simp at hb3
     refine k_seq (tr_text (sv tb rfl rfl rfl rfl (sv tb rfl rfl rfl rfl (sv (av := .agg (hyC (ge ys j))) tb rfl rfl rfl rfl (sq (.lit (rowAt vo (i * 3))) rfl rfl (lb rfl) (fun _ _ h => r_ownAddr (i := ((i : Nat) : Int)) elem_56_109_3 rfl (own_now h.x (mo 0 rfl)) (h.get 2 rfl) (h.get 1 rfl) (Int.natCast_nonneg _) (by rw [List.length_map]; exact Int.ofNat_lt.2 (by have := f1_1.le; omega)) h.x) (sq_ownStoreN (i := i) hJ hJ0 size_109_3 rfl rfl rfl (by rw [List.length_map]; exact (by have := f1_1.le; omega)) rfl (fun a w h => ⟨(h.get 0 rfl), (h.get 1 rfl)⟩) ?_))))))
     rw [show (ys.map hyC).set i (hyC (ge ys j)) = (ys.set i (ge ys j)).map hyC from List.map_set.symm]
     refine sq_end ?_
     refine kw (lz [5, 6, 7, 8] (env' := [(_, _), (_, _), (_, _), (_, _)]) rfl) ?_
     refine nx (rgo tb hJ [0, 2, 3, 1002] [_, .int (((i + 1 : Nat) : Int)), _] [1] [(_, _), (_, _), (_, _), (_, .int (((i + 1 : Nat) : Int)))] rfl rfl rfl rfl ⟨hAdd (by have := f1_1.le; have := f1_1.len; omega) rfl rfl rfl rfl rfl, trivial⟩ (nx (rgo tb hJ [0, 2, 3, 1002] [_, .int (((j + 1 : Nat) : Int)), _] [1] [(_, _), (_, _), (_, _), (_, .int (((j + 1 : Nat) : Int)))] rfl rfl rfl rfl ⟨hAdd (by have := f1_1.lt; have := f1_1.len; omega) rfl rfl rfl rfl rfl, trivial⟩ ?_)))
     intro a w h; change ∃ j, _ ∧ _
     exact ⟨(i + 1, j + 1, ys.set i (ge ys j), vo), ⟨(show (DelF p xs (ys.set i (ge ys j)) (i + 1) (j + 1)) from f1_1.keep (by have := f1_1.len; omega) (by simpa using hb3)), lz [0, 2, 3, 1] rfl h⟩, (show xs.length - (j + 1) < xs.length - j from by have := f1_1.lt; have := f1_1.len; omega)⟩
    ·
     try simp at hb3
     refine tr_skip (nx (rgo tb hJ [1, 2, 4, 1002] [_, .int (((j + 1 : Nat) : Int)), _] [1] [(_, _), (_, _), (_, _), (_, .int (((j + 1 : Nat) : Int)))] rfl rfl rfl rfl ⟨hAdd (by have := f1_1.lt; have := f1_1.len; omega) rfl rfl rfl rfl rfl, trivial⟩ ?_))
     intro a w h; change ∃ j, _ ∧ _
     exact ⟨(i, j + 1, ys, vo), ⟨(show (DelF p xs ys i (j + 1)) from f1_1.skip (by have := f1_1.len; omega) (by simpa using hb3)), lz [0, 1, 3, 2] rfl h⟩, (show xs.length - (j + 1) < xs.length - j from by have := f1_1.lt; have := f1_1.len; omega)⟩
   ·
    try simp at hb2
    refine tr_exit (nx (k_seq (tr_text (sv tb rfl rfl rfl rfl (sv tb rfl rfl rfl rfl (sq (.lit (subV vo i 3)) rfl rfl (lb rfl) (fun _ _ h => r_subV (lo := i) elem_56_109_3 rfl (own_now h.x (mo 0 rfl)) (h.get 1 rfl) (h.get 0 rfl) (by rw [List.length_map]; exact (by have := f1_1.le; have := f1_1.lt; have := f1_1.len; omega)) h.x) (sq_clear (lo := i) zeroK_109_3 unds_56_109 (by decide) hJ hJ0 rfl rfl rfl (by rw [List.length_map]; exact (by have := f1_1.le; have := f1_1.lt; have := f1_1.len; omega)) (fun a w h => (h.get 0 rfl)) ?_)))))))
    rw [← List.map_take]
    refine sq_end ?_
    refine kw (lz [4, 6] (env' := [(_, _), (_, _)]) rfl) ?_
    refine nx (k_seq (rgo tb hJ [1003] [_, _, .lit (cutV vo i), _] [2] [(_, .lit (cutV vo i))] rfl rfl rfl rfl ⟨fun _ _ _ hx hl _ => r_cutV (m := i) elem_56_109_3 rfl (own_now hx (mo 0 rfl)) (by first | rfl | (rw [List.length_map]; exact (by have := f1_1.le; have := f1_1.lt; have := f1_1.len; simp; omega))) (hl.dep 0 39 _ rfl rfl rfl rfl) (hl.dep 1 40 _ rfl rfl rfl rfl) hx, trivial⟩ (nx ?_)))
    refine tw (fun h => st_freeze hS h (m := 0) (s := 4) rfl) ?_
    refine tr_ret (fun a w h => leaveM1  (m := 0) () rfl h rfl (congrArg (fun z => AV.rd (hysC z)) (show (ys.take i) = (xs.filter fun x' => !p x') from by first | exact DelF.none e1 | exact f1_1.fin (by have := f1_1.len; omega))))

theorem p_DeleteFuncP {J : World → Prop} (hJ : Stab J) (v : Value) (xs : List Pr) (f : FuncId) (caps : List AV) (Os : List OB) (Hs : List OB) (p : Pr → Bool) (hf : ∀ q', FnR Tryz.prog J f (Os ++ Hs) ([.agg (prC (q'))] ++ caps) (.bool (p q'))) (hk0 : CallOk Tryz.prog f) (hn : xs.length ≤ 9223372036854775807) : FnM (ι := Unit) Tryz.prog J 156 Hs [.lit v, .fn f caps] (OB.row v 148 2 (xs.map prC) :: Os) (fun _ => .rd (prsC (xs.filter fun x' => !p x'))) (fun _ => (Os)) := by
 refine fn_enterM (N := 42) Tryz.func156 rfl rfl (lb rfl) fun S w0 R hS hJ0 hH => ?_
 refine tr_weak (B := St All (SO S (OB.row v 148 2 (xs.map prC) :: (Os ++ R))) w0 42 [(0, .lit v), (1, .fn f caps)] (XO J S w0.heap.size (OB.row v 148 2 (xs.map prC) :: (Os ++ R)))) ?_ fun a w h => h
 refine k_seq (rgo tb hJ [0, 1] [_] [] [(_, _), (_, _)] rfl rfl rfl rfl trivial (nx (k_seq (rgr tb hJ [0, 1, 1003] [_, _, .int (idxF p xs), _] [2] [(_, _), (_, _), (_, .int (idxF p xs))] rfl rfl rfl rfl ⟨fun _ _ hk hx hl _ => r_fnR (p_IndexFuncP hJ (xs := xs) (f := f) (caps := caps) (Os := ((Os ++ Hs))) (p := p) (hf) (hk0)) call_174 rfl (nm hS hk) (hx.1) (has_app (fun _ ho => own_nowS hx (List.mem_cons_of_mem _ (List.mem_append_left _ ho))) (fun _ ho => has_nowS hH hk hx ho)) (relL_cons (own_view hS hx (mo 0 rfl) (hl.dep 0 8 _ rfl rfl rfl rfl)) (relL_cons (hl.dep 1 9 _ rfl rfl rfl rfl) relL_nil)) (jo hJ hx), trivial⟩ (nx (k_seq (k_seq (rgo tb hJ [0, 1, 2, 1001] [_, _] [] [(_, _), (_, _), (_, _), (_, .bool (decide (idxF p xs = (-1 : Int))))] rfl rfl rfl rfl trivial (nx (tc 3 rfl rfl (fun hb1 => ?_) (fun hb1 => ?_)))))))))))
 ·
  have e1 := of_decide_eq_true hb1
  refine k_seq (rgo tb hJ [1001] [_, _] [] [(_, .lit v)] rfl rfl rfl rfl trivial (nx ?_))
  refine tw (fun h => st_freeze hS h (m := 0) (s := 4) rfl) ?_
  refine tr_ret (fun a w h => leaveM1  (m := 0) () rfl h rfl (congrArg (fun z => AV.rd (prsC z)) (show xs = (xs.filter fun x' => !p x') from by first | exact DelF.none e1 | exact f1_1.fin (by have := f1_1.len; omega))))
 ·
  have e1 := of_decide_eq_false hb1
  refine tr_skip (nx (k_seq (k_seq ?_)))
  refine tw (sa 2 rfl (congrArg AV.int (show idxF p xs = (((idxF p xs).toNat : Nat) : Int) from by have := idxF_spec e1; omega))) ?_
  refine rgo tb hJ [0, 1, 2, 1002] [_, .int ((((idxF p xs).toNat + 1 : Nat) : Int)), _] [1] [(_, _), (_, _), (_, _), (_, .int ((((idxF p xs).toNat + 1 : Nat) : Int)))] rfl rfl rfl rfl ⟨hAdd (by have := (idxF_spec e1).2.1; omega) rfl rfl rfl rfl rfl, trivial⟩ (nx (tr_block (tr_loop (ι := Nat × Nat × (List Pr) × Value) (fun (ii' : Nat × Nat × (List Pr) × Value) a w => match ii' with | (i, j, ys, vo) => ((DelF p xs ys i j)) ∧ St All (SO S (OB.row vo 148 2 (ys.map prC) :: (Os ++ R))) w0 42 [(1, .fn f caps), (5, .int (((i : Nat) : Int))), (6, .int (((j : Nat) : Int))), (0, .lit vo)] (XO J S w0.heap.size (OB.row vo 148 2 (ys.map prC) :: (Os ++ R))) a w) (fun (ii' : Nat × Nat × (List Pr) × Value) => match ii' with | (_, j, _, _) => (xs.length - j : Nat)) ?_ ?_)))
  ·
   intro a w h
   exact ⟨((idxF p xs).toNat, (idxF p xs).toNat + 1, xs, v), (show (DelF p xs xs ((idxF p xs).toNat) ((idxF p xs).toNat + 1)) from DelF.init e1), lz [1, 2, 3, 0] rfl h⟩
  ·
   rintro ⟨i, j, ys, vo⟩
   refine tr_and fun hF => ?_
   have f1_1 : DelF p xs ys i j := hF
   refine k_seq (k_seq (rgr tb hJ [0, 1, 2, 3, 1003] [_, _, .int (((ys.length : Nat) : Int)), _] [2] [(_, _), (_, _), (_, _), (_, _), (_, .bool (decide (((j : Nat) : Int) < ((ys.length : Nat) : Int))))] rfl rfl rfl rfl ⟨fun _ _ _ hx hl _ => r_lenM unds_57_148 rfl (own_view hS hx (mo 0 rfl) (hl.dep 1 17 _ rfl rfl rfl rfl)) hx, trivial⟩ (nx (tc 4 rfl rfl (fun hb2 => ?_) (fun hb2 => ?_)))))
   ·
    try simp at hb2
    refine tr_skip (nx (k_seq (tr_block (k_seq (tr_text (sv tb rfl rfl rfl rfl (sv tb rfl rfl rfl rfl (sq (.lit (rowAt vo (j * 2))) rfl rfl (lb rfl) (fun _ _ h => r_ownAddr (i := ((j : Nat) : Int)) elem_57_148_2 rfl (own_now h.x (mo 0 rfl)) (h.get 1 rfl) (h.get 0 rfl) (Int.natCast_nonneg _) (by rw [List.length_map]; exact Int.ofNat_lt.2 (by omega)) h.x) (sq (.agg (prC (ge ys j))) rfl rfl (lb rfl) (fun _ _ h => r_ownLoadN (i := j) agg_148_2 rfl (own_now h.x (mo 0 rfl)) (h.get 0 rfl) (row_at (xs := ys) (k := j) (by omega)) rfl h.x) (sq_var (cs := prC (ge ys j)) var_148_2 rfl rfl rfl (lb rfl) rfl rfl rfl (by decide) (m := 0) rfl rfl (fun a w h => xo_new hS _ h.keep h.x _ (Nat.le_refl _)) (fun a w h w' hk' => xo_stab hJ _ _ hk' h.x) (sq_end ?_)))))))))))
    refine kw (lz [0, 5, 6, 7, 8] (env' := [(_, _), (_, _), (_, _), (_, _), (_, _)]) rfl) ?_
    refine nx (k_seq (rgo tb hJ [0, 1, 2, 3, 4, 1003] [_, _, .bool (p (ge ys j)), _] [2] [(_, _), (_, _), (_, _), (_, _), (_, _), (_, .bool (!(p (ge ys j))))] rfl rfl rfl rfl ⟨fun _ _ hk hx hl _ => r_fnv (hf (ge ys j)) hk0 rfl (hl.dep 0 26 _ rfl rfl rfl rfl) (xo_new hS _ hk hx) (hx.1) (has_app (fun _ ho => own_now hx (List.mem_cons_of_mem _ (List.mem_append_left _ ho))) (fun _ ho => has_nowO hH hk hx ho)) (relL_cons (hl.dep 1 27 _ rfl rfl rfl rfl) relL_nil) (jo hJ hx), trivial⟩ (nx (tc 5 rfl rfl (fun hb3 => ?_) (fun hb3 => ?_)))))
    ·
     try simp at hb3
     refine k_seq (tr_text (sv tb rfl rfl rfl rfl (sv tb rfl rfl rfl rfl (sv (av := .agg (prC (ge ys j))) tb rfl rfl rfl rfl (sq (.lit (rowAt vo (i * 2))) rfl rfl (lb rfl) (fun _ _ h => r_ownAddr (i := ((i : Nat) : Int)) elem_57_148_2 rfl (own_now h.x (mo 0 rfl)) (h.get 2 rfl) (h.get 1 rfl) (Int.natCast_nonneg _) (by rw [List.length_map]; exact Int.ofNat_lt.2 (by have := f1_1.le; omega)) h.x) (sq_ownStoreN (i := i) hJ hJ0 size_148_2 rfl rfl rfl (by rw [List.length_map]; exact (by have := f1_1.le; omega)) rfl (fun a w h => ⟨(h.get 0 rfl), (h.get 1 rfl)⟩) ?_))))))
     rw [show (ys.map prC).set i (prC (ge ys j)) = (ys.set i (ge ys j)).map prC from List.map_set.symm]
     refine sq_end ?_
     refine kw (lz [5, 6, 7, 8] (env' := [(_, _), (_, _), (_, _), (_, _)]) rfl) ?_
     refine nx (rgo tb hJ [0, 2, 3, 1002] [_, .int (((i + 1 : Nat) : Int)), _] [1] [(_, _), (_, _), (_, _), (_, .int (((i + 1 : Nat) : Int)))] rfl rfl rfl rfl ⟨hAdd (by have := f1_1.le; have := f1_1.len; omega) rfl rfl rfl rfl rfl, trivial⟩ (nx (rgo tb hJ [0, 2, 3, 1002] [_, .int (((j + 1 : Nat) : Int)), _] [1] [(_, _), (_, _), (_, _), (_, .int (((j + 1 : Nat) : Int)))] rfl rfl rfl rfl ⟨hAdd (by have := f1_1.lt; have := f1_1.len; omega) rfl rfl rfl rfl rfl, trivial⟩ ?_)))
     intro a w h; change ∃ j, _ ∧ _
     exact ⟨(i + 1, j + 1, ys.set i (ge ys j), vo), ⟨(show (DelF p xs (ys.set i (ge ys j)) (i + 1) (j + 1)) from f1_1.keep (by have := f1_1.len; omega) (by simpa using hb3)), lz [0, 2, 3, 1] rfl h⟩, (show xs.length - (j + 1) < xs.length - j from by have := f1_1.lt; have := f1_1.len; omega)⟩
    ·
     try simp at hb3
     refine tr_skip (nx (rgo tb hJ [1, 2, 4, 1002] [_, .int (((j + 1 : Nat) : Int)), _] [1] [(_, _), (_, _), (_, _), (_, .int (((j + 1 : Nat) : Int)))] rfl rfl rfl rfl ⟨hAdd (by have := f1_1.lt; have := f1_1.len; omega) rfl rfl rfl rfl rfl, trivial⟩ ?_))
     intro a w h; change ∃ j, _ ∧ _
     exact ⟨(i, j + 1, ys, vo), ⟨(show (DelF p xs ys i (j + 1)) from f1_1.skip (by have := f1_1.len; omega) (by simpa using hb3)), lz [0, 1, 3, 2] rfl h⟩, (show xs.length - (j + 1) < xs.length - j from by have := f1_1.lt; have := f1_1.len; omega)⟩
   ·
    try simp at hb2
    refine tr_exit (nx (k_seq (tr_text (sv tb rfl rfl rfl rfl (sv tb rfl rfl rfl rfl (sq (.lit (subV vo i 2)) rfl rfl (lb rfl) (fun _ _ h => r_subV (lo := i) elem_57_148_2 rfl (own_now h.x (mo 0 rfl)) (h.get 1 rfl) (h.get 0 rfl) (by rw [List.length_map]; exact (by have := f1_1.le; have := f1_1.lt; have := f1_1.len; omega)) h.x) (sq_clear (lo := i) zeroK_148_2 unds_57_148 (by decide) hJ hJ0 rfl rfl rfl (by rw [List.length_map]; exact (by have := f1_1.le; have := f1_1.lt; have := f1_1.len; omega)) (fun a w h => (h.get 0 rfl)) ?_)))))))
    rw [← List.map_take]
    refine sq_end ?_
    refine kw (lz [4, 6] (env' := [(_, _), (_, _)]) rfl) ?_
    refine nx (k_seq (rgo tb hJ [1003] [_, _, .lit (cutV vo i), _] [2] [(_, .lit (cutV vo i))] rfl rfl rfl rfl ⟨fun _ _ _ hx hl _ => r_cutV (m := i) elem_57_148_2 rfl (own_now hx (mo 0 rfl)) (by first | rfl | (rw [List.length_map]; exact (by have := f1_1.le; have := f1_1.lt; have := f1_1.len; simp; omega))) (hl.dep 0 39 _ rfl rfl rfl rfl) (hl.dep 1 40 _ rfl rfl rfl rfl) hx, trivial⟩ (nx ?_)))
    refine tw (fun h => st_freeze hS h (m := 0) (s := 4) rfl) ?_
    refine tr_ret (fun a w h => leaveM1  (m := 0) () rfl h rfl (congrArg (fun z => AV.rd (prsC z)) (show (ys.take i) = (xs.filter fun x' => !p x') from by first | exact DelF.none e1 | exact f1_1.fin (by have := f1_1.len; omega))))

end Go.Proofs.YtnpgmdffjemnbaaGreatDoor
