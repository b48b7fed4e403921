/-
  CONTRACTS: the check of a database by the reference, whole.
  CONTRACTS: what uses what, by the reference.
  CONTRACTS of the program: look-ups, functions that take functions.
  CONTRACTS of the library: slices' functions.
  CONTRACTS of the library: slices.DeleteFunc.
-/
import Derived.Test.YtnpgmdffjemnbaaGreatDoorJQ
import Derived.Test.YtnpgmdffjemnbaaGreatDoorJN
import Derived.Test.YtnpgmdffjemnbaaGreatDoorJG
import Derived.Test.YtnpgmdffjemnbaaGreatDoorJO
set_option maxHeartbeats 8000000
set_option maxRecDepth 100000
namespace Go.Proofs.YtnpgmdffjemnbaaGreatDoor
open Go.RowKit

theorem ZoA {J : World → Prop} (hJ : Stab J) (d : Db) (k : Nat) (hk0 : k < d.frames.length) (hf : d.frames.length ≤ 400) (hv : d.vars.length ≤ 8000) (hz : ∀ i, i < k → (ge d.frames i).hyps.length ≤ 40 ∧ (ge d.frames i).dummies.length ≤ 40) (hw : (ge d.frames k).wide.length * 32 ≤ 140737488351232) : Fn Tryz.prog J 80 [.agg (dbC d), .int k] (.int (frE d k)) := by
 refine Zx (N := 154) Tryz.func80 rfl rfl (lb rfl) fun S w0 hS hJ0 => ?_
 clear hJ0
 refine Za (rg tb hJ [1, 1000] [_, _] [0] [(_, _), (_, .ptr (dbC d))] rfl rfl rfl rfl ⟨fun _ _ hk hx hl _ => Yv rfl (hl.env 0 0 _ rfl rfl) (hS _ hk.size) (js hJ hx), trivial⟩ (nx (Za (Zn (sv (av := .ptr [Yn d.frames]) tb rfl rfl rfl rfl (sv (av := .rd (Yn d.frames)) tb rfl rfl rfl rfl (sv tb rfl rfl rfl rfl (sq (.ptr (frC (ge d.frames k))) rfl rfl (lb rfl) (fun _ _ h => ZI (i := (k : Int)) Ye rfl (h.get 1 rfl) (h.get 0 rfl) (Int.natCast_nonneg _) (ZL (xs := d.frames) (k := k) (by first | omega | (simp; omega) | grind [Zb])) rfl h.x) (sv (av := .agg (frC (ge d.frames k))) tb rfl rfl rfl rfl (QZ (cs := frC (ge d.frames k)) ZdC rfl rfl rfl (lb rfl) rfl rfl rfl (by decide) (m := 0) rfl rfl (fun a w h => hS _ h.keep.size) (fun a w h w' hk' => hJ _ _ hk' h.x) (Zy ?_)))))))))))
 refine kw (lz [0, 4, 6, 7] (env' := [(_, _), (_, _), (_, _), (_, _)]) rfl) ?_
 refine nx (Zf (fun a w h => Zj h 1 rfl) fun hl1 => Za (Za (rg tb hJ [0, 2, 3, 1003] [_, _, .bool (Q8 ((ge d.frames k).label)), _] [2] [(_, _), (_, _), (_, _), (_, .bool (!(Q8 ((ge d.frames k).label))))] rfl rfl rfl rfl ⟨hFn hS hJ (ZcL hJ (s := ((ge d.frames k).label)) ) Zec rfl rfl rfl rfl, trivial⟩ (nx (tc 3 rfl rfl (fun hb1 => ?_) (fun hb1 => ?_))))))
 ·
  try simp at hb1
  refine Za (rg tb hJ [1000] [_] [] [(_, .int (2 : Int))] rfl rfl rfl rfl trivial (nx (Zi (fun a w h => Zh (m := 0) rfl h rfl (congrArg AV.int (show (2 : Int) = (frE d k) from by clear h; first | (show Zam d k j = _; have q6 : Zam d k j ≠ 0 := ZaX hb5; rw [frE, Zbi]; grind) | (rw [frE, Zbi]; grind)))))))
 ·
  try simp at hb1
  refine Zd (nx (Za (Za (rg tb hJ [0, 1, 2, 1008, 1009] [_, _, _, _, .tup [.bool (frL d k ((ge d.frames k).label)), .bool (hyL d k ((ge d.frames k).label))], _, _, _, _, _] [4] [(_, _), (_, _), (_, _), (_, .bool (frL d k ((ge d.frames k).label))), (_, .bool (hyL d k ((ge d.frames k).label)))] rfl rfl rfl rfl ⟨hFn hS hJ (Zgb hJ (d := d) (n := k) (s := ((ge d.frames k).label)) (by first | omega | (simp; omega) | grind [Zb]) (hz)) Zeb rfl rfl rfl rfl, trivial⟩ (nx (Za (rg tb hJ [0, 1, 2, 1009] [_, _, _, _, _, _, _, _, .bool (Zag d ((ge d.frames k).label)), _] [8] [(_, _), (_, _), (_, _), (_, .bool (((frL d k ((ge d.frames k).label)) || (hyL d k ((ge d.frames k).label))) || (Zag d ((ge d.frames k).label))))] rfl rfl rfl rfl ⟨fun _ _ hk hx hl hc => Qk (Zed hJ (d := d) (s := ((ge d.frames k).label)) ) Zea rfl (nm hS hk) (hx) (Zc (hl.dep 5 39 _ rfl rfl rfl hc) (Zc (hl.dep 7 41 _ rfl rfl rfl hc) Zm)) (js hJ hx), trivial⟩ (nx (tc 3 rfl rfl (fun hb2 => ?_) (fun hb2 => ?_))))))))))
  ·
   refine Za (rg tb hJ [1000] [_] [] [(_, .int (6 : Int))] rfl rfl rfl rfl trivial (nx (Zi (fun a w h => Zh (m := 0) rfl h rfl (congrArg AV.int (show (6 : Int) = (frE d k) from by clear h; first | (show Zam d k j = _; have q6 : Zam d k j ≠ 0 := ZaX hb5; rw [frE, Zbi]; grind) | (rw [frE, Zbi]; grind)))))))
  ·
   refine Zd (nx (Za (Za (rg tb hJ [0, 1, 2, 1001, 1009] [_, _, .int ((((ge d.frames k).hyps).length : Nat) : Int), _, _, _, _, .int ((((ge d.frames k).dummies).length : Nat) : Int), _, _] [2, 7] [(_, _), (_, _), (_, _), (_, .rd (Z4 ((ge d.frames k).hyps))), (_, .bool ((decide ((40 : Int) < ((((ge d.frames k).hyps).length : Nat) : Int))) || (decide ((40 : Int) < ((((ge d.frames k).dummies).length : Nat) : Int)))))] rfl rfl rfl rfl ⟨Ys ZC rfl rfl rfl rfl, fun _ _ _ hx hl hc => Yy ZC rfl (hl.dep 6 50 _ rfl rfl rfl hc) hx, trivial⟩ (nx (Zf (fun a w h => Zj h 3 rfl) fun hl2 => tc 4 rfl rfl (fun hb3 => ?_) (fun hb3 => ?_)))))))
   ·
    refine Za (rg tb hJ [1000] [_] [] [(_, .int (4 : Int))] rfl rfl rfl rfl trivial (nx (Zi (fun a w h => Zh (m := 0) rfl h rfl (congrArg AV.int (show (4 : Int) = (frE d k) from by clear h; first | (show Zam d k j = _; have q6 : Zam d k j ≠ 0 := ZaX hb5; rw [frE, Zbi]; grind) | (rw [frE, Zbi]; grind)))))))
   ·
    have e3 : (ge d.frames k).hyps.length ≤ 40 ∧ (ge d.frames k).dummies.length ≤ 40 := by simp at hb3; omega
    refine Zd (nx (Za (rg tb hJ [0, 1, 2, 1001, 1002] [_, _, _] [1] [(_, _), (_, _), (_, _), (_, .rd (Z4 ((ge d.frames k).hyps ++ (ge d.frames k).dummies))), (_, .rd (Z4 ((ge d.frames k).hyps ++ (ge d.frames k).dummies)))] rfl rfl rfl rfl ⟨hFn hS hJ (Zmu hJ (f := (ge d.frames k)) (by first | omega | (simp; omega) | grind [Zb])) ZbZ rfl rfl rfl rfl, trivial⟩ (nx (Zf (fun a w h => Zj h 3 rfl) fun hl3 => Za (Za (rg tb hJ [0, 1, 2, 4, 1000] [_] [] [(_, _), (_, _), (_, _), (_, _), (_, .int (0 : Int))] rfl rfl rfl rfl trivial (nx (Ze (Zw (ι := Nat) (fun (j : Nat) a w => ((j ≤ ((ge d.frames k).hyps ++ (ge d.frames k).dummies).length) ∧ (∀ i, i < j → Zam d k i = 0)) ∧ St All S w0 154 [(5, .ptr (frC (ge d.frames k))), (1, .int k), (2, .ptr (dbC d)), (8, .rd (Z4 ((ge d.frames k).hyps ++ (ge d.frames k).dummies))), (9, .int j)] J a w) (fun (j : Nat) => (((ge d.frames k).hyps ++ (ge d.frames k).dummies).length - j : Nat)) ?_ ?_))))))))))
    ·
     intro a w h
     exact ⟨0, (show (0 ≤ ((ge d.frames k).hyps ++ (ge d.frames k).dummies).length) ∧ (∀ i, i < 0 → Zam d k i = 0) from ⟨Nat.zero_le _, fun j hj => by omega⟩), lz [0, 1, 2, 3, 4] rfl h⟩
    ·
     rintro j
     refine ZD fun hF => ?_
     obtain ⟨f1_1, f1_2⟩ := hF
     refine Za (Za (rg tb hJ [0, 1, 2, 3, 4, 1003] [_, _, .int ((((ge d.frames k).hyps ++ (ge d.frames k).dummies).length : Nat) : Int), _] [2] [(_, _), (_, _), (_, _), (_, _), (_, _), (_, .bool (decide ((j : Int) < ((((ge d.frames k).hyps ++ (ge d.frames k).dummies).length : Nat) : Int))))] rfl rfl rfl rfl ⟨Ys ZC rfl rfl rfl rfl, trivial⟩ (nx (tc 5 rfl rfl (fun hb4 => ?_) (fun hb4 => ?_)))))
     ·
      try simp at hb4
      refine Zd (nx (Za (Ze (Za (rg tb hJ [0, 1, 2, 3, 4, 1008, 1015] [_, _, _, _, .ptr (hyC (ge ((ge d.frames k).hyps ++ (ge d.frames k).dummies) j)), _, _, _, _, _, _, _, .int ((((ge d.frames k).hyps).length : Nat) : Int), _, .int (Qf d k (ge ((ge d.frames k).hyps ++ (ge d.frames k).dummies) j) (((ge d.frames k).hyps ++ (ge d.frames k).dummies).take j) (decide (((((ge d.frames k).hyps).length : Nat) : Int) ≤ (j : Int)))), _] [4, 8, 12, 14] [(_, _), (_, _), (_, _), (_, _), (_, _), (_, .rd (Z4 (((ge d.frames k).hyps ++ (ge d.frames k).dummies).take j))), (_, .int (Qf d k (ge ((ge d.frames k).hyps ++ (ge d.frames k).dummies) j) (((ge d.frames k).hyps ++ (ge d.frames k).dummies).take j) (decide (((((ge d.frames k).hyps).length : Nat) : Int) ≤ (j : Int)))))] rfl rfl rfl rfl ⟨hIx Zt (by first | omega | (simp; omega) | grind [Zb]) rfl rfl rfl rfl rfl rfl, fun _ _ _ hx hl _ => Xb (ys := ((ge d.frames k).hyps ++ (ge d.frames k).dummies).take j) (lo := 0) (hi := j) List.drop_zero Zt (fun _ => rfl) rfl (hl.dep 6 68 _ rfl rfl rfl rfl) rfl (hl.dep 7 69 _ rfl rfl rfl rfl) (by first | omega | (simp; omega) | grind [Zb]) (by first | omega | (simp; omega) | grind [Zb]) hx, Ys ZC rfl rfl rfl rfl, hFn hS hJ (Zfh hJ (d := d) (k := k) (y := (ge ((ge d.frames k).hyps ++ (ge d.frames k).dummies) j)) (bs := (((ge d.frames k).hyps ++ (ge d.frames k).dummies).take j)) (dm := (decide (((((ge d.frames k).hyps).length : Nat) : Int) ≤ (j : Int)))) (by first | omega | (simp; omega) | grind [Zb]) (by first | omega | (simp; omega) | grind [Zb]) (by intro i hi; by_cases e : i = k; (subst e; exact e3); exact hz i (by omega)) (by have := List.length_take_le' j ((ge d.frames k).hyps ++ (ge d.frames k).dummies); simp at this ⊢; omega)) Zmj rfl rfl rfl rfl, trivial⟩ (nx (Zf (fun a w h => Zj h 5 rfl) fun hl4 => Za (rg tb hJ [0, 1, 2, 3, 4, 6, 1001] [_, _] [] [(_, _), (_, _), (_, _), (_, _), (_, _), (_, _), (_, .bool (!decide (Qf d k (ge ((ge d.frames k).hyps ++ (ge d.frames k).dummies) j) (((ge d.frames k).hyps ++ (ge d.frames k).dummies).take j) (decide (((((ge d.frames k).hyps).length : Nat) : Int) ≤ (j : Int))) = (0 : Int))))] rfl rfl rfl rfl trivial (nx (tc 6 rfl rfl (fun hb5 => ?_) (fun hb5 => ?_)))))))))))
      ·
       have q5 : Zke d k = Zam d k j := Z9 (by simp; omega) f1_2 (ZaX hb5)
       refine Za (rg tb hJ [1001] [_, _] [] [(_, .int (Qf d k (ge ((ge d.frames k).hyps ++ (ge d.frames k).dummies) j) (((ge d.frames k).hyps ++ (ge d.frames k).dummies).take j) (decide (((((ge d.frames k).hyps).length : Nat) : Int) ≤ (j : Int)))))] rfl rfl rfl rfl trivial (nx (Zi (fun a w h => Zh (m := 0) rfl h rfl (congrArg AV.int (show (Qf d k (ge ((ge d.frames k).hyps ++ (ge d.frames k).dummies) j) (((ge d.frames k).hyps ++ (ge d.frames k).dummies).take j) (decide (((((ge d.frames k).hyps).length : Nat) : Int) ≤ (j : Int)))) = (frE d k) from by clear h; first | (show Zam d k j = _; have q6 : Zam d k j ≠ 0 := ZaX hb5; rw [frE, Zbi]; grind) | (rw [frE, Zbi]; grind)))))))
      ·
       refine Zd (nx (rg tb hJ [0, 1, 2, 3, 1002] [_, .int ((j + 1 : Nat) : Int), _] [1] [(_, _), (_, _), (_, _), (_, _), (_, .int ((j + 1 : Nat) : Int))] rfl rfl rfl rfl ⟨Yc (by first | omega | (simp; omega) | grind [Zb]) rfl rfl rfl rfl rfl, trivial⟩ ?_))
       intro a w h; change ∃ j, _ ∧ _
       exact ⟨j + 1, ⟨⟨(show (j + 1) ≤ ((ge d.frames k).hyps ++ (ge d.frames k).dummies).length from by simp; omega), (show ∀ i, i < (j + 1) → Zam d k i = 0 from ZW f1_2 (Zek hb5))⟩, lz [0, 1, 2, 3, 4] rfl h⟩, (show ((ge d.frames k).hyps ++ (ge d.frames k).dummies).length - (j + 1) < ((ge d.frames k).hyps ++ (ge d.frames k).dummies).length - j from by first | omega | (simp; omega))⟩
     ·
      try simp at hb4
      have e4 : Zke d k = 0 := Xl fun i hi => f1_2 i (by simp at hb4 hi; omega)
      refine Zv (nx (Za (Za (rg tb hJ [0, 1, 2, 1001, 1009] [_, _, .int ((((ge d.frames k).text).length : Nat) : Int), _, _, _, _, .int ((((ge d.frames k).text).length : Nat) : Int), _, _] [2, 7] [(_, _), (_, _), (_, _), (_, .rd (Zg ((ge d.frames k).text))), (_, .bool ((decide (((((ge d.frames k).text).length : Nat) : Int) = (0 : Int))) || (decide ((200 : Int) < ((((ge d.frames k).text).length : Nat) : Int)))))] rfl rfl rfl rfl ⟨Ys ZB rfl rfl rfl rfl, fun _ _ _ hx hl hc => Yy ZB rfl (hl.dep 6 86 _ rfl rfl rfl hc) hx, trivial⟩ (nx (Zf (fun a w h => Zj h 3 rfl) fun hl5 => tc 4 rfl rfl (fun hb6 => ?_) (fun hb6 => ?_)))))))
      ·
       refine Za (rg tb hJ [1000] [_] [] [(_, .int (2 : Int))] rfl rfl rfl rfl trivial (nx (Zi (fun a w h => Zh (m := 0) rfl h rfl (congrArg AV.int (show (2 : Int) = (frE d k) from by clear h; first | (show Zam d k j = _; have q6 : Zam d k j ≠ 0 := ZaX hb5; rw [frE, Zbi]; grind) | (rw [frE, Zbi]; grind)))))))
      ·
       refine Zd (nx (Za (Za (rg tb hJ [0, 1, 2, 1004] [_, _, _, .int (XJ d ((ge d.frames k).text)), _] [3] [(_, _), (_, _), (_, _), (_, .int (XJ d ((ge d.frames k).text)))] rfl rfl rfl rfl ⟨hFn hS hJ (Zfi hJ (d := d) (l := ((ge d.frames k).text)) (by first | omega | (simp; omega) | grind [Zb])) Zhl rfl rfl rfl rfl, trivial⟩ (nx (Za (rg tb hJ [0, 1, 2, 3, 1001] [_, _] [] [(_, _), (_, _), (_, _), (_, _), (_, .bool (!decide (XJ d ((ge d.frames k).text) = (0 : Int))))] rfl rfl rfl rfl trivial (nx (tc 4 rfl rfl (fun hb7 => ?_) (fun hb7 => ?_))))))))))
       ·
        try simp at hb7
        refine Za (rg tb hJ [1001] [_, _] [] [(_, .int (XJ d ((ge d.frames k).text)))] rfl rfl rfl rfl trivial (nx (Zi (fun a w h => Zh (m := 0) rfl h rfl (congrArg AV.int (show (XJ d ((ge d.frames k).text)) = (frE d k) from by clear h; first | (show Zam d k j = _; have q6 : Zam d k j ≠ 0 := ZaX hb5; rw [frE, Zbi]; grind) | (rw [frE, Zbi]; grind)))))))
       ·
        try simp at hb7
        refine Zd (nx (Za (Za (rg tb hJ [0, 1, 2, 1003] [_, _, .bool (ZaI d (ge d.frames k)), _] [2] [(_, _), (_, _), (_, _), (_, .bool (!(ZaI d (ge d.frames k))))] rfl rfl rfl rfl ⟨hFn hS hJ (Zf8 hJ (d := d) (f := (ge d.frames k)) (by first | omega | (simp; omega) | grind [Zb]) (by first | omega | (simp; omega) | grind [Zb]) (hw) (fun h hh => Zlh e4 h (by simp [hh]))) Zmi rfl rfl rfl rfl, trivial⟩ (nx (tc 3 rfl rfl (fun hb8 => ?_) (fun hb8 => ?_)))))))
        ·
         try simp at hb8
         refine Za (rg tb hJ [1000] [_] [] [(_, .int (70 : Int))] rfl rfl rfl rfl trivial (nx (Zi (fun a w h => Zh (m := 0) rfl h rfl (congrArg AV.int (show (70 : Int) = (frE d k) from by clear h; first | (show Zam d k j = _; have q6 : Zam d k j ≠ 0 := ZaX hb5; rw [frE, Zbi]; grind) | (rw [frE, Zbi]; grind)))))))
        ·
         try simp at hb8
         refine Zd (nx (Za (Za (rg tb hJ [0, 1, 2, 1001, 1014] [_, _, .int ((((ge d.frames k).proof).length : Nat) : Int), _, _, _, _, _, _, _, _, _, .int ((((ge d.frames k).proof).length : Nat) : Int), _, _] [2, 12] [(_, _), (_, _), (_, _), (_, .rd (Zg ((ge d.frames k).proof))), (_, .bool (((decide ((0 : Int) < ((((ge d.frames k).proof).length : Nat) : Int))) && (!((ge d.frames k).thm))) || (decide ((8000 : Int) < ((((ge d.frames k).proof).length : Nat) : Int)))))] rfl rfl rfl rfl ⟨Ys ZB rfl rfl rfl rfl, fun _ _ _ hx hl hc => Yy ZB rfl (hl.dep 11 112 _ rfl rfl rfl hc) hx, trivial⟩ (nx (Zf (fun a w h => Zj h 3 rfl) fun hl6 => tc 4 rfl rfl (fun hb9 => ?_) (fun hb9 => ?_)))))))
         ·
          refine Za (rg tb hJ [1000] [_] [] [(_, .int (2 : Int))] rfl rfl rfl rfl trivial (nx (Zi (fun a w h => Zh (m := 0) rfl h rfl (congrArg AV.int (show (2 : Int) = (frE d k) from by clear h; first | (show Zam d k j = _; have q6 : Zam d k j ≠ 0 := ZaX hb5; rw [frE, Zbi]; grind) | (rw [frE, Zbi]; grind)))))))
         ·
          refine Zd (nx (Za (Za (rg tb hJ [0, 1, 2, 1000] [_] [] [(_, _), (_, _), (_, _), (_, .int (0 : Int))] rfl rfl rfl rfl trivial (nx (Ze (Zw (ι := Nat) (fun (j : Nat) a w => ((j ≤ (ge d.frames k).proof.length) ∧ (((ge d.frames k).proof.take j).all Yb = true)) ∧ St All S w0 154 [(5, .ptr (frC (ge d.frames k))), (1, .int k), (2, .ptr (dbC d)), (12, .int j)] J a w) (fun (j : Nat) => ((ge d.frames k).proof.length - j : Nat)) ?_ ?_)))))))
          ·
           intro a w h
           exact ⟨0, (show (0 ≤ (ge d.frames k).proof.length) ∧ (((ge d.frames k).proof.take 0).all Yb = true) from ⟨Nat.zero_le _, rfl⟩), lz [0, 1, 2, 3] rfl h⟩
          ·
           rintro j
           refine ZD fun hF => ?_
           obtain ⟨f2_1, f2_2⟩ := hF
           refine Za (Za (rg tb hJ [0, 1, 2, 3, 1004] [_, _, _, .int ((((ge d.frames k).proof).length : Nat) : Int), _] [3] [(_, _), (_, _), (_, _), (_, _), (_, .bool (decide ((j : Int) < ((((ge d.frames k).proof).length : Nat) : Int))))] rfl rfl rfl rfl ⟨Ys ZB rfl rfl rfl rfl, trivial⟩ (nx (tc 4 rfl rfl (fun hb10 => ?_) (fun hb10 => ?_)))))
           ·
            try simp at hb10
            refine Zd (nx (Za (Ze (Za (rg tb hJ [0, 1, 2, 3, 1006] [_, _, _, .ptr [.lit (.string (ge ((ge d.frames k).proof) j))], _, .bool (Yb (ge ((ge d.frames k).proof) j)), _] [3, 5] [(_, _), (_, _), (_, _), (_, _), (_, .bool (!(Yb (ge ((ge d.frames k).proof) j))))] rfl rfl rfl rfl ⟨hIx Zk (by first | omega | (simp; omega) | grind [Zb]) rfl rfl rfl rfl rfl rfl, hFn hS hJ (Zj3 hJ (s := (ge ((ge d.frames k).proof) j)) ) Zmh rfl rfl rfl rfl, trivial⟩ (nx (tc 4 rfl rfl (fun hb11 => ?_) (fun hb11 => ?_))))))))
            ·
             try simp at hb11
             have q11 : (ge d.frames k).proof.all Yb = false := QB hb10 hb11
             refine Za (rg tb hJ [1000] [_] [] [(_, .int (2 : Int))] rfl rfl rfl rfl trivial (nx (Zi (fun a w h => Zh (m := 0) rfl h rfl (congrArg AV.int (show (2 : Int) = (frE d k) from by clear h; first | (show Zam d k j = _; have q6 : Zam d k j ≠ 0 := ZaX hb5; rw [frE, Zbi]; grind) | (rw [frE, Zbi]; grind)))))))
            ·
             try simp at hb11
             refine Zd (nx (rg tb hJ [0, 1, 2, 1002] [_, .int ((j + 1 : Nat) : Int), _] [1] [(_, _), (_, _), (_, _), (_, .int ((j + 1 : Nat) : Int))] rfl rfl rfl rfl ⟨Yc (by first | omega | (simp; omega) | grind [Zb]) rfl rfl rfl rfl rfl, trivial⟩ ?_))
             intro a w h; change ∃ j, _ ∧ _
             exact ⟨j + 1, ⟨⟨(show (j + 1) ≤ (ge d.frames k).proof.length from by omega), (show ((ge d.frames k).proof.take (j + 1)).all Yb = true from by rw [Xc (by omega), f2_2]; simpa using hb11)⟩, lz [0, 1, 2, 3] rfl h⟩, (show (ge d.frames k).proof.length - (j + 1) < (ge d.frames k).proof.length - j from by first | omega | (simp; omega))⟩
           ·
            try simp at hb10
            have e10 : (ge d.frames k).proof.all Yb = true := by rw [← Zp (xs := (ge d.frames k).proof) (by omega)]; exact f2_2
            refine Zv (nx (Za (rg tb hJ [1, 2, 1001, 1002] [_, _, _] [1] [(_, _), (_, _), (_, .rd (Zg ((ZZ (ge d.frames k).hyps).map Hy.label))), (_, .rd (Zg ((ZZ (ge d.frames k).hyps).map Hy.label)))] rfl rfl rfl rfl ⟨hFn hS hJ (ZbH hJ (f := (ge d.frames k)) (by first | omega | (simp; omega) | grind [Zb])) Zhk rfl rfl rfl rfl, trivial⟩ (nx (Zf (fun a w h => Zj h 2 rfl) fun hl7 => Za (Za (rg tb hJ [0, 1, 3, 1002, 1005] [_, _, _, _, .int ((Zae (ZcN d k) ((ZZ (ge d.frames k).hyps).map Hy.label) : Nat) : Int), _] [2, 4] [(_, _), (_, _), (_, _), (_, .rd (Zg (ZcN d k))), (_, .int ((Zae (ZcN d k) ((ZZ (ge d.frames k).hyps).map Hy.label) : Nat) : Int))] rfl rfl rfl rfl ⟨hFn hS hJ (Zmr hJ (d := d) (k := k) (by first | omega | (simp; omega) | grind [Zb]) (by first | omega | (simp; omega) | grind [Zb]) (fun h => (hz (k - 1) (by omega)).1)) Zmf rfl rfl rfl rfl, hFn hS hJ (Zmq hJ (xs := (ZcN d k)) (ys := ((ZZ (ge d.frames k).hyps).map Hy.label)) ) Zmg rfl rfl rfl rfl, trivial⟩ (nx (Zf (fun a w h => Zj h 3 rfl) fun hl8 => Ze (Zw (ι := Nat) (fun (m : Nat) a w => ((Zae (ZcN d k) ((ZZ (ge d.frames k).hyps).map Hy.label) ≤ m) ∧ (m ≤ ((ZZ (ge d.frames k).hyps).map Hy.label).length) ∧ (∀ i, Zae (ZcN d k) ((ZZ (ge d.frames k).hyps).map Hy.label) ≤ i → i < m → hyL d k (ge ((ZZ (ge d.frames k).hyps).map Hy.label) i) = false)) ∧ St All S w0 154 [(1, .int k), (2, .ptr (dbC d)), (13, .rd (Zg ((ZZ (ge d.frames k).hyps).map Hy.label))), (14, .int m)] J a w) (fun (m : Nat) => (((ZZ (ge d.frames k).hyps).map Hy.label).length - m : Nat)) ?_ ?_))))))))))
            ·
             intro a w h
             exact ⟨Zae (ZcN d k) ((ZZ (ge d.frames k).hyps).map Hy.label), (show (Zae (ZcN d k) ((ZZ (ge d.frames k).hyps).map Hy.label) ≤ (Zae (ZcN d k) ((ZZ (ge d.frames k).hyps).map Hy.label))) ∧ ((Zae (ZcN d k) ((ZZ (ge d.frames k).hyps).map Hy.label)) ≤ ((ZZ (ge d.frames k).hyps).map Hy.label).length) ∧ (∀ i, Zae (ZcN d k) ((ZZ (ge d.frames k).hyps).map Hy.label) ≤ i → i < (Zae (ZcN d k) ((ZZ (ge d.frames k).hyps).map Hy.label)) → hyL d k (ge ((ZZ (ge d.frames k).hyps).map Hy.label) i) = false) from ⟨Nat.le_refl _, Zf2 _ _, fun i h1 h2 => by omega⟩), lz [0, 1, 2, 4] rfl h⟩
            ·
             rintro m
             refine ZD fun hF => ?_
             obtain ⟨f3_1, f3_2, f3_3⟩ := hF
             refine Za (Za (rg tb hJ [0, 1, 2, 3, 1003] [_, _, .int ((((ZZ (ge d.frames k).hyps).map Hy.label).length : Nat) : Int), _] [2] [(_, _), (_, _), (_, _), (_, _), (_, .bool (decide ((m : Int) < ((((ZZ (ge d.frames k).hyps).map Hy.label).length : Nat) : Int))))] rfl rfl rfl rfl ⟨Ys ZB rfl rfl rfl rfl, trivial⟩ (nx (tc 4 rfl rfl (fun hb12 => ?_) (fun hb12 => ?_)))))
             ·
              replace hb12 : m < ((ZZ (ge d.frames k).hyps).map Hy.label).length := by have := of_decide_eq_true hb12; omega
              refine Zd (nx (Za (Ze (Za (rg tb hJ [0, 1, 2, 3, 1011] [_, _, _, _, .ptr [.lit (.string (ge ((ZZ (ge d.frames k).hyps).map Hy.label) m))], _, .tup [.bool (frL d k (ge ((ZZ (ge d.frames k).hyps).map Hy.label) m)), .bool (hyL d k (ge ((ZZ (ge d.frames k).hyps).map Hy.label) m))], _, _, _, _, _] [4, 6] [(_, _), (_, _), (_, _), (_, _), (_, .bool (hyL d k (ge ((ZZ (ge d.frames k).hyps).map Hy.label) m)))] rfl rfl rfl rfl ⟨hIx Zk (by first | omega | (simp; omega) | grind [Zb]) rfl rfl rfl rfl rfl rfl, hFn hS hJ (Zgb hJ (d := d) (n := k) (s := (ge ((ZZ (ge d.frames k).hyps).map Hy.label) m)) (by first | omega | (simp; omega) | grind [Zb]) (hz)) Zeb rfl rfl rfl rfl, trivial⟩ (nx (Za (rg tb hJ [0, 1, 2, 3, 1000] [_] [] [(_, _), (_, _), (_, _), (_, _), (_, .bool (hyL d k (ge ((ZZ (ge d.frames k).hyps).map Hy.label) m)))] rfl rfl rfl rfl trivial (nx (tc 4 rfl rfl (fun hb13 => ?_) (fun hb13 => ?_)))))))))))
              ·
               try simp at hb13
               have q13 : ordB d k (ge d.frames k) = true := Zlz f3_1 hb12 hb13
               refine Za (rg tb hJ [1000] [_] [] [(_, .int (7 : Int))] rfl rfl rfl rfl trivial (nx (Zi (fun a w h => Zh (m := 0) rfl h rfl (congrArg AV.int (show (7 : Int) = (frE d k) from by clear h; first | (show Zam d k j = _; have q6 : Zam d k j ≠ 0 := ZaX hb5; rw [frE, Zbi]; grind) | (rw [frE, Zbi]; grind)))))))
              ·
               try simp at hb13
               refine Zd (nx (rg tb hJ [0, 1, 2, 1002] [_, .int ((m + 1 : Nat) : Int), _] [1] [(_, _), (_, _), (_, _), (_, .int ((m + 1 : Nat) : Int))] rfl rfl rfl rfl ⟨Yc (by first | omega | (simp; omega) | grind [Zb]) rfl rfl rfl rfl rfl, trivial⟩ ?_))
               intro a w h; change ∃ j, _ ∧ _
               exact ⟨m + 1, ⟨⟨(show Zae (ZcN d k) ((ZZ (ge d.frames k).hyps).map Hy.label) ≤ (m + 1) from by omega), (show (m + 1) ≤ ((ZZ (ge d.frames k).hyps).map Hy.label).length from by omega), (show ∀ i, Zae (ZcN d k) ((ZZ (ge d.frames k).hyps).map Hy.label) ≤ i → i < (m + 1) → hyL d k (ge ((ZZ (ge d.frames k).hyps).map Hy.label) i) = false from fun i h1 h2 => by by_cases e : i = m; (subst e; simpa using hb13); exact f3_3 i h1 (by omega))⟩, lz [0, 1, 2, 3] rfl h⟩, (show ((ZZ (ge d.frames k).hyps).map Hy.label).length - (m + 1) < ((ZZ (ge d.frames k).hyps).map Hy.label).length - m from by first | omega | (simp; omega))⟩
             ·
              replace hb12 : ((ZZ (ge d.frames k).hyps).map Hy.label).length ≤ m := by have := of_decide_eq_false hb12; omega
              have e12 : ordB d k (ge d.frames k) = false := ZjH fun i h1 h2 => f3_3 i h1 (by omega)
              refine Zv (nx (Za (rg tb hJ [1000] [_] [] [(_, .int (0 : Int))] rfl rfl rfl rfl trivial (nx (Zi (fun a w h => Zh (m := 0) rfl h rfl (congrArg AV.int (show (0 : Int) = (frE d k) from by clear h; first | (show Zam d k j = _; have q6 : Zam d k j ≠ 0 := ZaX hb5; rw [frE, Zbi]; grind) | (rw [frE, Zbi]; grind)))))))))

theorem Zj4 {J : World → Prop} (hJ : Stab J) (d : Db) (hw : ∀ i, i < d.frames.length → (ge d.frames i).wide.length * 32 ≤ 140737488351232) : Fn Tryz.prog J 62 [.agg (dbC d)] (.int (Yz d)) := by
 refine Zx (N := 40) Tryz.func62 rfl rfl (lb rfl) fun S w0 hS hJ0 => ?_
 clear hJ0
 refine Za (rg tb hJ [1000] [_, _] [0] [(_, .ptr (dbC d))] rfl rfl rfl rfl ⟨fun _ _ hk hx hl _ => Yv rfl (hl.env 0 0 _ rfl rfl) (hS _ hk.size) (js hJ hx), trivial⟩ (nx (Za (Za (rg tb hJ [0, 1001, 1015] [_, _, .int d.frames.length, _, _, _, _, .int d.consts.length, _, _, _, _, _, .int d.vars.length, _, _] [2, 7, 13] [(_, _), (_, .rd (Yn d.frames)), (_, .bool (((decide ((400 : Int) < (d.frames.length : Int))) || (decide ((8000 : Int) < (d.consts.length : Int)))) || (decide ((8000 : Int) < (d.vars.length : Int)))))] rfl rfl rfl rfl ⟨Ys YH rfl rfl rfl rfl, fun _ _ _ hx hl hc => Yy ZB rfl (hl.dep 6 12 _ rfl rfl rfl hc) hx, fun _ _ _ hx hl hc => Yy ZB rfl (hl.dep 12 18 _ rfl rfl rfl hc) hx, trivial⟩ (nx (Zf (fun a w h => Zj h 1 rfl) fun hl1 => tc 2 rfl rfl (fun hb1 => ?_) (fun hb1 => ?_))))))))
 refine Za (rg tb hJ [1000] [_] [] [(_, .int (8 : Int))] rfl rfl rfl rfl trivial (nx (Zi (fun a w h => Zh (m := 0) rfl h rfl (congrArg AV.int (show (8 : Int) = (Yz d) from by clear h; rw [Yz]; grind))))))
 have e1 : (d.frames.length ≤ 400 ∧ d.consts.length ≤ 8000) ∧ d.vars.length ≤ 8000 := by simp at hb1; omega
 refine Zd (nx (Za (Za (rg tb hJ [0, 1002] [_, .int (Xf d), _] [1] [(_, _), (_, .int (Xf d))] rfl rfl rfl rfl ⟨hFn hS hJ (Zj2 hJ (d := d) ) Zod rfl rfl rfl rfl, trivial⟩ (nx (Za (rg tb hJ [0, 1, 1001] [_, _] [] [(_, _), (_, _), (_, .bool (!decide (Xf d = (0 : Int))))] rfl rfl rfl rfl trivial (nx (tc 2 rfl rfl (fun hb2 => ?_) (fun hb2 => ?_))))))))))
 try simp at hb2
 refine Za (rg tb hJ [1001] [_, _] [] [(_, .int (Xf d))] rfl rfl rfl rfl trivial (nx (Zi (fun a w h => Zh (m := 0) rfl h rfl (congrArg AV.int (show (Xf d) = (Yz d) from by clear h; rw [Yz]; grind))))))
 try simp at hb2
 refine Zd (nx (Za (Za (rg tb hJ [0, 1000] [_] [] [(_, _), (_, .int (0 : Int))] rfl rfl rfl rfl trivial (nx (Ze (Zw (ι := Nat) (fun (k : Nat) a w => ((k ≤ d.frames.length) ∧ (∀ i, i < k → frE d i = 0)) ∧ St All S w0 40 [(1, .ptr (dbC d)), (4, .int k)] J a w) (fun (k : Nat) => (d.frames.length - k : Nat)) ?_ ?_)))))))
 intro a w h
 exact ⟨0, (show (0 ≤ d.frames.length) ∧ (∀ i, i < 0 → frE d i = 0) from ⟨Nat.zero_le _, fun j hj => by omega⟩), lz [0, 1] rfl h⟩
 rintro k
 refine ZD fun hF => ?_
 obtain ⟨f1_1, f1_2⟩ := hF
 refine Za (Za (rg tb hJ [0, 1, 1004] [_, _, _, .int d.frames.length, _] [3] [(_, _), (_, _), (_, .bool (decide ((k : Int) < (d.frames.length : Int))))] rfl rfl rfl rfl ⟨Ys YH rfl rfl rfl rfl, trivial⟩ (nx (tc 2 rfl rfl (fun hb3 => ?_) (fun hb3 => ?_)))))
 try simp at hb3
 refine Zd (nx (Za (Ze (Za (rg tb hJ [0, 1, 1003] [_, _, .int (frE d k), _] [2] [(_, _), (_, _), (_, .int (frE d k))] rfl rfl rfl rfl ⟨hFn hS hJ (ZoA hJ (d := d) (k := k) (by first | omega | (simp; omega) | grind [Zb]) (e1.1.1) (e1.2) (fun i hi => Zg5 (f1_2 i hi)) (hw k (by omega))) Zoc rfl rfl rfl rfl, trivial⟩ (nx (Za (rg tb hJ [0, 1, 2, 1001] [_, _] [] [(_, _), (_, _), (_, _), (_, .bool (!decide (frE d k = (0 : Int))))] rfl rfl rfl rfl trivial (nx (tc 3 rfl rfl (fun hb4 => ?_) (fun hb4 => ?_)))))))))))
 try simp at hb4
 have q4 := Z9 (by omega) f1_2 hb4
 refine Za (rg tb hJ [1001] [_, _] [] [(_, .int (frE d k))] rfl rfl rfl rfl trivial (nx (Zi (fun a w h => Zh (m := 0) rfl h rfl (congrArg AV.int (show (frE d k) = (Yz d) from by clear h; rw [Yz]; grind))))))
 try simp at hb4
 refine Zd (nx (rg tb hJ [0, 1002] [_, .int ((k + 1 : Nat) : Int), _] [1] [(_, _), (_, .int ((k + 1 : Nat) : Int))] rfl rfl rfl rfl ⟨Yc (by first | omega | (simp; omega) | grind [Zb]) rfl rfl rfl rfl rfl, trivial⟩ ?_))
 intro a w h; change ∃ j, _ ∧ _
 exact ⟨k + 1, ⟨⟨(show (k + 1) ≤ d.frames.length from by omega), (show ∀ i, i < (k + 1) → frE d i = 0 from ZW f1_2 hb4)⟩, lz [0, 1] rfl h⟩, (show d.frames.length - (k + 1) < d.frames.length - k from by first | omega | (simp; omega))⟩
 try simp at hb3
 have e3 : YV d.frames.length (frE d) = 0 := Xl fun i hi => f1_2 i (by omega)
 refine Zv (nx (Za (rg tb hJ [1000] [_] [] [(_, .int (0 : Int))] rfl rfl rfl rfl trivial (nx (Zi (fun a w h => Zh (m := 0) rfl h rfl (congrArg AV.int (show (0 : Int) = (Yz d) from by clear h; rw [Yz]; grind))))))))
end Go.Proofs.YtnpgmdffjemnbaaGreatDoor
set_option maxHeartbeats 8000000
set_option maxRecDepth 100000
namespace Go.Proofs.YtnpgmdffjemnbaaGreatDoor
open Go.RowKit

theorem Zfj {J : World → Prop} (hJ : Stab J) (d : Db) (i : Int) (hw : ∀ i, i < d.frames.length → (ge d.frames i).wide.length * 32 ≤ 140737488351232) : Fn Tryz.prog J 44 [.agg (dbC d), .int i] (.int (QV d i)) := by
 refine Zx (N := 20) Tryz.func44 rfl rfl (lb rfl) fun S w0 hS hJ0 => ?_
 clear hJ0
 refine Za (rg tb hJ [1, 1000] [_, _] [0] [(_, _), (_, .ptr (dbC d))] rfl rfl rfl rfl ⟨fun _ _ hk hx hl _ => Yv rfl (hl.env 0 0 _ rfl rfl) (hS _ hk.size) (js hJ hx), trivial⟩ (nx (Za (Za (rg tb hJ [0, 1, 1002] [_, .int (Yz d), _] [1] [(_, _), (_, _), (_, .int (Yz d))] rfl rfl rfl rfl ⟨hFn hS hJ (Zj4 hJ (d := d) (hw)) ZjV rfl rfl rfl rfl, trivial⟩ (nx (Za (rg tb hJ [0, 1, 2, 1001] [_, _] [] [(_, _), (_, _), (_, _), (_, .bool (!decide (Yz d = (0 : Int))))] rfl rfl rfl rfl trivial (nx (tc 3 rfl rfl (fun hb1 => ?_) (fun hb1 => ?_)))))))))))
 try simp at hb1
 refine Za (rg tb hJ [1001] [_, _] [] [(_, .int (Yz d))] rfl rfl rfl rfl trivial (nx (Zi (fun a w h => Zh (m := 0) rfl h rfl (congrArg AV.int (show (Yz d) = (QV d i) from by clear h; rw [QV]; grind))))))
 try simp at hb1
 refine Zd (nx (Za (Za (rg tb hJ [1008] [_, _, _, _, _, _, .int d.frames.length, _, _] [6] [(_, .bool ((decide (i < (0 : Int))) || (decide ((d.frames.length : Int) ≤ i))))] rfl rfl rfl rfl ⟨fun _ _ _ hx hl hc => Yy YH rfl (hl.dep 5 16 _ rfl rfl rfl hc) hx, trivial⟩ (nx (tc 0 rfl rfl (fun hb2 => ?_) (fun hb2 => ?_)))))))
 refine Za (rg tb hJ [1000] [_] [] [(_, .int (3 : Int))] rfl rfl rfl rfl trivial (nx (Zi (fun a w h => Zh (m := 0) rfl h rfl (congrArg AV.int (show (3 : Int) = (QV d i) from by clear h; rw [QV]; grind))))))
 refine Zd (nx (Za (rg tb hJ [1000] [_] [] [(_, .int (0 : Int))] rfl rfl rfl rfl trivial (nx (Zi (fun a w h => Zh (m := 0) rfl h rfl (congrArg AV.int (show (0 : Int) = (QV d i) from by clear h; rw [QV]; grind))))))))
theorem Zj1 {J : World → Prop} (hJ : Stab J) (d : Db) (i : Nat) (hi : i < d.frames.length) (hf : d.frames.length ≤ 400) : Fn Tryz.prog J 45 [.agg (dbC d), .int i] (.rd (ZG (ZN d i))) := by
 refine Zx (N := 81) Tryz.func45 rfl rfl (lb rfl) fun S w0 hS hJ0 => ?_
 refine tw Yi ?_
 refine Za (rgo tb hJ [1, 1000] [_, _] [0] [(_, _), (_, .ptr (dbC d))] rfl rfl rfl rfl ⟨fun _ _ hk hx hl _ => Yv rfl (hl.env 0 0 _ rfl rfl) (Zr hS _ hk hx _ (Nat.le_refl _)) (jo hJ hx), trivial⟩ (nx (Za (Zn (XM Zo hJ rfl rfl rfl (lb rfl) fun v1 => ?_)))))
 refine sv tb rfl rfl rfl rfl (Zy ?_)
 refine kw (lz [0, 2, 3] (env' := [(_, _), (_, _), (_, _)]) rfl) ?_
 refine nx (Za (Zn (sv (av := .ptr [Yn d.frames]) tb rfl rfl rfl rfl (sv (av := .rd (Yn d.frames)) tb rfl rfl rfl rfl (sv tb rfl rfl rfl rfl (sq (.ptr (frC (ge d.frames i))) rfl rfl (lb rfl) (fun _ _ h => ZI (i := (i : Int)) Ye rfl (h.get 1 rfl) (h.get 0 rfl) (Int.natCast_nonneg _) (ZL (xs := d.frames) (k := i) (by first | omega | (simp; omega) | grind [Zb])) rfl h.x) (sv (av := .agg (frC (ge d.frames i))) tb rfl rfl rfl rfl (QZ (cs := frC (ge d.frames i)) ZdC rfl rfl rfl (lb rfl) rfl rfl rfl (by decide) (m := 0) rfl rfl (fun a w h => Zr hS _ h.keep h.x _ (Nat.le_refl _)) (fun a w h w' hk' => YY hJ _ _ hk' h.x) (Zy ?_)))))))))
 refine kw (lz [0, 4, 6, 7, 8] (env' := [(_, _), (_, _), (_, _), (_, _), (_, _)]) rfl) ?_
 refine nx (Zf (fun a w h => Zj h 1 rfl) fun hl1 => Za (Za (rgo tb hJ [0, 2, 3, 4, 1002] [_, _, _] [] [(_, _), (_, _), (_, _), (_, _), (_, .bool (!((ge d.frames i).thm)))] rfl rfl rfl rfl trivial (nx (tc 4 rfl rfl (fun hb1 => ?_) (fun hb1 => ?_))))))
 try simp at hb1
 refine Za (rgo tb hJ [1001] [_, _] [] [(_, .lit v1)] rfl rfl rfl rfl trivial (nx ?_))
 refine tw (fun h => ZO hS h (m := 0) (s := 4) rfl) ?_
 refine Zi (fun a w h => Zh (m := 0) rfl (Zl h) rfl (congrArg (fun z => AV.rd (ZG z)) (show ([] : List Int) = (ZN d i) from by grind [ZN])))
 try simp at hb1
 refine Zd (nx (Za (rgo tb hJ [1, 2, 3, 1001, 1002] [_, _, _] [] [(_, _), (_, _), (_, _), (_, .rd (Zg ((ge d.frames i).proof))), (_, .rd (Zg ((ge d.frames i).proof)))] rfl rfl rfl rfl trivial (nx (Zf (fun a w h => Zj h 3 rfl) fun hl2 => Za (Za (rgo tb hJ [0, 1, 2, 4, 1008] [_, .int ((((ge d.frames i).proof).length : Nat) : Int), _, _, _, .ptr [.lit (.string (ge ((ge d.frames i).proof) 0))], _, _, _] [1, 5] [(_, _), (_, _), (_, _), (_, _), (_, .bool ((decide ((0 : Int) < ((((ge d.frames i).proof).length : Nat) : Int))) && (decide ((ge ((ge d.frames i).proof) 0) = (⟨#[40]⟩ : ByteArray)))))] rfl rfl rfl rfl ⟨Ys ZB rfl rfl rfl rfl, fun _ _ _ hx hl hc => ZI (i := ((0 : Nat) : Int)) Zk rfl (hl.dep 4 27 _ rfl rfl rfl hc) (Rel.of_lit (Go.Value.int Go.IntKind.i64 0)) (Int.natCast_nonneg _) (ZL (xs := (ge d.frames i).proof) (k := 0) (by have hc' : ((decide ((0 : Int) < ((((ge d.frames i).proof).length : Nat) : Int))) == true) = true := hc; (try simp at hc'); (first | omega | (simp; omega) | grind [Zb]))) rfl hx, trivial⟩ (nx (tc 4 rfl rfl (fun hb2 => ?_) (fun hb2 => ?_))))))))))
 try simp at hb2
 refine Za (rgo tb hJ [0, 1, 2, 3, 1000] [_] [] [(_, _), (_, _), (_, _), (_, _), (_, .int (1 : Int))] rfl rfl rfl rfl trivial (nx (Za (Ze (Zw (ι := Nat) (fun (n : Nat) a w => ((1 ≤ n) ∧ (n ≤ (ge d.frames i).proof.length) ∧ (∀ j, 1 ≤ j → j < n → ge (ge d.frames i).proof j ≠ ⟨#[41]⟩)) ∧ St All (SO S [OB.row v1 3 1 (([] : List Int).map Yq)]) w0 81 [(5, .lit v1), (1, .int i), (2, .ptr (dbC d)), (7, .rd (Zg ((ge d.frames i).proof))), (8, .int n)] (XO J S w0.heap.size [OB.row v1 3 1 (([] : List Int).map Yq)]) a w) (fun (n : Nat) => ((ge d.frames i).proof.length - n : Nat)) ?_ ?_)))))
 intro a w h
 exact ⟨1, (show (1 ≤ 1) ∧ (1 ≤ (ge d.frames i).proof.length) ∧ (∀ j, 1 ≤ j → j < 1 → ge (ge d.frames i).proof j ≠ ⟨#[41]⟩) from ⟨Nat.le_refl _, by omega, fun j h1 h2 => by omega⟩), lz [0, 1, 2, 3, 4] rfl h⟩
 rintro n
 refine ZD fun hF => ?_
 obtain ⟨f1_1, f1_2, f1_3⟩ := hF
 refine Za (Za (rgo tb hJ [0, 1, 2, 3, 4, 1010] [_, _, .int ((((ge d.frames i).proof).length : Nat) : Int), _, _, _, _, .ptr [.lit (.string (ge ((ge d.frames i).proof) n))], _, _, _] [2, 7] [(_, _), (_, _), (_, _), (_, _), (_, _), (_, .bool ((decide ((n : Int) < ((((ge d.frames i).proof).length : Nat) : Int))) && (!decide ((ge ((ge d.frames i).proof) n) = (⟨#[41]⟩ : ByteArray)))))] rfl rfl rfl rfl ⟨Ys ZB rfl rfl rfl rfl, fun _ _ _ hx hl hc => ZI (i := (n : Int)) Zk rfl (hl.dep 5 37 _ rfl rfl rfl hc) (hl.dep 6 38 _ rfl rfl rfl hc) (Int.natCast_nonneg _) (ZL (xs := (ge d.frames i).proof) (k := n) (by have hc' : ((decide ((n : Int) < ((((ge d.frames i).proof).length : Nat) : Int))) == true) = true := hc; (try simp at hc'); (first | omega | (simp; omega) | grind [Zb]))) rfl hx, trivial⟩ (nx (tc 5 rfl rfl (fun hb3 => ?_) (fun hb3 => ?_)))))
 try simp at hb3
 refine Zd (nx (Ze (rgo tb hJ [0, 1, 2, 3, 1002] [_, .int ((n + 1 : Nat) : Int), _] [1] [(_, _), (_, _), (_, _), (_, _), (_, .int ((n + 1 : Nat) : Int))] rfl rfl rfl rfl ⟨Yc (by first | omega | (simp; omega) | grind [Zb]) rfl rfl rfl rfl rfl, trivial⟩ ?_)))
 intro a w h; change ∃ j, _ ∧ _
 exact ⟨n + 1, ⟨⟨(show 1 ≤ (n + 1) from by omega), (show (n + 1) ≤ (ge d.frames i).proof.length from by omega), (show ∀ j, 1 ≤ j → j < (n + 1) → ge (ge d.frames i).proof j ≠ ⟨#[41]⟩ from fun j h1 h2 => by by_cases e : j = n; (subst e; exact hb3.2); exact f1_3 j h1 (by omega))⟩, lz [0, 1, 2, 3, 4] rfl h⟩, (show (ge d.frames i).proof.length - (n + 1) < (ge d.frames i).proof.length - n from by first | omega | (simp; omega))⟩
 try simp at hb3
 refine Zv (nx (rgo tb hJ [0, 1, 2, 1002, 1003] [_, _, _, _] [2] [(_, _), (_, _), (_, _), (_, .rd (Zg ((((ge d.frames i).proof).take n).drop 1))), (_, .rd (Zg ((((ge d.frames i).proof).take n).drop 1)))] rfl rfl rfl rfl ⟨fun _ _ _ hx hl _ => Xb (ys := (((ge d.frames i).proof).take n).drop 1) (lo := 1) (hi := n) rfl Zk (fun _ => rfl) rfl (hl.dep 0 45 _ rfl rfl rfl rfl) (Rel.of_lit (Go.Value.int Go.IntKind.i64 1)) (hl.dep 1 46 _ rfl rfl rfl rfl) (by first | omega | (simp; omega) | grind [Zb]) (by first | omega | (simp; omega) | grind [Zb]) hx, trivial⟩ (nx (Zf (fun a w h => Zj h 3 rfl) fun hl3 => Za (Za ?_)))))
 refine tw (sa 4 rfl (congrArg (fun z' => AV.rd (Zg z')) (show ((((ge d.frames i).proof).take n).drop 1) = (YE (ge d.frames i).proof) from by first | exact ZeS hb2 f1_1 f1_2 f1_3 (by grind) | exact QC (by grind)))) ?_
 refine rgo tb hJ [0, 1, 2, 4, 1000] [_] [] [(_, _), (_, _), (_, _), (_, _), (_, .int (0 : Int))] rfl rfl rfl rfl trivial (nx (Zf (fun a w h => Zj h 3 rfl) fun hl4 => Ze (Zw (ι := Nat × Value × (List Int)) (fun (ii' : Nat × Value × (List Int)) a w => match ii' with | (k, vo, out) => ((k ≤ i) ∧ (out = Qt d (YE (ge d.frames i).proof) k) ∧ (out.length ≤ k)) ∧ St All (SO S [OB.row vo 3 1 (out.map Yq)]) w0 81 [(1, .int i), (2, .ptr (dbC d)), (7, .rd (Zg (YE (ge d.frames i).proof))), (9, .int k), (5, .lit vo)] (XO J S w0.heap.size [OB.row vo 3 1 (out.map Yq)]) a w) (fun (ii' : Nat × Value × (List Int)) => match ii' with | (k, _, _) => (i - k : Nat)) ?_ ?_)))
 intro a w h
 exact ⟨(0, v1, ([] : List Int)), (show (0 ≤ i) ∧ (([] : List Int) = Qt d (YE (ge d.frames i).proof) 0) ∧ (([] : List Int).length ≤ 0) from ⟨Nat.zero_le _, rfl, Nat.zero_le _⟩), lz [1, 2, 3, 4, 0] rfl h⟩
 rintro ⟨k, vo, out⟩
 refine ZD fun hF => ?_
 obtain ⟨f2_1, f2_2, f2_3⟩ := hF
 refine Za (Za (rgo tb hJ [0, 1, 2, 3, 4, 1002] [_, _, _] [] [(_, _), (_, _), (_, _), (_, _), (_, _), (_, .bool (decide ((k : Int) < (i : Int))))] rfl rfl rfl rfl trivial (nx (tc 5 rfl rfl (fun hb4 => ?_) (fun hb4 => ?_)))))
 try simp at hb4
 refine Zd (nx (Za (Ze (Za (rgo tb hJ [0, 1, 2, 3, 4, 1000] [_] [] [(_, _), (_, _), (_, _), (_, _), (_, _), (_, .int (0 : Int))] rfl rfl rfl rfl trivial (nx (Ze (Zw (ι := Nat × Value × (List Int)) (fun (ii' : Nat × Value × (List Int)) a w => match ii' with | (n, vp, out2) => ((n ≤ (YE (ge d.frames i).proof).length) ∧ (out2 = XW d (YE (ge d.frames i).proof) k n) ∧ (out2.length ≤ k + 1)) ∧ St All (SO S [OB.row vp 3 1 (out2.map Yq)]) w0 81 [(1, .int i), (2, .ptr (dbC d)), (7, .rd (Zg (YE (ge d.frames i).proof))), (9, .int k), (10, .int n), (5, .lit vp)] (XO J S w0.heap.size [OB.row vp 3 1 (out2.map Yq)]) a w) (fun (ii' : Nat × Value × (List Int)) => match ii' with | (n, _, _) => ((YE (ge d.frames i).proof).length - n : Nat)) ?_ ?_))))))))
 intro a w h
 exact ⟨(0, vo, out), (show (0 ≤ (YE (ge d.frames i).proof).length) ∧ (out = XW d (YE (ge d.frames i).proof) k 0) ∧ (out.length ≤ k + 1) from ⟨Nat.zero_le _, by simp [f2_2, XW], by omega⟩), lz [0, 1, 2, 3, 5, 4] rfl h⟩
 rintro ⟨n, vp, out2⟩
 refine ZD fun hF => ?_
 obtain ⟨f3_1, f3_2, f3_3⟩ := hF
 refine Za (Za (rgo tb hJ [0, 1, 2, 3, 4, 5, 1003] [_, _, .int (((YE (ge d.frames i).proof).length : Nat) : Int), _] [2] [(_, _), (_, _), (_, _), (_, _), (_, _), (_, _), (_, .bool (decide ((n : Int) < (((YE (ge d.frames i).proof).length : Nat) : Int))))] rfl rfl rfl rfl ⟨Ys ZB rfl rfl rfl rfl, trivial⟩ (nx (tc 6 rfl rfl (fun hb5 => ?_) (fun hb5 => ?_)))))
 try simp at hb5
 refine Zd (nx (Za (Ze (Za (rgr tb hJ [0, 1, 2, 3, 4, 5, 1016] [_, _, .ptr [.lit (.string (ge (YE (ge d.frames i).proof) n))], _, _, _, _, .ptr (frC (ge d.frames k)), _, _, _, _, _, _, .bool (decide ((k : Int) ∈ out2)), _, _] [2, 7, 14] [(_, _), (_, _), (_, _), (_, _), (_, _), (_, _), (_, .bool ((decide ((ge (YE (ge d.frames i).proof) n) = ((ge d.frames k).label))) && (!(decide ((k : Int) ∈ out2)))))] rfl rfl rfl rfl ⟨hIx Zk (by first | omega | (simp; omega) | grind [Zb]) rfl rfl rfl rfl rfl rfl, hIx Ye (by first | omega | (simp; omega) | grind [Zb]) rfl rfl rfl rfl rfl rfl, fun _ _ hk hx hl hc => Qk (c_in hJ (xs := out2) (n := (k : Int)) ) Zf7 rfl (nm hS hk) (hx.1) (Zc (YM hS hx (mo 0 rfl) (hl.dep 12 71 _ rfl rfl rfl hc)) (Zc (hl.dep 13 72 _ rfl rfl rfl hc) Zm)) (jo hJ hx), trivial⟩ (nx (tc 6 rfl rfl (fun hb6 => ?_) (fun hb6 => ?_))))))))
 try simp at hb6
 refine Zn (sv tb rfl rfl rfl rfl (sv tb rfl rfl rfl rfl (sq (.rd (ZG ([(k : Int)]))) rfl rfl (lb rfl) (fun _ _ h => ZV Zo Xu rfl (h.get 0 rfl) (Zr hS _ h.keep h.x _ (Nat.le_refl _)) (jo hJ h.x)) (ZR (f := Yq) (m := 2) (s := 76) out2 ([(k : Int)]) (fun _ => rfl) YU hJ hJ0 rfl rfl rfl (lb rfl) rfl rfl (fun a w h => (h.get 0 rfl)) (by simp; omega) (by simp; omega) fun v2 => ?_))))
 refine sv tb rfl rfl rfl rfl (Zy ?_)
 refine kw (lz [0, 2, 5, 6, 7, 8, 9] (env' := [(_, _), (_, _), (_, _), (_, _), (_, _), (_, _), (_, _)]) rfl) ?_
 refine nx (Zf (fun a w h => Zj h 1 rfl) fun hl5 => rgo tb hJ [0, 2, 3, 4, 5, 1002] [_, .int ((n + 1 : Nat) : Int), _] [1] [(_, _), (_, _), (_, _), (_, _), (_, _), (_, .int ((n + 1 : Nat) : Int))] rfl rfl rfl rfl ⟨Yc (by first | omega | (simp; omega) | grind [Zb]) rfl rfl rfl rfl rfl, trivial⟩ ?_)
 intro a w h; change ∃ j, _ ∧ _
 exact ⟨(n + 1, v2, out2 ++ ([(k : Int)])), ⟨⟨(show (n + 1) ≤ (YE (ge d.frames i).proof).length from by omega), (show (out2 ++ ([(k : Int)])) = XW d (YE (ge d.frames i).proof) k (n + 1) from by rw [f3_2]; exact ZaO hb5 hb6.1 (f3_2 ▸ hb6.2)), (show (out2 ++ ([(k : Int)])).length ≤ k + 1 from by have e := ZaO hb5 hb6.1 (f3_2 ▸ hb6.2); rw [f3_2, e]; exact Zen _ _ _ _)⟩, lz [1, 2, 3, 4, 5, 0] rfl h⟩, (show (YE (ge d.frames i).proof).length - (n + 1) < (YE (ge d.frames i).proof).length - n from by first | omega | (simp; omega))⟩
 try simp at hb6
 refine Zd (nx (rgo tb hJ [0, 1, 2, 3, 5, 1002] [_, .int ((n + 1 : Nat) : Int), _] [1] [(_, _), (_, _), (_, _), (_, _), (_, _), (_, .int ((n + 1 : Nat) : Int))] rfl rfl rfl rfl ⟨Yc (by first | omega | (simp; omega) | grind [Zb]) rfl rfl rfl rfl rfl, trivial⟩ ?_))
 intro a w h; change ∃ j, _ ∧ _
 exact ⟨(n + 1, vp, out2), ⟨⟨(show (n + 1) ≤ (YE (ge d.frames i).proof).length from by omega), (show out2 = XW d (YE (ge d.frames i).proof) k (n + 1) from by rw [f3_2]; exact Zc6 hb5 (fun e => f3_2 ▸ hb6 e)), (show out2.length ≤ k + 1 from by omega)⟩, lz [0, 1, 2, 3, 5, 4] rfl h⟩, (show (YE (ge d.frames i).proof).length - (n + 1) < (YE (ge d.frames i).proof).length - n from by first | omega | (simp; omega))⟩
 try simp at hb5
 refine Zv (nx (rgo tb hJ [0, 1, 2, 5, 1002] [_, .int ((k + 1 : Nat) : Int), _] [1] [(_, _), (_, _), (_, _), (_, _), (_, .int ((k + 1 : Nat) : Int))] rfl rfl rfl rfl ⟨Yc (by first | omega | (simp; omega) | grind [Zb]) rfl rfl rfl rfl rfl, trivial⟩ ?_))
 intro a w h; change ∃ j, _ ∧ _
 exact ⟨(k + 1, vp, out2), ⟨⟨(show (k + 1) ≤ i from by omega), (show out2 = Qt d (YE (ge d.frames i).proof) (k + 1) from by rw [f3_2]; exact Zeo hb5), (show out2.length ≤ (k + 1) from by omega)⟩, lz [0, 1, 2, 4, 3] rfl h⟩, (show i - (k + 1) < i - k from by first | omega | (simp; omega))⟩
 try simp at hb4
 refine Zv (nx (Za (rgo tb hJ [1001] [_, _] [] [(_, .lit vo)] rfl rfl rfl rfl trivial (nx ?_))))
 refine tw (fun h => ZO hS h (m := 0) (s := 4) rfl) ?_
 refine Zi (fun a w h => Zh (m := 0) rfl (Zl h) rfl (congrArg (fun z => AV.rd (ZG z)) (show out = (ZN d i) from by grind [ZN])))
 try simp at hb2
 refine Zd (nx (Za (Za ?_)))
 refine tw (sa 3 rfl (congrArg (fun z' => AV.rd (Zg z')) (show ((ge d.frames i).proof) = (YE (ge d.frames i).proof) from by first | exact ZeS hb2 f1_1 f1_2 f1_3 (by grind) | exact QC (by grind)))) ?_
 refine rgo tb hJ [0, 1, 2, 3, 1000] [_] [] [(_, _), (_, _), (_, _), (_, _), (_, .int (0 : Int))] rfl rfl rfl rfl trivial (nx (Zf (fun a w h => Zj h 3 rfl) fun hl6 => Ze (Zw (ι := Nat × Value × (List Int)) (fun (ii' : Nat × Value × (List Int)) a w => match ii' with | (k, vo, out) => ((k ≤ i) ∧ (out = Qt d (YE (ge d.frames i).proof) k) ∧ (out.length ≤ k)) ∧ St All (SO S [OB.row vo 3 1 (out.map Yq)]) w0 81 [(1, .int i), (2, .ptr (dbC d)), (7, .rd (Zg (YE (ge d.frames i).proof))), (9, .int k), (5, .lit vo)] (XO J S w0.heap.size [OB.row vo 3 1 (out.map Yq)]) a w) (fun (ii' : Nat × Value × (List Int)) => match ii' with | (k, _, _) => (i - k : Nat)) ?_ ?_)))
 intro a w h
 exact ⟨(0, v1, ([] : List Int)), (show (0 ≤ i) ∧ (([] : List Int) = Qt d (YE (ge d.frames i).proof) 0) ∧ (([] : List Int).length ≤ 0) from ⟨Nat.zero_le _, rfl, Nat.zero_le _⟩), lz [1, 2, 3, 4, 0] rfl h⟩
 rintro ⟨k, vo, out⟩
 refine ZD fun hF => ?_
 obtain ⟨f2_1, f2_2, f2_3⟩ := hF
 refine Za (Za (rgo tb hJ [0, 1, 2, 3, 4, 1002] [_, _, _] [] [(_, _), (_, _), (_, _), (_, _), (_, _), (_, .bool (decide ((k : Int) < (i : Int))))] rfl rfl rfl rfl trivial (nx (tc 5 rfl rfl (fun hb4 => ?_) (fun hb4 => ?_)))))
 try simp at hb4
 refine Zd (nx (Za (Ze (Za (rgo tb hJ [0, 1, 2, 3, 4, 1000] [_] [] [(_, _), (_, _), (_, _), (_, _), (_, _), (_, .int (0 : Int))] rfl rfl rfl rfl trivial (nx (Ze (Zw (ι := Nat × Value × (List Int)) (fun (ii' : Nat × Value × (List Int)) a w => match ii' with | (n, vp, out2) => ((n ≤ (YE (ge d.frames i).proof).length) ∧ (out2 = XW d (YE (ge d.frames i).proof) k n) ∧ (out2.length ≤ k + 1)) ∧ St All (SO S [OB.row vp 3 1 (out2.map Yq)]) w0 81 [(1, .int i), (2, .ptr (dbC d)), (7, .rd (Zg (YE (ge d.frames i).proof))), (9, .int k), (10, .int n), (5, .lit vp)] (XO J S w0.heap.size [OB.row vp 3 1 (out2.map Yq)]) a w) (fun (ii' : Nat × Value × (List Int)) => match ii' with | (n, _, _) => ((YE (ge d.frames i).proof).length - n : Nat)) ?_ ?_))))))))
 intro a w h
 exact ⟨(0, vo, out), (show (0 ≤ (YE (ge d.frames i).proof).length) ∧ (out = XW d (YE (ge d.frames i).proof) k 0) ∧ (out.length ≤ k + 1) from ⟨Nat.zero_le _, by simp [f2_2, XW], by omega⟩), lz [0, 1, 2, 3, 5, 4] rfl h⟩
 rintro ⟨n, vp, out2⟩
 refine ZD fun hF => ?_
 obtain ⟨f3_1, f3_2, f3_3⟩ := hF
 refine Za (Za (rgo tb hJ [0, 1, 2, 3, 4, 5, 1003] [_, _, .int (((YE (ge d.frames i).proof).length : Nat) : Int), _] [2] [(_, _), (_, _), (_, _), (_, _), (_, _), (_, _), (_, .bool (decide ((n : Int) < (((YE (ge d.frames i).proof).length : Nat) : Int))))] rfl rfl rfl rfl ⟨Ys ZB rfl rfl rfl rfl, trivial⟩ (nx (tc 6 rfl rfl (fun hb5 => ?_) (fun hb5 => ?_)))))
 try simp at hb5
 refine Zd (nx (Za (Ze (Za (rgr tb hJ [0, 1, 2, 3, 4, 5, 1016] [_, _, .ptr [.lit (.string (ge (YE (ge d.frames i).proof) n))], _, _, _, _, .ptr (frC (ge d.frames k)), _, _, _, _, _, _, .bool (decide ((k : Int) ∈ out2)), _, _] [2, 7, 14] [(_, _), (_, _), (_, _), (_, _), (_, _), (_, _), (_, .bool ((decide ((ge (YE (ge d.frames i).proof) n) = ((ge d.frames k).label))) && (!(decide ((k : Int) ∈ out2)))))] rfl rfl rfl rfl ⟨hIx Zk (by first | omega | (simp; omega) | grind [Zb]) rfl rfl rfl rfl rfl rfl, hIx Ye (by first | omega | (simp; omega) | grind [Zb]) rfl rfl rfl rfl rfl rfl, fun _ _ hk hx hl hc => Qk (c_in hJ (xs := out2) (n := (k : Int)) ) Zf7 rfl (nm hS hk) (hx.1) (Zc (YM hS hx (mo 0 rfl) (hl.dep 12 71 _ rfl rfl rfl hc)) (Zc (hl.dep 13 72 _ rfl rfl rfl hc) Zm)) (jo hJ hx), trivial⟩ (nx (tc 6 rfl rfl (fun hb6 => ?_) (fun hb6 => ?_))))))))
 try simp at hb6
 refine Zn (sv tb rfl rfl rfl rfl (sv tb rfl rfl rfl rfl (sq (.rd (ZG ([(k : Int)]))) rfl rfl (lb rfl) (fun _ _ h => ZV Zo Xu rfl (h.get 0 rfl) (Zr hS _ h.keep h.x _ (Nat.le_refl _)) (jo hJ h.x)) (ZR (f := Yq) (m := 2) (s := 76) out2 ([(k : Int)]) (fun _ => rfl) YU hJ hJ0 rfl rfl rfl (lb rfl) rfl rfl (fun a w h => (h.get 0 rfl)) (by simp; omega) (by simp; omega) fun v3 => ?_))))
 refine sv tb rfl rfl rfl rfl (Zy ?_)
 refine kw (lz [0, 2, 5, 6, 7, 8, 9] (env' := [(_, _), (_, _), (_, _), (_, _), (_, _), (_, _), (_, _)]) rfl) ?_
 refine nx (Zf (fun a w h => Zj h 1 rfl) fun hl7 => rgo tb hJ [0, 2, 3, 4, 5, 1002] [_, .int ((n + 1 : Nat) : Int), _] [1] [(_, _), (_, _), (_, _), (_, _), (_, _), (_, .int ((n + 1 : Nat) : Int))] rfl rfl rfl rfl ⟨Yc (by first | omega | (simp; omega) | grind [Zb]) rfl rfl rfl rfl rfl, trivial⟩ ?_)
 intro a w h; change ∃ j, _ ∧ _
 exact ⟨(n + 1, v3, out2 ++ ([(k : Int)])), ⟨⟨(show (n + 1) ≤ (YE (ge d.frames i).proof).length from by omega), (show (out2 ++ ([(k : Int)])) = XW d (YE (ge d.frames i).proof) k (n + 1) from by rw [f3_2]; exact ZaO hb5 hb6.1 (f3_2 ▸ hb6.2)), (show (out2 ++ ([(k : Int)])).length ≤ k + 1 from by have e := ZaO hb5 hb6.1 (f3_2 ▸ hb6.2); rw [f3_2, e]; exact Zen _ _ _ _)⟩, lz [1, 2, 3, 4, 5, 0] rfl h⟩, (show (YE (ge d.frames i).proof).length - (n + 1) < (YE (ge d.frames i).proof).length - n from by first | omega | (simp; omega))⟩
 try simp at hb6
 refine Zd (nx (rgo tb hJ [0, 1, 2, 3, 5, 1002] [_, .int ((n + 1 : Nat) : Int), _] [1] [(_, _), (_, _), (_, _), (_, _), (_, _), (_, .int ((n + 1 : Nat) : Int))] rfl rfl rfl rfl ⟨Yc (by first | omega | (simp; omega) | grind [Zb]) rfl rfl rfl rfl rfl, trivial⟩ ?_))
 intro a w h; change ∃ j, _ ∧ _
 exact ⟨(n + 1, vp, out2), ⟨⟨(show (n + 1) ≤ (YE (ge d.frames i).proof).length from by omega), (show out2 = XW d (YE (ge d.frames i).proof) k (n + 1) from by rw [f3_2]; exact Zc6 hb5 (fun e => f3_2 ▸ hb6 e)), (show out2.length ≤ k + 1 from by omega)⟩, lz [0, 1, 2, 3, 5, 4] rfl h⟩, (show (YE (ge d.frames i).proof).length - (n + 1) < (YE (ge d.frames i).proof).length - n from by first | omega | (simp; omega))⟩
 try simp at hb5
 refine Zv (nx (rgo tb hJ [0, 1, 2, 5, 1002] [_, .int ((k + 1 : Nat) : Int), _] [1] [(_, _), (_, _), (_, _), (_, _), (_, .int ((k + 1 : Nat) : Int))] rfl rfl rfl rfl ⟨Yc (by first | omega | (simp; omega) | grind [Zb]) rfl rfl rfl rfl rfl, trivial⟩ ?_))
 intro a w h; change ∃ j, _ ∧ _
 exact ⟨(k + 1, vp, out2), ⟨⟨(show (k + 1) ≤ i from by omega), (show out2 = Qt d (YE (ge d.frames i).proof) (k + 1) from by rw [f3_2]; exact Zeo hb5), (show out2.length ≤ (k + 1) from by omega)⟩, lz [0, 1, 2, 4, 3] rfl h⟩, (show i - (k + 1) < i - k from by first | omega | (simp; omega))⟩
 try simp at hb4
 refine Zv (nx (Za (rgo tb hJ [1001] [_, _] [] [(_, .lit vo)] rfl rfl rfl rfl trivial (nx ?_))))
 refine tw (fun h => ZO hS h (m := 0) (s := 4) rfl) ?_
 refine Zi (fun a w h => Zh (m := 0) rfl (Zl h) rfl (congrArg (fun z => AV.rd (ZG z)) (show out = (ZN d i) from by grind [ZN])))
end Go.Proofs.YtnpgmdffjemnbaaGreatDoor
set_option maxHeartbeats 8000000
set_option maxRecDepth 100000
namespace Go.Proofs.YtnpgmdffjemnbaaGreatDoor
open Go.RowKit

theorem Zaj {J : World → Prop} (hJ : Stab J) (M1 : Nat) (M2 : Nat) (M3 : Nat) (M4 : Nat) (M5 : Nat) (cs : List ByteArray) (vs : List ByteArray) (s : ByteArray)  : FnR Tryz.prog J 87 [OB.set keyS M1 cs, OB.set keyS M2 vs] [.ptr [.lit (.map (some M1)), .lit (.map (some M2)), .lit (.map (some M3)), .lit (.map (some M4)), .lit (.map (some M5))], .str s] (.bool (decide (s ∈ cs) || decide (s ∈ vs))) := by
 refine Yp (N := 19) Tryz.func87 rfl rfl (lb rfl) fun S w0 hS hJ0 hH => ?_
 clear hJ0
 refine Za (rg tb hJ [0, 1] [_] [] [(_, _), (_, _)] rfl rfl rfl rfl trivial (nx (Za (rg tb hJ [1014] [_, _, _, _, _, .bool (decide (s ∈ cs)), _, _, _, _, _, _, .bool (decide (s ∈ vs)), _, _] [5, 12] [(_, .bool ((decide (s ∈ cs)) || (decide (s ∈ vs))))] rfl rfl rfl rfl ⟨fun _ _ hk hx hl _ => Yo (Kd := keyS) (xs := cs) ZU ZY s rfl (YP hH hk (mo 0 rfl)) (hl.dep 3 8 _ rfl rfl rfl rfl) (hl.dep 4 9 _ rfl rfl rfl rfl) hx, fun _ _ hk hx hl hc => Yo (Kd := keyS) (xs := vs) ZU ZY s rfl (YP hH hk (mo 1 rfl)) (hl.dep 10 15 _ rfl rfl rfl hc) (hl.dep 11 16 _ rfl rfl rfl hc) hx, trivial⟩ (nx (Zi (fun a w h => Zh (m := 0) rfl h rfl (congrArg AV.bool (show ((decide (s ∈ cs)) || (decide (s ∈ vs))) = (decide (s ∈ cs) || decide (s ∈ vs)) from by first | rfl | grind [Zb])))))))))
theorem Znu {J : World → Prop} (hJ : Stab J) (M1 : Nat) (M2 : Nat) (M3 : Nat) (M4 : Nat) (M5 : Nat) (cs : List ByteArray) (vs : List ByteArray) (s : ByteArray)  : FnR Tryz.prog J 123 [OB.set keyS M1 cs, OB.set keyS M2 vs] [.str s, .ptr [.ptr [.lit (.map (some M1)), .lit (.map (some M2)), .lit (.map (some M3)), .lit (.map (some M4)), .lit (.map (some M5))]]] (.bool (!(decide (s ∈ cs) || decide (s ∈ vs)))) := by
 refine Yp (N := 8) Tryz.func123 rfl rfl (lb rfl) fun S w0 hS hJ0 hH => ?_
 clear hJ0
 refine Za (rg tb hJ [0, 1] [_] [] [(_, _), (_, _)] rfl rfl rfl rfl trivial (nx (Za (rg tb hJ [1004] [_, _, .bool (decide (s ∈ cs) || decide (s ∈ vs)), _, _] [2] [(_, .bool (!(decide (s ∈ cs) || decide (s ∈ vs))))] rfl rfl rfl rfl ⟨fun _ _ hk hx hl _ => X1 (Zaj hJ (M1 := M1) (M2 := M2) (M3 := M3) (M4 := M4) (M5 := M5) (cs := cs) (vs := vs) (s := s) ) Zd5 rfl (nm hS hk) (hx) (Z0 (YP hH hk (mo 0 rfl)) (Z0 (YP hH hk (mo 1 rfl)) ZP)) (Zc (hl.dep 0 4 _ rfl rfl rfl rfl) (Zc (hl.dep 1 5 _ rfl rfl rfl rfl) Zm)) (js hJ hx), trivial⟩ (nx (Zi (fun a w h => Zh (m := 0) rfl h rfl rfl)))))))
theorem ZeJ {J : World → Prop} (hJ : Stab J) (xs : List ByteArray) (f : FuncId) (caps : List AV) (Os : List OB) (p : ByteArray → Bool) (hf : ∀ q', FnR Tryz.prog J f Os ([.str (q')] ++ caps) (.bool (p q'))) (hk0 : Zu Tryz.prog f) : FnR Tryz.prog J 129 Os [.rd (Zg xs), .fn f caps] (.int (YD p xs)) := by
 refine Yp (N := 19) Tryz.func129 rfl rfl (lb rfl) fun S w0 hS hJ0 hH => ?_
 clear hJ0
 refine Zf (fun a w h => Zj h 0 rfl) fun hl1 => Za (rg tb hJ [0, 1] [_] [] [(_, _), (_, _)] rfl rfl rfl rfl trivial (nx (Za (Za (rg tb hJ [0, 1, 1001, 1002] [_, _, _] [1] [(_, _), (_, _), (_, .int xs.length), (_, .int (0 : Int))] rfl rfl rfl rfl ⟨Ys ZB rfl rfl rfl rfl, trivial⟩ (nx (Ze (Zw (ι := Nat) (fun (k : Nat) a w => ((k ≤ xs.length) ∧ (∀ j, j < k → p (ge xs j) = false)) ∧ St All S w0 19 [(0, .rd (Zg xs)), (1, .fn f caps), (7, .int xs.length), (8, .int k)] J a w) (fun (k : Nat) => (xs.length - k : Nat)) ?_ ?_))))))))
 intro a w h
 exact ⟨0, (show (0 ≤ xs.length) ∧ (∀ j, j < 0 → p (ge xs j) = false) from ⟨Nat.zero_le _, fun j hj => by omega⟩), lz [0, 1, 2, 3] rfl h⟩
 rintro k
 refine ZD fun hF => ?_
 obtain ⟨f1_1, f1_2⟩ := hF
 refine Za (rg tb hJ [0, 1, 2, 3, 1000] [_] [] [(_, _), (_, _), (_, _), (_, _), (_, .bool (decide ((k : Int) < (xs.length : Int))))] rfl rfl rfl rfl trivial (nx (Za (tc 4 rfl rfl (fun hb1 => ?_) (fun hb1 => ?_)))))
 try simp at hb1
 refine Zd (nx (Za (Ze (Za (rg tb hJ [0, 1, 2, 3, 1001] [_, _] [] [(_, _), (_, _), (_, _), (_, _), (_, .int k)] rfl rfl rfl rfl trivial (nx (Za (rg tb hJ [0, 1, 2, 3, 4, 1005] [_, _, _, .ptr [.lit (.string (ge xs k))], _, _] [3, 5] [(_, _), (_, _), (_, _), (_, _), (_, _), (_, .bool (p (ge xs k)))] rfl rfl rfl rfl ⟨hIx Zk (by first | omega | (simp; omega) | grind [Zb]) rfl rfl rfl rfl rfl rfl, fun _ _ hk hx hl _ => ZaF (hf (ge xs k)) hk0 rfl (hl.dep 0 11 _ rfl rfl rfl rfl) (nm hS hk) (hx) (fun _ ho => YP hH hk ho) (Zc (hl.dep 4 15 _ rfl rfl rfl rfl) Zm) (js hJ hx), trivial⟩ (nx (tc 5 rfl rfl (fun hb2 => ?_) (fun hb2 => ?_)))))))))))
 try simp at hb2
 refine Za (rg tb hJ [1001] [_, _] [] [(_, .int k)] rfl rfl rfl rfl trivial (nx (Zi (fun a w h => Zh (m := 0) rfl h rfl (congrArg AV.int (show (k : Int) = (YD p xs) from by first | exact (Y1 hb1 hb2 f1_2).symm | exact (YJ fun j hj => f1_2 j (by omega)).symm))))))
 try simp at hb2
 refine Zd (nx (rg tb hJ [0, 1, 2, 1001] [.int ((k + 1 : Nat) : Int), _] [0] [(_, _), (_, _), (_, _), (_, .int ((k + 1 : Nat) : Int))] rfl rfl rfl rfl ⟨Yc (by first | omega | (simp; omega) | grind [Zb]) rfl rfl rfl rfl rfl, trivial⟩ ?_))
 intro a w h; change ∃ j, _ ∧ _
 exact ⟨k + 1, ⟨⟨(show (k + 1) ≤ xs.length from by omega), (show ∀ j, j < (k + 1) → p (ge xs j) = false from ZW f1_2 hb2)⟩, lz [0, 1, 2, 3] rfl h⟩, (show xs.length - (k + 1) < xs.length - k from by first | omega | (simp; omega))⟩
 try simp at hb1
 refine Zv (nx (Za (rg tb hJ [1000] [_] [] [(_, .int (-1 : Int))] rfl rfl rfl rfl trivial (nx (Zi (fun a w h => Zh (m := 0) rfl h rfl (congrArg AV.int (show (-1 : Int) = (YD p xs) from by first | exact (Y1 hb1 hb2 f1_2).symm | exact (YJ fun j hj => f1_2 j (by omega)).symm))))))))
end Go.Proofs.YtnpgmdffjemnbaaGreatDoor
set_option maxHeartbeats 8000000
set_option maxRecDepth 100000
namespace Go.Proofs.YtnpgmdffjemnbaaGreatDoor
open Go.RowKit

theorem XB {J : World → Prop} (hJ : Stab J) (xs : List ByteArray) (f : FuncId) (caps : List AV) (Os : List OB) (p : ByteArray → Bool) (hf : ∀ q', FnR Tryz.prog J f Os ([.str (q')] ++ caps) (.bool (p q'))) (hk0 : Zu Tryz.prog f) : FnR Tryz.prog J 93 Os [.rd (Zg xs), .fn f caps] (.bool (xs.any p)) := by
 refine Yp (N := 9) Tryz.func93 rfl rfl (lb rfl) fun S w0 hS hJ0 hH => ?_
 clear hJ0
 refine Zf (fun a w h => Zj h 0 rfl) fun hl1 => Za (rg tb hJ [0, 1] [_] [] [(_, _), (_, _)] rfl rfl rfl rfl trivial (nx (Za (rg tb hJ [1004] [_, _, .int (YD p xs), _, _] [2] [(_, .bool (decide ((0 : Int) ≤ YD p xs)))] rfl rfl rfl rfl ⟨fun _ _ hk hx hl _ => X1 (ZeJ hJ (xs := xs) (f := f) (caps := caps) (Os := Os) (p := p) (hf) (hk0)) Zl7 rfl (nm hS hk) (hx) (fun _ ho => YP hH hk ho) (Zc (hl.dep 0 5 _ rfl rfl rfl rfl) (Zc (hl.dep 1 6 _ rfl rfl rfl rfl) Zm)) (js hJ hx), trivial⟩ (nx (Zi (fun a w h => Zh (m := 0) rfl h rfl (congrArg AV.bool (show (decide ((0 : Int) ≤ YD p xs)) = (xs.any p) from by rw [← ZaZ])))))))))
theorem ZbD {J : World → Prop} (hJ : Stab J) (xs : List Hy) (f : FuncId) (caps : List AV) (Os : List OB) (p : Hy → Bool) (hf : ∀ q', FnR Tryz.prog J f Os ([.agg (hyC (q'))] ++ caps) (.bool (p q'))) (hk0 : Zu Tryz.prog f) : FnR Tryz.prog J 131 Os [.rd (Z4 xs), .fn f caps] (.int (YD p xs)) := by
 refine Yp (N := 19) Tryz.func131 rfl rfl (lb rfl) fun S w0 hS hJ0 hH => ?_
 clear hJ0
 refine Zf (fun a w h => Zj h 0 rfl) fun hl1 => Za (rg tb hJ [0, 1] [_] [] [(_, _), (_, _)] rfl rfl rfl rfl trivial (nx (Za (Za (rg tb hJ [0, 1, 1001, 1002] [_, _, _] [1] [(_, _), (_, _), (_, .int xs.length), (_, .int (0 : Int))] rfl rfl rfl rfl ⟨Ys ZC rfl rfl rfl rfl, trivial⟩ (nx (Ze (Zw (ι := Nat) (fun (k : Nat) a w => ((k ≤ xs.length) ∧ (∀ j, j < k → p (ge xs j) = false)) ∧ St All S w0 19 [(0, .rd (Z4 xs)), (1, .fn f caps), (7, .int xs.length), (8, .int k)] J a w) (fun (k : Nat) => (xs.length - k : Nat)) ?_ ?_))))))))
 intro a w h
 exact ⟨0, (show (0 ≤ xs.length) ∧ (∀ j, j < 0 → p (ge xs j) = false) from ⟨Nat.zero_le _, fun j hj => by omega⟩), lz [0, 1, 2, 3] rfl h⟩
 rintro k
 refine ZD fun hF => ?_
 obtain ⟨f1_1, f1_2⟩ := hF
 refine Za (rg tb hJ [0, 1, 2, 3, 1000] [_] [] [(_, _), (_, _), (_, _), (_, _), (_, .bool (decide ((k : Int) < (xs.length : Int))))] rfl rfl rfl rfl trivial (nx (Za (tc 4 rfl rfl (fun hb1 => ?_) (fun hb1 => ?_)))))
 try simp at hb1
 refine Zd (nx (Za (Ze (Za (rg tb hJ [0, 1, 2, 3, 1001] [_, _] [] [(_, _), (_, _), (_, _), (_, _), (_, .int k)] rfl rfl rfl rfl trivial (nx (Za (rg tb hJ [0, 1, 2, 3, 4, 1005] [_, _, _, .ptr (hyC (ge xs k)), _, _] [3, 5] [(_, _), (_, _), (_, _), (_, _), (_, _), (_, .bool (p (ge xs k)))] rfl rfl rfl rfl ⟨hIx Zt (by first | omega | (simp; omega) | grind [Zb]) rfl rfl rfl rfl rfl rfl, fun _ _ hk hx hl _ => ZaF (hf (ge xs k)) hk0 rfl (hl.dep 0 11 _ rfl rfl rfl rfl) (nm hS hk) (hx) (fun _ ho => YP hH hk ho) (Zc (hl.dep 4 15 _ rfl rfl rfl rfl) Zm) (js hJ hx), trivial⟩ (nx (tc 5 rfl rfl (fun hb2 => ?_) (fun hb2 => ?_)))))))))))
 try simp at hb2
 refine Za (rg tb hJ [1001] [_, _] [] [(_, .int k)] rfl rfl rfl rfl trivial (nx (Zi (fun a w h => Zh (m := 0) rfl h rfl (congrArg AV.int (show (k : Int) = (YD p xs) from by first | exact (Y1 hb1 hb2 f1_2).symm | exact (YJ fun j hj => f1_2 j (by omega)).symm))))))
 try simp at hb2
 refine Zd (nx (rg tb hJ [0, 1, 2, 1001] [.int ((k + 1 : Nat) : Int), _] [0] [(_, _), (_, _), (_, _), (_, .int ((k + 1 : Nat) : Int))] rfl rfl rfl rfl ⟨Yc (by first | omega | (simp; omega) | grind [Zb]) rfl rfl rfl rfl rfl, trivial⟩ ?_))
 intro a w h; change ∃ j, _ ∧ _
 exact ⟨k + 1, ⟨⟨(show (k + 1) ≤ xs.length from by omega), (show ∀ j, j < (k + 1) → p (ge xs j) = false from ZW f1_2 hb2)⟩, lz [0, 1, 2, 3] rfl h⟩, (show xs.length - (k + 1) < xs.length - k from by first | omega | (simp; omega))⟩
 try simp at hb1
 refine Zv (nx (Za (rg tb hJ [1000] [_] [] [(_, .int (-1 : Int))] rfl rfl rfl rfl trivial (nx (Zi (fun a w h => Zh (m := 0) rfl h rfl (congrArg AV.int (show (-1 : Int) = (YD p xs) from by first | exact (Y1 hb1 hb2 f1_2).symm | exact (YJ fun j hj => f1_2 j (by omega)).symm))))))))
theorem Zck {J : World → Prop} (hJ : Stab J) (xs : List Hy) (f : FuncId) (caps : List AV) (Os : List OB) (p : Hy → Bool) (hf : ∀ q', FnR Tryz.prog J f Os ([.agg (hyC (q'))] ++ caps) (.bool (p q'))) (hk0 : Zu Tryz.prog f) : FnR Tryz.prog J 97 Os [.rd (Z4 xs), .fn f caps] (.bool (xs.any p)) := by
 refine Yp (N := 9) Tryz.func97 rfl rfl (lb rfl) fun S w0 hS hJ0 hH => ?_
 clear hJ0
 refine Zf (fun a w h => Zj h 0 rfl) fun hl1 => Za (rg tb hJ [0, 1] [_] [] [(_, _), (_, _)] rfl rfl rfl rfl trivial (nx (Za (rg tb hJ [1004] [_, _, .int (YD p xs), _, _] [2] [(_, .bool (decide ((0 : Int) ≤ YD p xs)))] rfl rfl rfl rfl ⟨fun _ _ hk hx hl _ => X1 (ZbD hJ (xs := xs) (f := f) (caps := caps) (Os := Os) (p := p) (hf) (hk0)) Zhh rfl (nm hS hk) (hx) (fun _ ho => YP hH hk ho) (Zc (hl.dep 0 5 _ rfl rfl rfl rfl) (Zc (hl.dep 1 6 _ rfl rfl rfl rfl) Zm)) (js hJ hx), trivial⟩ (nx (Zi (fun a w h => Zh (m := 0) rfl h rfl (congrArg AV.bool (show (decide ((0 : Int) ≤ YD p xs)) = (xs.any p) from by rw [← ZaZ])))))))))
theorem ZeK {J : World → Prop} (hJ : Stab J) (xs : List Pr) (f : FuncId) (caps : List AV) (Os : List OB) (p : Pr → Bool) (hf : ∀ q', FnR Tryz.prog J f Os ([.agg (prC (q'))] ++ caps) (.bool (p q'))) (hk0 : Zu Tryz.prog f) : FnR Tryz.prog J 174 Os [.rd (YG xs), .fn f caps] (.int (YD p xs)) := by
 refine Yp (N := 19) Tryz.func174 rfl rfl (lb rfl) fun S w0 hS hJ0 hH => ?_
 clear hJ0
 refine Zf (fun a w h => Zj h 0 rfl) fun hl1 => Za (rg tb hJ [0, 1] [_] [] [(_, _), (_, _)] rfl rfl rfl rfl trivial (nx (Za (Za (rg tb hJ [0, 1, 1001, 1002] [_, _, _] [1] [(_, _), (_, _), (_, .int xs.length), (_, .int (0 : Int))] rfl rfl rfl rfl ⟨Ys Z1 rfl rfl rfl rfl, trivial⟩ (nx (Ze (Zw (ι := Nat) (fun (k : Nat) a w => ((k ≤ xs.length) ∧ (∀ j, j < k → p (ge xs j) = false)) ∧ St All S w0 19 [(0, .rd (YG xs)), (1, .fn f caps), (7, .int xs.length), (8, .int k)] J a w) (fun (k : Nat) => (xs.length - k : Nat)) ?_ ?_))))))))
 intro a w h
 exact ⟨0, (show (0 ≤ xs.length) ∧ (∀ j, j < 0 → p (ge xs j) = false) from ⟨Nat.zero_le _, fun j hj => by omega⟩), lz [0, 1, 2, 3] rfl h⟩
 rintro k
 refine ZD fun hF => ?_
 obtain ⟨f1_1, f1_2⟩ := hF
 refine Za (rg tb hJ [0, 1, 2, 3, 1000] [_] [] [(_, _), (_, _), (_, _), (_, _), (_, .bool (decide ((k : Int) < (xs.length : Int))))] rfl rfl rfl rfl trivial (nx (Za (tc 4 rfl rfl (fun hb1 => ?_) (fun hb1 => ?_)))))
 try simp at hb1
 refine Zd (nx (Za (Ze (Za (rg tb hJ [0, 1, 2, 3, 1001] [_, _] [] [(_, _), (_, _), (_, _), (_, _), (_, .int k)] rfl rfl rfl rfl trivial (nx (Za (rg tb hJ [0, 1, 2, 3, 4, 1005] [_, _, _, .ptr (prC (ge xs k)), _, _] [3, 5] [(_, _), (_, _), (_, _), (_, _), (_, _), (_, .bool (p (ge xs k)))] rfl rfl rfl rfl ⟨hIx ZH (by first | omega | (simp; omega) | grind [Zb]) rfl rfl rfl rfl rfl rfl, fun _ _ hk hx hl _ => ZaF (hf (ge xs k)) hk0 rfl (hl.dep 0 11 _ rfl rfl rfl rfl) (nm hS hk) (hx) (fun _ ho => YP hH hk ho) (Zc (hl.dep 4 15 _ rfl rfl rfl rfl) Zm) (js hJ hx), trivial⟩ (nx (tc 5 rfl rfl (fun hb2 => ?_) (fun hb2 => ?_)))))))))))
 try simp at hb2
 refine Za (rg tb hJ [1001] [_, _] [] [(_, .int k)] rfl rfl rfl rfl trivial (nx (Zi (fun a w h => Zh (m := 0) rfl h rfl (congrArg AV.int (show (k : Int) = (YD p xs) from by first | exact (Y1 hb1 hb2 f1_2).symm | exact (YJ fun j hj => f1_2 j (by omega)).symm))))))
 try simp at hb2
 refine Zd (nx (rg tb hJ [0, 1, 2, 1001] [.int ((k + 1 : Nat) : Int), _] [0] [(_, _), (_, _), (_, _), (_, .int ((k + 1 : Nat) : Int))] rfl rfl rfl rfl ⟨Yc (by first | omega | (simp; omega) | grind [Zb]) rfl rfl rfl rfl rfl, trivial⟩ ?_))
 intro a w h; change ∃ j, _ ∧ _
 exact ⟨k + 1, ⟨⟨(show (k + 1) ≤ xs.length from by omega), (show ∀ j, j < (k + 1) → p (ge xs j) = false from ZW f1_2 hb2)⟩, lz [0, 1, 2, 3] rfl h⟩, (show xs.length - (k + 1) < xs.length - k from by first | omega | (simp; omega))⟩
 try simp at hb1
 refine Zv (nx (Za (rg tb hJ [1000] [_] [] [(_, .int (-1 : Int))] rfl rfl rfl rfl trivial (nx (Zi (fun a w h => Zh (m := 0) rfl h rfl (congrArg AV.int (show (-1 : Int) = (YD p xs) from by first | exact (Y1 hb1 hb2 f1_2).symm | exact (YJ fun j hj => f1_2 j (by omega)).symm))))))))
theorem ZeL {J : World → Prop} (hJ : Stab J) (xs : List Fr) (f : FuncId) (caps : List AV) (Os : List OB) (p : Fr → Bool) (hf : ∀ q', FnR Tryz.prog J f Os ([.agg (frC (q'))] ++ caps) (.bool (p q'))) (hk0 : Zu Tryz.prog f) : FnR Tryz.prog J 69 Os [.rd (Yn xs), .fn f caps] (.int (YD p xs)) := by
 refine Yp (N := 19) Tryz.func69 rfl rfl (lb rfl) fun S w0 hS hJ0 hH => ?_
 clear hJ0
 refine Zf (fun a w h => Zj h 0 rfl) fun hl1 => Za (rg tb hJ [0, 1] [_] [] [(_, _), (_, _)] rfl rfl rfl rfl trivial (nx (Za (Za (rg tb hJ [0, 1, 1001, 1002] [_, _, _] [1] [(_, _), (_, _), (_, .int xs.length), (_, .int (0 : Int))] rfl rfl rfl rfl ⟨Ys YH rfl rfl rfl rfl, trivial⟩ (nx (Ze (Zw (ι := Nat) (fun (k : Nat) a w => ((k ≤ xs.length) ∧ (∀ j, j < k → p (ge xs j) = false)) ∧ St All S w0 19 [(0, .rd (Yn xs)), (1, .fn f caps), (7, .int xs.length), (8, .int k)] J a w) (fun (k : Nat) => (xs.length - k : Nat)) ?_ ?_))))))))
 intro a w h
 exact ⟨0, (show (0 ≤ xs.length) ∧ (∀ j, j < 0 → p (ge xs j) = false) from ⟨Nat.zero_le _, fun j hj => by omega⟩), lz [0, 1, 2, 3] rfl h⟩
 rintro k
 refine ZD fun hF => ?_
 obtain ⟨f1_1, f1_2⟩ := hF
 refine Za (rg tb hJ [0, 1, 2, 3, 1000] [_] [] [(_, _), (_, _), (_, _), (_, _), (_, .bool (decide ((k : Int) < (xs.length : Int))))] rfl rfl rfl rfl trivial (nx (Za (tc 4 rfl rfl (fun hb1 => ?_) (fun hb1 => ?_)))))
 try simp at hb1
 refine Zd (nx (Za (Ze (Za (rg tb hJ [0, 1, 2, 3, 1001] [_, _] [] [(_, _), (_, _), (_, _), (_, _), (_, .int k)] rfl rfl rfl rfl trivial (nx (Za (rg tb hJ [0, 1, 2, 3, 4, 1005] [_, _, _, .ptr (frC (ge xs k)), _, _] [3, 5] [(_, _), (_, _), (_, _), (_, _), (_, _), (_, .bool (p (ge xs k)))] rfl rfl rfl rfl ⟨hIx Ye (by first | omega | (simp; omega) | grind [Zb]) rfl rfl rfl rfl rfl rfl, fun _ _ hk hx hl _ => ZaF (hf (ge xs k)) hk0 rfl (hl.dep 0 11 _ rfl rfl rfl rfl) (nm hS hk) (hx) (fun _ ho => YP hH hk ho) (Zc (hl.dep 4 15 _ rfl rfl rfl rfl) Zm) (js hJ hx), trivial⟩ (nx (tc 5 rfl rfl (fun hb2 => ?_) (fun hb2 => ?_)))))))))))
 try simp at hb2
 refine Za (rg tb hJ [1001] [_, _] [] [(_, .int k)] rfl rfl rfl rfl trivial (nx (Zi (fun a w h => Zh (m := 0) rfl h rfl (congrArg AV.int (show (k : Int) = (YD p xs) from by first | exact (Y1 hb1 hb2 f1_2).symm | exact (YJ fun j hj => f1_2 j (by omega)).symm))))))
 try simp at hb2
 refine Zd (nx (rg tb hJ [0, 1, 2, 1001] [.int ((k + 1 : Nat) : Int), _] [0] [(_, _), (_, _), (_, _), (_, .int ((k + 1 : Nat) : Int))] rfl rfl rfl rfl ⟨Yc (by first | omega | (simp; omega) | grind [Zb]) rfl rfl rfl rfl rfl, trivial⟩ ?_))
 intro a w h; change ∃ j, _ ∧ _
 exact ⟨k + 1, ⟨⟨(show (k + 1) ≤ xs.length from by omega), (show ∀ j, j < (k + 1) → p (ge xs j) = false from ZW f1_2 hb2)⟩, lz [0, 1, 2, 3] rfl h⟩, (show xs.length - (k + 1) < xs.length - k from by first | omega | (simp; omega))⟩
 try simp at hb1
 refine Zv (nx (Za (rg tb hJ [1000] [_] [] [(_, .int (-1 : Int))] rfl rfl rfl rfl trivial (nx (Zi (fun a w h => Zh (m := 0) rfl h rfl (congrArg AV.int (show (-1 : Int) = (YD p xs) from by first | exact (Y1 hb1 hb2 f1_2).symm | exact (YJ fun j hj => f1_2 j (by omega)).symm))))))))
theorem Zcl {J : World → Prop} (hJ : Stab J) (xs : List Fr) (f : FuncId) (caps : List AV) (Os : List OB) (p : Fr → Bool) (hf : ∀ q', FnR Tryz.prog J f Os ([.agg (frC (q'))] ++ caps) (.bool (p q'))) (hk0 : Zu Tryz.prog f) : FnR Tryz.prog J 40 Os [.rd (Yn xs), .fn f caps] (.bool (xs.any p)) := by
 refine Yp (N := 9) Tryz.func40 rfl rfl (lb rfl) fun S w0 hS hJ0 hH => ?_
 clear hJ0
 refine Zf (fun a w h => Zj h 0 rfl) fun hl1 => Za (rg tb hJ [0, 1] [_] [] [(_, _), (_, _)] rfl rfl rfl rfl trivial (nx (Za (rg tb hJ [1004] [_, _, .int (YD p xs), _, _] [2] [(_, .bool (decide ((0 : Int) ≤ YD p xs)))] rfl rfl rfl rfl ⟨fun _ _ hk hx hl _ => X1 (ZeL hJ (xs := xs) (f := f) (caps := caps) (Os := Os) (p := p) (hf) (hk0)) Zoh rfl (nm hS hk) (hx) (fun _ ho => YP hH hk ho) (Zc (hl.dep 0 5 _ rfl rfl rfl rfl) (Zc (hl.dep 1 6 _ rfl rfl rfl rfl) Zm)) (js hJ hx), trivial⟩ (nx (Zi (fun a w h => Zh (m := 0) rfl h rfl (congrArg AV.bool (show (decide ((0 : Int) ≤ YD p xs)) = (xs.any p) from by rw [← ZaZ])))))))))
theorem Zk2 {J : World → Prop} (hJ : Stab J) (xs : List ByteArray) (ys : List ByteArray)  : Fn Tryz.prog J 154 [.rd (Zg xs), .rd (Zg ys)] (.bool (decide (xs = ys))) := by
 refine Zx (N := 26) Tryz.func154 rfl rfl (lb rfl) fun S w0 hS hJ0 => ?_
 clear hJ0
 refine Zf (fun a w h => Zj h 0 rfl) fun hl1 => Zf (fun a w h => Zj h 1 rfl) fun hl2 => Za (rg tb hJ [0, 1] [_] [] [(_, _), (_, _)] rfl rfl rfl rfl trivial (nx (Za (Za (rg tb hJ [0, 1, 1004] [_, .int xs.length, _, .int ys.length, _] [1, 3] [(_, _), (_, _), (_, .bool (!decide ((xs.length : Int) = (ys.length : Int))))] rfl rfl rfl rfl ⟨Ys ZB rfl rfl rfl rfl, Ys ZB rfl rfl rfl rfl, trivial⟩ (nx (tc 2 rfl rfl (fun hb1 => ?_) (fun hb1 => ?_))))))))
 try simp at hb1
 refine Za (rg tb hJ [1000] [_] [] [(_, .bool false)] rfl rfl rfl rfl trivial (nx (Zi (fun a w h => Zh (m := 0) rfl h rfl (congrArg AV.bool (show false = (decide (xs = ys)) from by first | (have := X4 (xs := xs) (ys := ys) (by omega) (fun j hj => f1_2 j (by omega)); simp [this]; done) | (symm; rw [decide_eq_false_iff_not]; intro e; subst e; simp_all; done)))))))
 try simp at hb1
 refine Zd (nx (Za (Za (rg tb hJ [0, 1, 1001, 1002] [_, _, _] [1] [(_, _), (_, _), (_, .int xs.length), (_, .int (0 : Int))] rfl rfl rfl rfl ⟨Ys ZB rfl rfl rfl rfl, trivial⟩ (nx (Ze (Zw (ι := Nat) (fun (k : Nat) a w => ((k ≤ xs.length) ∧ (∀ j, j < k → ge xs j = ge ys j)) ∧ St All S w0 26 [(0, .rd (Zg xs)), (1, .rd (Zg ys)), (12, .int xs.length), (13, .int k)] J a w) (fun (k : Nat) => (xs.length - k : Nat)) ?_ ?_)))))))
 intro a w h
 exact ⟨0, (show (0 ≤ xs.length) ∧ (∀ j, j < 0 → ge xs j = ge ys j) from ⟨Nat.zero_le _, fun j hj => by omega⟩), lz [0, 1, 2, 3] rfl h⟩
 rintro k
 refine ZD fun hF => ?_
 obtain ⟨f1_1, f1_2⟩ := hF
 refine Za (rg tb hJ [0, 1, 2, 3, 1000] [_] [] [(_, _), (_, _), (_, _), (_, _), (_, .bool (decide ((k : Int) < (xs.length : Int))))] rfl rfl rfl rfl trivial (nx (Za (tc 4 rfl rfl (fun hb2 => ?_) (fun hb2 => ?_)))))
 try simp at hb2
 refine Zd (nx (Za (Ze (Za (rg tb hJ [0, 1, 2, 3, 1001] [_, _] [] [(_, _), (_, _), (_, _), (_, _), (_, .int k)] rfl rfl rfl rfl trivial (nx (Za (rg tb hJ [0, 1, 2, 3, 1008] [_, _, .ptr [.lit (.string (ge xs k))], _, _, _, .ptr [.lit (.string (ge ys k))], _, _] [2, 6] [(_, _), (_, _), (_, _), (_, _), (_, .bool (!decide ((ge xs k) = (ge ys k))))] rfl rfl rfl rfl ⟨hIx Zk (by first | omega | (simp; omega) | grind [Zb]) rfl rfl rfl rfl rfl rfl, hIx Zk (by first | omega | (simp; omega) | grind [Zb]) rfl rfl rfl rfl rfl rfl, trivial⟩ (nx (tc 4 rfl rfl (fun hb3 => ?_) (fun hb3 => ?_)))))))))))
 try simp at hb3
 refine Za (rg tb hJ [1000] [_] [] [(_, .bool false)] rfl rfl rfl rfl trivial (nx (Zi (fun a w h => Zh (m := 0) rfl h rfl (congrArg AV.bool (show false = (decide (xs = ys)) from by first | (have := X4 (xs := xs) (ys := ys) (by omega) (fun j hj => f1_2 j (by omega)); simp [this]; done) | (symm; rw [decide_eq_false_iff_not]; intro e; subst e; simp_all; done)))))))
 try simp at hb3
 refine Zd (nx (rg tb hJ [0, 1, 2, 1001] [.int ((k + 1 : Nat) : Int), _] [0] [(_, _), (_, _), (_, _), (_, .int ((k + 1 : Nat) : Int))] rfl rfl rfl rfl ⟨Yc (by first | omega | (simp; omega) | grind [Zb]) rfl rfl rfl rfl rfl, trivial⟩ ?_))
 intro a w h; change ∃ j, _ ∧ _
 exact ⟨k + 1, ⟨⟨(show (k + 1) ≤ xs.length from by omega), (show ∀ j, j < (k + 1) → ge xs j = ge ys j from ZW f1_2 hb3)⟩, lz [0, 1, 2, 3] rfl h⟩, (show xs.length - (k + 1) < xs.length - k from by first | omega | (simp; omega))⟩
 try simp at hb2
 refine Zv (nx (Za (rg tb hJ [1000] [_] [] [(_, .bool true)] rfl rfl rfl rfl trivial (nx (Zi (fun a w h => Zh (m := 0) rfl h rfl (congrArg AV.bool (show true = (decide (xs = ys)) from by first | (have := X4 (xs := xs) (ys := ys) (by omega) (fun j hj => f1_2 j (by omega)); simp [this]; done) | (symm; rw [decide_eq_false_iff_not]; intro e; subst e; simp_all; done)))))))))
theorem ZaW {J : World → Prop} (hJ : Stab J) (xs : List Int) (ys : List Int)  : Fn Tryz.prog J 14 [.rd (ZG xs), .rd (ZG ys)] (.bool (decide (xs = ys))) := by
 refine Zx (N := 26) Tryz.func14 rfl rfl (lb rfl) fun S w0 hS hJ0 => ?_
 clear hJ0
 refine Zf (fun a w h => Zj h 0 rfl) fun hl1 => Zf (fun a w h => Zj h 1 rfl) fun hl2 => Za (rg tb hJ [0, 1] [_] [] [(_, _), (_, _)] rfl rfl rfl rfl trivial (nx (Za (Za (rg tb hJ [0, 1, 1004] [_, .int xs.length, _, .int ys.length, _] [1, 3] [(_, _), (_, _), (_, .bool (!decide ((xs.length : Int) = (ys.length : Int))))] rfl rfl rfl rfl ⟨Ys Yx rfl rfl rfl rfl, Ys Yx rfl rfl rfl rfl, trivial⟩ (nx (tc 2 rfl rfl (fun hb1 => ?_) (fun hb1 => ?_))))))))
 try simp at hb1
 refine Za (rg tb hJ [1000] [_] [] [(_, .bool false)] rfl rfl rfl rfl trivial (nx (Zi (fun a w h => Zh (m := 0) rfl h rfl (congrArg AV.bool (show false = (decide (xs = ys)) from by first | (have := X4 (xs := xs) (ys := ys) (by omega) (fun j hj => f1_2 j (by omega)); simp [this]; done) | (symm; rw [decide_eq_false_iff_not]; intro e; subst e; simp_all; done)))))))
 try simp at hb1
 refine Zd (nx (Za (Za (rg tb hJ [0, 1, 1001, 1002] [_, _, _] [1] [(_, _), (_, _), (_, .int xs.length), (_, .int (0 : Int))] rfl rfl rfl rfl ⟨Ys Yx rfl rfl rfl rfl, trivial⟩ (nx (Ze (Zw (ι := Nat) (fun (k : Nat) a w => ((k ≤ xs.length) ∧ (∀ j, j < k → ge xs j = ge ys j)) ∧ St All S w0 26 [(0, .rd (ZG xs)), (1, .rd (ZG ys)), (12, .int xs.length), (13, .int k)] J a w) (fun (k : Nat) => (xs.length - k : Nat)) ?_ ?_)))))))
 intro a w h
 exact ⟨0, (show (0 ≤ xs.length) ∧ (∀ j, j < 0 → ge xs j = ge ys j) from ⟨Nat.zero_le _, fun j hj => by omega⟩), lz [0, 1, 2, 3] rfl h⟩
 rintro k
 refine ZD fun hF => ?_
 obtain ⟨f1_1, f1_2⟩ := hF
 refine Za (rg tb hJ [0, 1, 2, 3, 1000] [_] [] [(_, _), (_, _), (_, _), (_, _), (_, .bool (decide ((k : Int) < (xs.length : Int))))] rfl rfl rfl rfl trivial (nx (Za (tc 4 rfl rfl (fun hb2 => ?_) (fun hb2 => ?_)))))
 try simp at hb2
 refine Zd (nx (Za (Ze (Za (rg tb hJ [0, 1, 2, 3, 1001] [_, _] [] [(_, _), (_, _), (_, _), (_, _), (_, .int k)] rfl rfl rfl rfl trivial (nx (Za (rg tb hJ [0, 1, 2, 3, 1008] [_, _, .ptr [.lit (.int .i64 (ge xs k))], _, _, _, .ptr [.lit (.int .i64 (ge ys k))], _, _] [2, 6] [(_, _), (_, _), (_, _), (_, _), (_, .bool (!decide ((ge xs k) = (ge ys k))))] rfl rfl rfl rfl ⟨hIx Zo (by first | omega | (simp; omega) | grind [Zb]) rfl rfl rfl rfl rfl rfl, hIx Zo (by first | omega | (simp; omega) | grind [Zb]) rfl rfl rfl rfl rfl rfl, trivial⟩ (nx (tc 4 rfl rfl (fun hb3 => ?_) (fun hb3 => ?_)))))))))))
 try simp at hb3
 refine Za (rg tb hJ [1000] [_] [] [(_, .bool false)] rfl rfl rfl rfl trivial (nx (Zi (fun a w h => Zh (m := 0) rfl h rfl (congrArg AV.bool (show false = (decide (xs = ys)) from by first | (have := X4 (xs := xs) (ys := ys) (by omega) (fun j hj => f1_2 j (by omega)); simp [this]; done) | (symm; rw [decide_eq_false_iff_not]; intro e; subst e; simp_all; done)))))))
 try simp at hb3
 refine Zd (nx (rg tb hJ [0, 1, 2, 1001] [.int ((k + 1 : Nat) : Int), _] [0] [(_, _), (_, _), (_, _), (_, .int ((k + 1 : Nat) : Int))] rfl rfl rfl rfl ⟨Yc (by first | omega | (simp; omega) | grind [Zb]) rfl rfl rfl rfl rfl, trivial⟩ ?_))
 intro a w h; change ∃ j, _ ∧ _
 exact ⟨k + 1, ⟨⟨(show (k + 1) ≤ xs.length from by omega), (show ∀ j, j < (k + 1) → ge xs j = ge ys j from ZW f1_2 hb3)⟩, lz [0, 1, 2, 3] rfl h⟩, (show xs.length - (k + 1) < xs.length - k from by first | omega | (simp; omega))⟩
 try simp at hb2
 refine Zv (nx (Za (rg tb hJ [1000] [_] [] [(_, .bool true)] rfl rfl rfl rfl trivial (nx (Zi (fun a w h => Zh (m := 0) rfl h rfl (congrArg AV.bool (show true = (decide (xs = ys)) from by first | (have := X4 (xs := xs) (ys := ys) (by omega) (fun j hj => f1_2 j (by omega)); simp [this]; done) | (symm; rw [decide_eq_false_iff_not]; intro e; subst e; simp_all; done)))))))))
theorem Zk5 {J : World → Prop} (hJ : Stab J) (xs : List ByteArray) (b : xs.length * 16 ≤ 140737488351232) : FnM (ι := Value) Tryz.prog J 132 [] [.rd (Zg xs)] [] (fun i' => .lit (i')) (fun i' => [OB.row i' 9 1 (xs.map Qz)]) := by
 refine YK (N := 8) Tryz.func132 rfl rfl (lb rfl) fun S w0 R hS hJ0 hH => ?_
 refine XA (B := St All (SO S (R)) w0 8 [(0, .rd (Zg xs))] (XO J S w0.heap.size (R))) ?_ fun a w h => h
 refine Zf (fun a w h => Zj h 0 rfl) fun hl1 => Za (rgo tb hJ [0] [_] [] [(_, _)] rfl rfl rfl rfl trivial (nx (Za (Za (Zn (sv tb rfl rfl rfl rfl (ZbQ (f := Qz) (xs := xs) ZB rfl rfl rfl (lb rfl) (fun a w h => (h.get 0 rfl)) fun g1 hg1 => ?_)))))))
 refine Zy ?_
 refine kw (lz [0, 2] (env' := [(_, _), (_, _)]) rfl) ?_
 refine nx (tc 0 rfl rfl (fun hb1 => ?_) (fun hb1 => ?_))
 try simp at hb1
 refine Za (rgo tb hJ [1000] [_] [] [(_, .lit (.slice none 0 0))] rfl rfl rfl rfl trivial (nx ?_))
 refine tw (YI 9 1 hJ) ?_
 refine tw (ob0 (congrArg (fun z' => OB.row (.slice none 0 0) 9 1 ((z').map Qz)) (show ([] : List ByteArray) = xs from by first | exact (hg1 (by assumption)).symm | simp))) ?_
 refine Zi (fun a w h => Yh  (m := 0) (.slice none 0 0) rfl h rfl rfl)
 try simp at hb1
 refine Zd (nx (Za ?_))
 refine fun a w h => Qp (id := 3) (t := 22) (e := 9) (size := 1) (bytes := 16) (i0 := 0) (fol := 3) (d := 2) (ch := [(2, (xs.map Qz))]) (fun ix' => ([.any, .rd (Zg xs), .any, .any] : List AV).getD ix' .any) (fun ix' => ([true, true, true, true] : List Bool).getD ix' true) [] (xs.map Qz) (by simp) ?r3_1 hJ hJ0 h Y0 rfl rfl rfl rfl ⟨?o3_1_0, ⟨?o3_1_1, ⟨?o3_1_2, ⟨?o3_1_3, trivial⟩⟩⟩⟩ trivial (fun v2 => ?n3_1)
 case r3_1 =>
  refine Row.mk' XE ⟨_, rfl, rfl, rfl, rfl, rfl⟩ ⟨?x3_1_0, trivial⟩ ⟨_, _, _, _, rfl, rfl, rfl, rfl, rfl, rfl, rfl, rfl, rfl⟩ rfl rfl rfl
  case x3_1_0 => exact ⟨_, _, _, _, rfl, rfl, rfl, rfl, rfl, rfl, rfl, rfl, Y5 (f := Qz) (fun _ => rfl), (by have hm : maxLen = 9223372036854775807 := rfl; simp [upto]; first | omega | (simp; omega)), (by have hm : maxLen = 9223372036854775807 := rfl; simp [upto]; first | omega | (simp; omega)), fun _ _ _ _ _ hl => (hl.dep 1 6 _ rfl rfl rfl rfl)⟩
 case o3_1_0 => exact fun h => Zs rfl h
 case o3_1_1 => exact fun _ _ => ⟨rfl, fun _ _ _ hx hl _ => Yj rfl (hl.env 1 0 _ rfl rfl) hx⟩
 case o3_1_2 => exact fun h => Zs rfl h
 case o3_1_3 => exact fun h => Zs rfl h
 clear a w h
 refine nx (Zi (fun a w h => Yh  (m := 0) v2 rfl h rfl rfl))
theorem Zk8 {J : World → Prop} (hJ : Stab J) (xs : List Hy) (b : xs.length * 48 ≤ 140737488351232) : FnM (ι := Value) Tryz.prog J 102 [] [.rd (Z4 xs)] [] (fun i' => .lit (i')) (fun i' => [OB.row i' 109 3 (xs.map hyC)]) := by
 refine YK (N := 8) Tryz.func102 rfl rfl (lb rfl) fun S w0 R hS hJ0 hH => ?_
 refine XA (B := St All (SO S (R)) w0 8 [(0, .rd (Z4 xs))] (XO J S w0.heap.size (R))) ?_ fun a w h => h
 refine Zf (fun a w h => Zj h 0 rfl) fun hl1 => Za (rgo tb hJ [0] [_] [] [(_, _)] rfl rfl rfl rfl trivial (nx (Za (Za (Zn (sv tb rfl rfl rfl rfl (ZbQ (f := hyC) (xs := xs) ZC rfl rfl rfl (lb rfl) (fun a w h => (h.get 0 rfl)) fun g1 hg1 => ?_)))))))
 refine Zy ?_
 refine kw (lz [0, 2] (env' := [(_, _), (_, _)]) rfl) ?_
 refine nx (tc 0 rfl rfl (fun hb1 => ?_) (fun hb1 => ?_))
 try simp at hb1
 refine Za (rgo tb hJ [1000] [_] [] [(_, .lit (.slice none 0 0))] rfl rfl rfl rfl trivial (nx ?_))
 refine tw (YI 109 3 hJ) ?_
 refine tw (ob0 (congrArg (fun z' => OB.row (.slice none 0 0) 109 3 ((z').map hyC)) (show ([] : List Hy) = xs from by first | exact (hg1 (by assumption)).symm | simp))) ?_
 refine Zi (fun a w h => Yh  (m := 0) (.slice none 0 0) rfl h rfl rfl)
 try simp at hb1
 refine Zd (nx (Za ?_))
 refine fun a w h => Qp (id := 3) (t := 56) (e := 109) (size := 3) (bytes := 48) (i0 := 0) (fol := 3) (d := 2) (ch := [(2, (xs.map hyC))]) (fun ix' => ([.any, .rd (Z4 xs), .any, .any] : List AV).getD ix' .any) (fun ix' => ([true, true, true, true] : List Bool).getD ix' true) [] (xs.map hyC) (by simp) ?r3_1 hJ hJ0 h Y0 rfl rfl rfl rfl ⟨?o3_1_0, ⟨?o3_1_1, ⟨?o3_1_2, ⟨?o3_1_3, trivial⟩⟩⟩⟩ trivial (fun v2 => ?n3_1)
 case r3_1 =>
  refine Row.mk' Xz ⟨_, rfl, rfl, rfl, rfl, rfl⟩ ⟨?x3_1_0, trivial⟩ ⟨_, _, _, _, rfl, rfl, rfl, rfl, rfl, rfl, rfl, rfl, rfl⟩ rfl rfl rfl
  case x3_1_0 => exact ⟨_, _, _, _, rfl, rfl, rfl, rfl, rfl, rfl, rfl, rfl, Y5 (f := hyC) (fun _ => rfl), (by have hm : maxLen = 9223372036854775807 := rfl; simp [upto]; first | omega | (simp; omega)), (by have hm : maxLen = 9223372036854775807 := rfl; simp [upto]; first | omega | (simp; omega)), fun _ _ _ _ _ hl => (hl.dep 1 6 _ rfl rfl rfl rfl)⟩
 case o3_1_0 => exact fun h => Zs rfl h
 case o3_1_1 => exact fun _ _ => ⟨rfl, fun _ _ _ hx hl _ => Yj rfl (hl.env 1 0 _ rfl rfl) hx⟩
 case o3_1_2 => exact fun h => Zs rfl h
 case o3_1_3 => exact fun h => Zs rfl h
 clear a w h
 refine nx (Zi (fun a w h => Yh  (m := 0) v2 rfl h rfl rfl))
theorem Zk6 {J : World → Prop} (hJ : Stab J) (xs : List Pr) (b : xs.length * 32 ≤ 140737488351232) : FnM (ι := Value) Tryz.prog J 157 [] [.rd (YG xs)] [] (fun i' => .lit (i')) (fun i' => [OB.row i' 148 2 (xs.map prC)]) := by
 refine YK (N := 8) Tryz.func157 rfl rfl (lb rfl) fun S w0 R hS hJ0 hH => ?_
 refine XA (B := St All (SO S (R)) w0 8 [(0, .rd (YG xs))] (XO J S w0.heap.size (R))) ?_ fun a w h => h
 refine Zf (fun a w h => Zj h 0 rfl) fun hl1 => Za (rgo tb hJ [0] [_] [] [(_, _)] rfl rfl rfl rfl trivial (nx (Za (Za (Zn (sv tb rfl rfl rfl rfl (ZbQ (f := prC) (xs := xs) Z1 rfl rfl rfl (lb rfl) (fun a w h => (h.get 0 rfl)) fun g1 hg1 => ?_)))))))
 refine Zy ?_
 refine kw (lz [0, 2] (env' := [(_, _), (_, _)]) rfl) ?_
 refine nx (tc 0 rfl rfl (fun hb1 => ?_) (fun hb1 => ?_))
 try simp at hb1
 refine Za (rgo tb hJ [1000] [_] [] [(_, .lit (.slice none 0 0))] rfl rfl rfl rfl trivial (nx ?_))
 refine tw (YI 148 2 hJ) ?_
 refine tw (ob0 (congrArg (fun z' => OB.row (.slice none 0 0) 148 2 ((z').map prC)) (show ([] : List Pr) = xs from by first | exact (hg1 (by assumption)).symm | simp))) ?_
 refine Zi (fun a w h => Yh  (m := 0) (.slice none 0 0) rfl h rfl rfl)
 try simp at hb1
 refine Zd (nx (Za ?_))
 refine fun a w h => Qp (id := 3) (t := 57) (e := 148) (size := 2) (bytes := 32) (i0 := 0) (fol := 3) (d := 2) (ch := [(2, (xs.map prC))]) (fun ix' => ([.any, .rd (YG xs), .any, .any] : List AV).getD ix' .any) (fun ix' => ([true, true, true, true] : List Bool).getD ix' true) [] (xs.map prC) (by simp) ?r3_1 hJ hJ0 h Y0 rfl rfl rfl rfl ⟨?o3_1_0, ⟨?o3_1_1, ⟨?o3_1_2, ⟨?o3_1_3, trivial⟩⟩⟩⟩ trivial (fun v2 => ?n3_1)
 case r3_1 =>
  refine Row.mk' Zbx ⟨_, rfl, rfl, rfl, rfl, rfl⟩ ⟨?x3_1_0, trivial⟩ ⟨_, _, _, _, rfl, rfl, rfl, rfl, rfl, rfl, rfl, rfl, rfl⟩ rfl rfl rfl
  case x3_1_0 => exact ⟨_, _, _, _, rfl, rfl, rfl, rfl, rfl, rfl, rfl, rfl, Y5 (f := prC) (fun _ => rfl), (by have hm : maxLen = 9223372036854775807 := rfl; simp [upto]; first | omega | (simp; omega)), (by have hm : maxLen = 9223372036854775807 := rfl; simp [upto]; first | omega | (simp; omega)), fun _ _ _ _ _ hl => (hl.dep 1 6 _ rfl rfl rfl rfl)⟩
 case o3_1_0 => exact fun h => Zs rfl h
 case o3_1_1 => exact fun _ _ => ⟨rfl, fun _ _ _ hx hl _ => Yj rfl (hl.env 1 0 _ rfl rfl) hx⟩
 case o3_1_2 => exact fun h => Zs rfl h
 case o3_1_3 => exact fun h => Zs rfl h
 clear a w h
 refine nx (Zi (fun a w h => Yh  (m := 0) v2 rfl h rfl rfl))
end Go.Proofs.YtnpgmdffjemnbaaGreatDoor
set_option maxHeartbeats 8000000
set_option maxRecDepth 100000
namespace Go.Proofs.YtnpgmdffjemnbaaGreatDoor
open Go.RowKit

theorem ZdN {J : World → Prop} (hJ : Stab J) (v : Value) (xs : List Hy) (f : FuncId) (caps : List AV) (Os : List OB) (Hs : List OB) (p : Hy → Bool) (hf : ∀ q', FnR Tryz.prog J f (Os ++ Hs) ([.agg (hyC (q'))] ++ caps) (.bool (p q'))) (hk0 : Zu Tryz.prog f) (hn : xs.length ≤ 9223372036854775807) : FnM (ι := Unit) Tryz.prog J 101 Hs [.lit v, .fn f caps] (OB.row v 109 3 (xs.map hyC) :: Os) (fun _ => .rd (Z4 (xs.filter fun x' => !p x'))) (fun _ => (Os)) := by
 refine YK (N := 42) Tryz.func101 rfl rfl (lb rfl) fun S w0 R hS hJ0 hH => ?_
 refine XA (B := St All (SO S (OB.row v 109 3 (xs.map hyC) :: (Os ++ R))) w0 42 [(0, .lit v), (1, .fn f caps)] (XO J S w0.heap.size (OB.row v 109 3 (xs.map hyC) :: (Os ++ R)))) ?_ fun a w h => h
 refine Za (rgo tb hJ [0, 1] [_] [] [(_, _), (_, _)] rfl rfl rfl rfl trivial (nx (Za (rgr tb hJ [0, 1, 1003] [_, _, .int (YD p xs), _] [2] [(_, _), (_, _), (_, .int (YD p xs))] rfl rfl rfl rfl ⟨fun _ _ hk hx hl _ => X1 (ZbD hJ (xs := xs) (f := f) (caps := caps) (Os := (Os ++ Hs)) (p := p) (hf) (hk0)) Zhh rfl (nm hS hk) (hx.1) (ZdW (fun _ ho => ZgM hx (List.mem_cons_of_mem _ (List.mem_append_left _ ho))) (fun _ ho => ZgZ hH hk hx ho)) (Zc (YM hS hx (mo 0 rfl) (hl.dep 0 8 _ rfl rfl rfl rfl)) (Zc (hl.dep 1 9 _ rfl rfl rfl rfl) Zm)) (jo hJ hx), trivial⟩ (nx (Za (Za (rgo tb hJ [0, 1, 2, 1001] [_, _] [] [(_, _), (_, _), (_, _), (_, .bool (decide (YD p xs = (-1 : Int))))] rfl rfl rfl rfl trivial (nx (tc 3 rfl rfl (fun hb1 => ?_) (fun hb1 => ?_)))))))))))
 have e1 := of_decide_eq_true hb1
 refine Za (rgo tb hJ [1001] [_, _] [] [(_, .lit v)] rfl rfl rfl rfl trivial (nx ?_))
 refine tw (fun h => ZO hS h (m := 0) (s := 4) rfl) ?_
 refine Zi (fun a w h => Yh  (m := 0) () rfl h rfl (congrArg (fun z => AV.rd (Z4 z)) (show xs = (xs.filter fun x' => !p x') from by first | exact DelF.none e1 | exact f1_1.fin (by have := f1_1.len; omega))))
 have e1 := of_decide_eq_false hb1
 refine Zd (nx (Za (Za ?_)))
 refine tw (sa 2 rfl (congrArg AV.int (show YD p xs = (((YD p xs).toNat : Nat) : Int) from by have := XD e1; omega))) ?_
 refine rgo tb hJ [0, 1, 2, 1002] [_, .int (((YD p xs).toNat + 1 : Nat) : Int), _] [1] [(_, _), (_, _), (_, _), (_, .int (((YD p xs).toNat + 1 : Nat) : Int))] rfl rfl rfl rfl ⟨Yc (by have := (XD e1).2.1; omega) rfl rfl rfl rfl rfl, trivial⟩ (nx (Ze (Zw (ι := Nat × Nat × (List Hy) × Value) (fun (ii' : Nat × Nat × (List Hy) × Value) a w => match ii' with | (i, j, ys, vo) => (DelF p xs ys i j) ∧ St All (SO S (OB.row vo 109 3 (ys.map hyC) :: (Os ++ R))) w0 42 [(1, .fn f caps), (5, .int i), (6, .int j), (0, .lit vo)] (XO J S w0.heap.size (OB.row vo 109 3 (ys.map hyC) :: (Os ++ R))) a w) (fun (ii' : Nat × Nat × (List Hy) × Value) => match ii' with | (_, j, _, _) => (xs.length - j : Nat)) ?_ ?_)))
 intro a w h
 exact ⟨((YD p xs).toNat, (YD p xs).toNat + 1, xs, v), (show (DelF p xs xs ((YD p xs).toNat) ((YD p xs).toNat + 1)) from DelF.init e1), lz [1, 2, 3, 0] rfl h⟩
 rintro ⟨i, j, ys, vo⟩
 refine ZD fun hF => ?_
 have f1_1 : DelF p xs ys i j := hF
 refine Za (Za (rgr tb hJ [0, 1, 2, 3, 1003] [_, _, .int ys.length, _] [2] [(_, _), (_, _), (_, _), (_, _), (_, .bool (decide ((j : Int) < (ys.length : Int))))] rfl rfl rfl rfl ⟨fun _ _ _ hx hl _ => Yy ZC rfl (YM hS hx (mo 0 rfl) (hl.dep 1 17 _ rfl rfl rfl rfl)) hx, trivial⟩ (nx (tc 4 rfl rfl (fun hb2 => ?_) (fun hb2 => ?_)))))
 try simp at hb2
 refine Zd (nx (Za (Ze (Za (Zn (sv tb rfl rfl rfl rfl (sv tb rfl rfl rfl rfl (sq (.lit (XI vo (j * 3))) rfl rfl (lb rfl) (fun _ _ h => Yu (i := (j : Int)) Zt rfl (ZA h.x (mo 0 rfl)) (h.get 1 rfl) (h.get 0 rfl) (Int.natCast_nonneg _) (by rw [List.length_map]; exact Int.ofNat_lt.2 (by omega)) h.x) (sq (.agg (hyC (ge ys j))) rfl rfl (lb rfl) (fun _ _ h => Zdg (i := j) Zbe rfl (ZA h.x (mo 0 rfl)) (h.get 0 rfl) (ZaS (xs := ys) (k := j) (by omega)) rfl h.x) (QZ (cs := hyC (ge ys j)) ZaL rfl rfl rfl (lb rfl) rfl rfl rfl (by decide) (m := 0) rfl rfl (fun a w h => Zr hS _ h.keep h.x _ (Nat.le_refl _)) (fun a w h w' hk' => YY hJ _ _ hk' h.x) (Zy ?_)))))))))))
 refine kw (lz [0, 5, 6, 7, 8] (env' := [(_, _), (_, _), (_, _), (_, _), (_, _)]) rfl) ?_
 refine nx (Za (rgo tb hJ [0, 1, 2, 3, 4, 1003] [_, _, .bool (p (ge ys j)), _] [2] [(_, _), (_, _), (_, _), (_, _), (_, _), (_, .bool (!(p (ge ys j))))] rfl rfl rfl rfl ⟨fun _ _ hk hx hl _ => ZaF (hf (ge ys j)) hk0 rfl (hl.dep 0 26 _ rfl rfl rfl rfl) (Zr hS _ hk hx) (hx.1) (ZdW (fun _ ho => ZA hx (List.mem_cons_of_mem _ (List.mem_append_left _ ho))) (fun _ ho => YF hH hk hx ho)) (Zc (hl.dep 1 27 _ rfl rfl rfl rfl) Zm) (jo hJ hx), trivial⟩ (nx (tc 5 rfl rfl (fun hb3 => ?_) (fun hb3 => ?_)))))
 try simp at hb3
 refine Za (Zn (sv tb rfl rfl rfl rfl (sv tb rfl rfl rfl rfl (sv (av := .agg (hyC (ge ys j))) tb rfl rfl rfl rfl (sq (.lit (XI vo (i * 3))) rfl rfl (lb rfl) (fun _ _ h => Yu (i := (i : Int)) Zt rfl (ZA h.x (mo 0 rfl)) (h.get 2 rfl) (h.get 1 rfl) (Int.natCast_nonneg _) (by rw [List.length_map]; exact Int.ofNat_lt.2 (by have := f1_1.le; omega)) h.x) (Zbz (i := i) hJ hJ0 XN rfl rfl rfl (by rw [List.length_map]; exact (by have := f1_1.le; omega)) rfl (fun a w h => ⟨(h.get 0 rfl), (h.get 1 rfl)⟩) ?_))))))
 rw [show (ys.map hyC).set i (hyC (ge ys j)) = (ys.set i (ge ys j)).map hyC from List.map_set.symm]
 refine Zy ?_
 refine kw (lz [5, 6, 7, 8] (env' := [(_, _), (_, _), (_, _), (_, _)]) rfl) ?_
 refine nx (rgo tb hJ [0, 2, 3, 1002] [_, .int ((i + 1 : Nat) : Int), _] [1] [(_, _), (_, _), (_, _), (_, .int ((i + 1 : Nat) : Int))] rfl rfl rfl rfl ⟨Yc (by have := f1_1.le; have := f1_1.len; omega) rfl rfl rfl rfl rfl, trivial⟩ (nx (rgo tb hJ [0, 2, 3, 1002] [_, .int ((j + 1 : Nat) : Int), _] [1] [(_, _), (_, _), (_, _), (_, .int ((j + 1 : Nat) : Int))] rfl rfl rfl rfl ⟨Yc (by have := f1_1.lt; have := f1_1.len; omega) rfl rfl rfl rfl rfl, trivial⟩ ?_)))
 intro a w h; change ∃ j, _ ∧ _
 exact ⟨(i + 1, j + 1, ys.set i (ge ys j), vo), ⟨(show (DelF p xs (ys.set i (ge ys j)) (i + 1) (j + 1)) from f1_1.keep (by have := f1_1.len; omega) (by simpa using hb3)), lz [0, 2, 3, 1] rfl h⟩, (show xs.length - (j + 1) < xs.length - j from by have := f1_1.lt; have := f1_1.len; omega)⟩
 try simp at hb3
 refine Zd (nx (rgo tb hJ [1, 2, 4, 1002] [_, .int ((j + 1 : Nat) : Int), _] [1] [(_, _), (_, _), (_, _), (_, .int ((j + 1 : Nat) : Int))] rfl rfl rfl rfl ⟨Yc (by have := f1_1.lt; have := f1_1.len; omega) rfl rfl rfl rfl rfl, trivial⟩ ?_))
 intro a w h; change ∃ j, _ ∧ _
 exact ⟨(i, j + 1, ys, vo), ⟨(show (DelF p xs ys i (j + 1)) from f1_1.skip (by have := f1_1.len; omega) (by simpa using hb3)), lz [0, 1, 3, 2] rfl h⟩, (show xs.length - (j + 1) < xs.length - j from by have := f1_1.lt; have := f1_1.len; omega)⟩
 try simp at hb2
 refine Zv (nx (Za (Zn (sv tb rfl rfl rfl rfl (sv tb rfl rfl rfl rfl (sq (.lit (Zkv vo i 3)) rfl rfl (lb rfl) (fun _ _ h => ZmL (lo := i) Zt rfl (ZA h.x (mo 0 rfl)) (h.get 1 rfl) (h.get 0 rfl) (by rw [List.length_map]; exact (by have := f1_1.le; have := f1_1.lt; have := f1_1.len; omega)) h.x) (Zgo (lo := i) Zft ZC (by decide) hJ hJ0 rfl rfl rfl (by rw [List.length_map]; exact (by have := f1_1.le; have := f1_1.lt; have := f1_1.len; omega)) (fun a w h => (h.get 0 rfl)) ?_)))))))
 rw [← List.map_take]
 refine Zy ?_
 refine kw (lz [4, 6] (env' := [(_, _), (_, _)]) rfl) ?_
 refine nx (Za (rgo tb hJ [1003] [_, _, .lit (ZcV vo i), _] [2] [(_, .lit (ZcV vo i))] rfl rfl rfl rfl ⟨fun _ _ _ hx hl _ => ZiL (m := i) Zt rfl (ZA hx (mo 0 rfl)) (by first | rfl | (rw [List.length_map]; exact (by have := f1_1.le; have := f1_1.lt; have := f1_1.len; simp; omega))) (hl.dep 0 39 _ rfl rfl rfl rfl) (hl.dep 1 40 _ rfl rfl rfl rfl) hx, trivial⟩ (nx ?_)))
 refine tw (fun h => ZO hS h (m := 0) (s := 4) rfl) ?_
 refine Zi (fun a w h => Yh  (m := 0) () rfl h rfl (congrArg (fun z => AV.rd (Z4 z)) (show (ys.take i) = (xs.filter fun x' => !p x') from by first | exact DelF.none e1 | exact f1_1.fin (by have := f1_1.len; omega))))
theorem ZdM {J : World → Prop} (hJ : Stab J) (v : Value) (xs : List Pr) (f : FuncId) (caps : List AV) (Os : List OB) (Hs : List OB) (p : Pr → Bool) (hf : ∀ q', FnR Tryz.prog J f (Os ++ Hs) ([.agg (prC (q'))] ++ caps) (.bool (p q'))) (hk0 : Zu Tryz.prog f) (hn : xs.length ≤ 9223372036854775807) : FnM (ι := Unit) Tryz.prog J 156 Hs [.lit v, .fn f caps] (OB.row v 148 2 (xs.map prC) :: Os) (fun _ => .rd (YG (xs.filter fun x' => !p x'))) (fun _ => (Os)) := by
 refine YK (N := 42) Tryz.func156 rfl rfl (lb rfl) fun S w0 R hS hJ0 hH => ?_
 refine XA (B := St All (SO S (OB.row v 148 2 (xs.map prC) :: (Os ++ R))) w0 42 [(0, .lit v), (1, .fn f caps)] (XO J S w0.heap.size (OB.row v 148 2 (xs.map prC) :: (Os ++ R)))) ?_ fun a w h => h
 refine Za (rgo tb hJ [0, 1] [_] [] [(_, _), (_, _)] rfl rfl rfl rfl trivial (nx (Za (rgr tb hJ [0, 1, 1003] [_, _, .int (YD p xs), _] [2] [(_, _), (_, _), (_, .int (YD p xs))] rfl rfl rfl rfl ⟨fun _ _ hk hx hl _ => X1 (ZeK hJ (xs := xs) (f := f) (caps := caps) (Os := (Os ++ Hs)) (p := p) (hf) (hk0)) ZlM rfl (nm hS hk) (hx.1) (ZdW (fun _ ho => ZgM hx (List.mem_cons_of_mem _ (List.mem_append_left _ ho))) (fun _ ho => ZgZ hH hk hx ho)) (Zc (YM hS hx (mo 0 rfl) (hl.dep 0 8 _ rfl rfl rfl rfl)) (Zc (hl.dep 1 9 _ rfl rfl rfl rfl) Zm)) (jo hJ hx), trivial⟩ (nx (Za (Za (rgo tb hJ [0, 1, 2, 1001] [_, _] [] [(_, _), (_, _), (_, _), (_, .bool (decide (YD p xs = (-1 : Int))))] rfl rfl rfl rfl trivial (nx (tc 3 rfl rfl (fun hb1 => ?_) (fun hb1 => ?_)))))))))))
 have e1 := of_decide_eq_true hb1
 refine Za (rgo tb hJ [1001] [_, _] [] [(_, .lit v)] rfl rfl rfl rfl trivial (nx ?_))
 refine tw (fun h => ZO hS h (m := 0) (s := 4) rfl) ?_
 refine Zi (fun a w h => Yh  (m := 0) () rfl h rfl (congrArg (fun z => AV.rd (YG z)) (show xs = (xs.filter fun x' => !p x') from by first | exact DelF.none e1 | exact f1_1.fin (by have := f1_1.len; omega))))
 have e1 := of_decide_eq_false hb1
 refine Zd (nx (Za (Za ?_)))
 refine tw (sa 2 rfl (congrArg AV.int (show YD p xs = (((YD p xs).toNat : Nat) : Int) from by have := XD e1; omega))) ?_
 refine rgo tb hJ [0, 1, 2, 1002] [_, .int (((YD p xs).toNat + 1 : Nat) : Int), _] [1] [(_, _), (_, _), (_, _), (_, .int (((YD p xs).toNat + 1 : Nat) : Int))] rfl rfl rfl rfl ⟨Yc (by have := (XD e1).2.1; omega) rfl rfl rfl rfl rfl, trivial⟩ (nx (Ze (Zw (ι := Nat × Nat × (List Pr) × Value) (fun (ii' : Nat × Nat × (List Pr) × Value) a w => match ii' with | (i, j, ys, vo) => (DelF p xs ys i j) ∧ St All (SO S (OB.row vo 148 2 (ys.map prC) :: (Os ++ R))) w0 42 [(1, .fn f caps), (5, .int i), (6, .int j), (0, .lit vo)] (XO J S w0.heap.size (OB.row vo 148 2 (ys.map prC) :: (Os ++ R))) a w) (fun (ii' : Nat × Nat × (List Pr) × Value) => match ii' with | (_, j, _, _) => (xs.length - j : Nat)) ?_ ?_)))
 intro a w h
 exact ⟨((YD p xs).toNat, (YD p xs).toNat + 1, xs, v), (show (DelF p xs xs ((YD p xs).toNat) ((YD p xs).toNat + 1)) from DelF.init e1), lz [1, 2, 3, 0] rfl h⟩
 rintro ⟨i, j, ys, vo⟩
 refine ZD fun hF => ?_
 have f1_1 : DelF p xs ys i j := hF
 refine Za (Za (rgr tb hJ [0, 1, 2, 3, 1003] [_, _, .int ys.length, _] [2] [(_, _), (_, _), (_, _), (_, _), (_, .bool (decide ((j : Int) < (ys.length : Int))))] rfl rfl rfl rfl ⟨fun _ _ _ hx hl _ => Yy Z1 rfl (YM hS hx (mo 0 rfl) (hl.dep 1 17 _ rfl rfl rfl rfl)) hx, trivial⟩ (nx (tc 4 rfl rfl (fun hb2 => ?_) (fun hb2 => ?_)))))
 try simp at hb2
 refine Zd (nx (Za (Ze (Za (Zn (sv tb rfl rfl rfl rfl (sv tb rfl rfl rfl rfl (sq (.lit (XI vo (j * 2))) rfl rfl (lb rfl) (fun _ _ h => Yu (i := (j : Int)) ZH rfl (ZA h.x (mo 0 rfl)) (h.get 1 rfl) (h.get 0 rfl) (Int.natCast_nonneg _) (by rw [List.length_map]; exact Int.ofNat_lt.2 (by omega)) h.x) (sq (.agg (prC (ge ys j))) rfl rfl (lb rfl) (fun _ _ h => Zdg (i := j) Zfo rfl (ZA h.x (mo 0 rfl)) (h.get 0 rfl) (ZaS (xs := ys) (k := j) (by omega)) rfl h.x) (QZ (cs := prC (ge ys j)) Zel rfl rfl rfl (lb rfl) rfl rfl rfl (by decide) (m := 0) rfl rfl (fun a w h => Zr hS _ h.keep h.x _ (Nat.le_refl _)) (fun a w h w' hk' => YY hJ _ _ hk' h.x) (Zy ?_)))))))))))
 refine kw (lz [0, 5, 6, 7, 8] (env' := [(_, _), (_, _), (_, _), (_, _), (_, _)]) rfl) ?_
 refine nx (Za (rgo tb hJ [0, 1, 2, 3, 4, 1003] [_, _, .bool (p (ge ys j)), _] [2] [(_, _), (_, _), (_, _), (_, _), (_, _), (_, .bool (!(p (ge ys j))))] rfl rfl rfl rfl ⟨fun _ _ hk hx hl _ => ZaF (hf (ge ys j)) hk0 rfl (hl.dep 0 26 _ rfl rfl rfl rfl) (Zr hS _ hk hx) (hx.1) (ZdW (fun _ ho => ZA hx (List.mem_cons_of_mem _ (List.mem_append_left _ ho))) (fun _ ho => YF hH hk hx ho)) (Zc (hl.dep 1 27 _ rfl rfl rfl rfl) Zm) (jo hJ hx), trivial⟩ (nx (tc 5 rfl rfl (fun hb3 => ?_) (fun hb3 => ?_)))))
 try simp at hb3
 refine Za (Zn (sv tb rfl rfl rfl rfl (sv tb rfl rfl rfl rfl (sv (av := .agg (prC (ge ys j))) tb rfl rfl rfl rfl (sq (.lit (XI vo (i * 2))) rfl rfl (lb rfl) (fun _ _ h => Yu (i := (i : Int)) ZH rfl (ZA h.x (mo 0 rfl)) (h.get 2 rfl) (h.get 1 rfl) (Int.natCast_nonneg _) (by rw [List.length_map]; exact Int.ofNat_lt.2 (by have := f1_1.le; omega)) h.x) (Zbz (i := i) hJ hJ0 Zdd rfl rfl rfl (by rw [List.length_map]; exact (by have := f1_1.le; omega)) rfl (fun a w h => ⟨(h.get 0 rfl), (h.get 1 rfl)⟩) ?_))))))
 rw [show (ys.map prC).set i (prC (ge ys j)) = (ys.set i (ge ys j)).map prC from List.map_set.symm]
 refine Zy ?_
 refine kw (lz [5, 6, 7, 8] (env' := [(_, _), (_, _), (_, _), (_, _)]) rfl) ?_
 refine nx (rgo tb hJ [0, 2, 3, 1002] [_, .int ((i + 1 : Nat) : Int), _] [1] [(_, _), (_, _), (_, _), (_, .int ((i + 1 : Nat) : Int))] rfl rfl rfl rfl ⟨Yc (by have := f1_1.le; have := f1_1.len; omega) rfl rfl rfl rfl rfl, trivial⟩ (nx (rgo tb hJ [0, 2, 3, 1002] [_, .int ((j + 1 : Nat) : Int), _] [1] [(_, _), (_, _), (_, _), (_, .int ((j + 1 : Nat) : Int))] rfl rfl rfl rfl ⟨Yc (by have := f1_1.lt; have := f1_1.len; omega) rfl rfl rfl rfl rfl, trivial⟩ ?_)))
 intro a w h; change ∃ j, _ ∧ _
 exact ⟨(i + 1, j + 1, ys.set i (ge ys j), vo), ⟨(show (DelF p xs (ys.set i (ge ys j)) (i + 1) (j + 1)) from f1_1.keep (by have := f1_1.len; omega) (by simpa using hb3)), lz [0, 2, 3, 1] rfl h⟩, (show xs.length - (j + 1) < xs.length - j from by have := f1_1.lt; have := f1_1.len; omega)⟩
 try simp at hb3
 refine Zd (nx (rgo tb hJ [1, 2, 4, 1002] [_, .int ((j + 1 : Nat) : Int), _] [1] [(_, _), (_, _), (_, _), (_, .int ((j + 1 : Nat) : Int))] rfl rfl rfl rfl ⟨Yc (by have := f1_1.lt; have := f1_1.len; omega) rfl rfl rfl rfl rfl, trivial⟩ ?_))
 intro a w h; change ∃ j, _ ∧ _
 exact ⟨(i, j + 1, ys, vo), ⟨(show (DelF p xs ys i (j + 1)) from f1_1.skip (by have := f1_1.len; omega) (by simpa using hb3)), lz [0, 1, 3, 2] rfl h⟩, (show xs.length - (j + 1) < xs.length - j from by have := f1_1.lt; have := f1_1.len; omega)⟩
 try simp at hb2
 refine Zv (nx (Za (Zn (sv tb rfl rfl rfl rfl (sv tb rfl rfl rfl rfl (sq (.lit (Zkv vo i 2)) rfl rfl (lb rfl) (fun _ _ h => ZmL (lo := i) ZH rfl (ZA h.x (mo 0 rfl)) (h.get 1 rfl) (h.get 0 rfl) (by rw [List.length_map]; exact (by have := f1_1.le; have := f1_1.lt; have := f1_1.len; omega)) h.x) (Zgo (lo := i) Zfs Z1 (by decide) hJ hJ0 rfl rfl rfl (by rw [List.length_map]; exact (by have := f1_1.le; have := f1_1.lt; have := f1_1.len; omega)) (fun a w h => (h.get 0 rfl)) ?_)))))))
 rw [← List.map_take]
 refine Zy ?_
 refine kw (lz [4, 6] (env' := [(_, _), (_, _)]) rfl) ?_
 refine nx (Za (rgo tb hJ [1003] [_, _, .lit (ZcV vo i), _] [2] [(_, .lit (ZcV vo i))] rfl rfl rfl rfl ⟨fun _ _ _ hx hl _ => ZiL (m := i) ZH rfl (ZA hx (mo 0 rfl)) (by first | rfl | (rw [List.length_map]; exact (by have := f1_1.le; have := f1_1.lt; have := f1_1.len; simp; omega))) (hl.dep 0 39 _ rfl rfl rfl rfl) (hl.dep 1 40 _ rfl rfl rfl rfl) hx, trivial⟩ (nx ?_)))
 refine tw (fun h => ZO hS h (m := 0) (s := 4) rfl) ?_
 refine Zi (fun a w h => Yh  (m := 0) () rfl h rfl (congrArg (fun z => AV.rd (YG z)) (show (ys.take i) = (xs.filter fun x' => !p x') from by first | exact DelF.none e1 | exact f1_1.fin (by have := f1_1.len; omega))))
end Go.Proofs.YtnpgmdffjemnbaaGreatDoor
