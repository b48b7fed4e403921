/-
  CONTRACTS of the program: the check of a database.
-/
import Derived.Test.YtgifeodnngodiaaGreatDoorPT
set_option maxHeartbeats 8000000
set_option maxRecDepth 100000
namespace Go.Proofs.YtgifeodnngodiaaGreatDoor
open Go.RowKit
theorem Zq9 {J : World → Prop} (hJ : Stab J) (d : Db) (hw : ∀ f ∈ d.frames, f.wide.length * 32 ≤ 140737488351232) (hG : Q8 J) : Fn Tryz.prog J 46 [.agg (dbC d)] (.int (ZcD d)) := by
 refine Zx (N := 55) Tryz.func46 rfl rfl (lb rfl) fun S w0 hS hJ0 => ?_
 refine tw Yr ?_
 refine ZN tb hJ [1000] [.ptr (dbC d),_] [0] [_] rfl ⟨fun _ _ hk hx hl _ => Y1 rfl (hl.env 0 0 _ rfl rfl) (Zr hS _ hk hx _ (Nat.le_refl _)) (jo hJ hx), trivial⟩ ?_
 refine Zo (ZN tb hJ [0,1001,1015] [_,_,.int (d.frames.length : Nat),_,_,_,_,.int (d.consts.length : Nat),_,_,_,_,_,.int (d.vars.length : Nat),_,_] [2,7,13] [_,_,_] rfl ⟨YE XE, YE Zw, YE Zw, trivial⟩ ?_)
 refine ln 1 fun hl1 => ?_
 refine cj 2 (fun hb1 => ?_) fun hb1 => ?_
 ·
  have e9 : ZcD d = 8 := by rw [ZcD, if_pos hb1]
  refine qso tb hJ [1000] [_] [_] ?_
  exact Zi (Qm (m := 0) rfl rfl (eI (e9.symm)))
 ·
  replace hb1 := (Bool.not_eq_true _).mpr hb1
  refine Zf (nx (tsq ?_))
  refine ZaA keyS hJ rfl rfl rfl (lb rfl) fun m1 => ?_
  refine ZaA keyS hJ rfl rfl rfl (lb rfl) fun m2 => ?_
  refine ZaA keyS hJ rfl rfl rfl (lb rfl) fun m3 => ?_
  refine ZfS keyS (fun z' : Hy => AV.agg (hyC z')) hJ rfl rfl rfl (lb rfl) fun m4 => ?_
  refine ZfS keyS (fun z' : ByteArray => AV.str z') hJ rfl rfl rfl (lb rfl) fun m5 => ?_
  refine sq (.agg [.lit (.map (some m1)), .lit (.map (some m2)), .lit (.map (some m3)), .lit (.map (some m4)), .lit (.map (some m5))]) rfl rfl (lb rfl) (fun a _ h => XP (us := [a.eval (Go.Operand.tmp 25), a.eval (Go.Operand.tmp 26), a.eval (Go.Operand.tmp 27), a.eval (Go.Operand.tmp 28), a.eval (Go.Operand.tmp 29)]) ZhP rfl (by simp) (Zk (h.get 4 rfl) (Zk (h.get 3 rfl) (Zk (h.get 2 rfl) (Zk (h.get 1 rfl) (Zk (h.get 0 rfl) ZK))))) rfl h.x) ?_
  refine sq (.ptr (mpC [m1, m2, m3, m4, m5])) rfl rfl (lb rfl) (fun _ _ h => Y1 rfl (h.get 0 rfl) (Zr hS _ h.keep h.x _ (Nat.le_refl _)) (jo hJ h.x)) ?_
  refine snK 1 tb rfl ?_
  refine seK [0,8] [_,_] rfl ?_
  refine nx (Zo (tsq ?_))
  refine snK 2 tb rfl ?_
  refine kw pm2 ?_
  refine kw pm2 ?_
  refine kw pm2 ?_
  refine kw pm3 ?_
  refine kw pm4 ?_
  refine Xr (O := [OB.set keyS m1 ([] : List ByteArray), OB.set keyS m2 ([] : List ByteArray)]) (R := [OB.mT m5 ([] : List (ByteArray × ByteArray)), OB.mH m4 ([] : List (ByteArray × Hy)), OB.set keyS m3 ([] : List ByteArray)]) (Zlj hJ (M1 := m1) (M2 := m2) (M3 := m3) (M4 := m4) (M5 := m5) (d := d) ) Zsc rfl rfl rfl (lb rfl) hS hJ0 Zt (fun a w h => (Za (h.get 1 rfl) (Za (h.get 0 rfl) Ze))) fun z6 => ?_
  refine snK 1 tb rfl ?_
  refine seK [0,4,5] [_,_,_] rfl ?_
  refine nx (qso tb hJ [0,1,2,1001] [_,_] [_,_,_,_] ?_)
  refine cj 3 (fun hb2 => ?_) fun hb2 => ?_
  ·
   have e9 : ZcD d = Zd3 d := by rw [ZcD, if_neg hb1, if_pos hb2]
   refine qso tb hJ [1001] [_,_] [_] ?_
   exact Zi (Qm (m := 0) rfl rfl (eI (e9.symm)))
  ·
   have e2 : Zd3 d = 0 := Zrj hb2
   have z2 := z6.2 e2
   replace hb2 := (Bool.not_eq_true _).mpr hb2
   refine tw (ob0 (congrArg (fun z' => OB.set keyS m1 (z')) (show z6.1.1 = d.consts from by rw [z2]))) ?_
   refine tw (ob1 (congrArg (fun z' => OB.set keyS m2 (z')) (show z6.1.2 = d.vars from by rw [z2]))) ?_
   refine Zf (nx (qso tb hJ [1,2,1000] [_] [_,_,_] ?_))
   refine Zo (ZN tb hJ [0,2,1001,1002,1003] [_,_,.int (d.frames.length : Nat),_] [2] [_,_,_,_,_] rfl ⟨YE XE, trivial⟩ ?_)
   refine Zg (tw (fun h => ZeR h (m := 1) (s := 5) rfl) ?_)
   refine lpo (ι := Nat × (List Hy) × (List ByteArray) × (List (ByteArray × Hy)) × (List (ByteArray × ByteArray))) (fun (k, bf, fs, hm, tm) => (k ≤ d.frames.length) ∧ (KInv d k fs hm tm bf) ∧ (∀ j, j < k → frE d j = 0)) (fun (_, _, fs, hm, tm) => [OB.set keyS m1 d.consts, OB.set keyS m2 d.vars, OB.mT m5 tm, OB.mH m4 hm, OB.set keyS m3 fs]) (fun (k, bf, _, _, _) => [(41, .int (k : Nat)), (5, .rd (Z4 bf))]) (fun (k, _, _, _, _) => d.frames.length - k) [1,2,3,4,0] [_,_,_] (0, [], ([] : List ByteArray), ([] : List (ByteArray × Hy)), ([] : List (ByteArray × ByteArray))) ⟨Nat.zero_le _, ZlQ d, fun j hj => by omega⟩ ?_
   rintro ⟨k, bf, fs, hm, tm⟩ ⟨f1_1, f1_2, f1_3⟩
   refine qso tb hJ [0,1,2,3,4,1000] [_] [_,_,_,_,_,_] ?_
   refine ln 4 fun hl2 => ?_
   refine cjS 5 (fun hb3 => ?_) fun hb3 => ?_
   ·
    try simp at hb3
    refine Zf (nx (Zo (Zg (tsq ?_))))
    refine sq (.ptr (frC (ge d.frames k))) rfl rfl (lb rfl) (fun _ _ h => Yc (i := (k : Int)) Yh rfl (h.get 1 rfl) (h.get 3 rfl) (Int.natCast_nonneg _) (Yo (xs := d.frames) (k := k) (by first | omega | (simp; omega) | grind [Zc])) rfl h.x) ?_
    refine snK 1 tb rfl ?_
    refine XZ (cs := frC (ge d.frames k)) Zm9 rfl rfl rfl (lb rfl) rfl rfl rfl (by decide) (m := 0) rfl rfl (fun a w h => Zr hS _ h.keep h.x _ (Nat.le_refl _)) (fun a w h w' hk' => Yl hJ _ _ hk' h.x) ?_
    refine seK [0,3,4,5,6,7] [_,_,_,_,_,_] rfl ?_
    refine nx (Zo (tsq ?_))
    refine snK 3 tb rfl ?_
    refine kw pm2 ?_
    refine kw pm3 ?_
    refine kw pm4 ?_
    refine kw pm4 ?_
    refine kw pm4 ?_
    refine Xr (O := [OB.set keyS m1 d.consts, OB.set keyS m2 d.vars, OB.set keyS m3 fs, OB.mH m4 hm, OB.mT m5 tm]) (R := []) (Zq1 hJ (M1 := m1) (M2 := m2) (M3 := m3) (M4 := m4) (M5 := m5) (cs := d.consts) (vs := d.vars) (fs := fs) (hm := hm) (tm := tm) (f := (ge d.frames k)) (bf := bf) (hw _ (Zc (by omega))) (hG)) Zsb rfl rfl rfl (lb rfl) hS hJ0 Zt (fun a w h => (Za (h.get 2 rfl) (Za (h.get 1 rfl) (Za (h.get 0 rfl) Ze)))) fun z7 => ?_
    refine snK 1 tb rfl ?_
    refine seK [0,5,6,7,8,9] [_,_,_,_,_,_] rfl ?_
    refine nx (qso tb hJ [0,1,2,3,4,5,1001] [_,_] [_,_,_,_,_,_,_] ?_)
    refine cj 6 (fun hb4 => ?_) fun hb4 => ?_
    ·
     have e4 : frE d k ≠ 0 := by rw [← Zcf f1_2 (by omega)]; exact Zri hb4
     have e9 : ZcD d = Zdw d.consts d.vars fs hm tm (ge d.frames k) bf := by rw [ZcD, if_neg hb1, if_neg hb2, Qr (by omega) f1_3 e4, Zcf f1_2 (by omega)]
     refine qso tb hJ [1001] [_,_] [_] ?_
     exact Zi (Qm (m := 0) rfl rfl (eI (e9.symm)))
    ·
     have e4 : frE d k = 0 := by rw [← Zcf f1_2 (by omega)]; exact Zrj hb4
     have z4 := z7.2 (Zrj hb4)
     refine Zf (nx (YW tb hJ [2,3,4,5,1001,1002] [_,.rd (Z4 (Qi (ge d.frames k).hyps)),_] [1] [_,_,_,_,_,_] rfl ⟨iFo hS hJ (Zco hJ (f := (ge d.frames k)) (by have := (Zfe e4).1; omega)) ZmE, trivial⟩ ?_))
     refine nx (ln 4 fun hl3 => ?_)
     refine YW tb hJ [0,1,2,5,1001] [.int (k + 1 : Nat),_] [0] [_,_,_,_,_] rfl ⟨Yv, trivial⟩ ?_
     refine kw pm2 ?_
     refine kw pm3 ?_
     refine kw pm4 ?_
     refine kw pm4 ?_
     refine kw pm4 ?_
     exact Xp (k + 1, (Qi (ge d.frames k).hyps), z7.1.1, z7.1.2.1, z7.1.2.2) [0,1,2,4,3] ⟨by omega, by rw [z4.1, z4.2.1]; exact ZlR f1_2 (by omega) e4 z4.2.2, Z2 f1_3 e4⟩
   ·
    try simp at hb3
    have e9 : ZcD d = 0 := by rw [ZcD, if_neg hb1, if_neg hb2]; exact Q3 fun j hj => f1_3 j (by omega)
    refine ZA (nx (qso tb hJ [1000] [_] [_] ?_))
    exact Zi (Qm (m := 0) rfl rfl (eI (e9.symm)))
end Go.Proofs.YtgifeodnngodiaaGreatDoor
