/-
  CONTRACTS of the program: the check of a database.
-/
import Derived.Test.YtapelgeodldlcaaGreatDoorXS
set_option maxHeartbeats 8000000
set_option maxRecDepth 100000
namespace Go.Proofs.YtapelgeodldlcaaGreatDoor
open Go.RowKit
theorem Zfr {J:World→Prop} (hJ:Stab J) (d:Db) (hw:∀ f∈d.frames,f.wide.length*32≤140737488351232) (hG:X8 J):Fn Tryz.prog J 8 [.agg (dbC d)] (.int (Qf d)):=by
 refine Zu (N:=55) Tryz.func8 rfl rfl (lb rfl) fun S w0 hS hJ0=>?_
 refine tw Yj ?_
 refine ZI tb hJ [1000] [.ptr (dbC d),_] [0] [_] rfl ⟨fun _ _ hk hx hl _=>YP rfl (hl.env 0 0 _ rfl rfl) (Zr hS _ hk hx _ (Nat.le_refl _)) (jo hJ hx),trivial⟩ ?_
 refine Zj (ZI tb hJ [0,1001,1015] [_,_,.int (d.frames.length:Nat),_,_,_,_,.int (d.consts.length:Nat),_,_,_,_,_,.int (d.vars.length:Nat),_,_] [2,7,13] [_,_,_] rfl ⟨YG YK,YG Zv,YG Zv,trivial⟩ ?_)
 refine ln 1 fun hl1=>?_
 refine cj 2 (fun hb1=>?_) fun hb1=>?_
 ·
  have e9:Qf d=8:=by rw[Qf,if_pos hb1]
  refine qso tb hJ [1000] [_] [_] ?_
  exact Zg (Qw (m:=0) rfl rfl (eI (e9.symm)))
 ·
  replace hb1:=(Bool.not_eq_true _).mpr hb1
  refine Zc (nx (tsq ?_))
  refine QC keyS hJ rfl rfl rfl (lb rfl) fun m1=>?_
  refine QC keyS hJ rfl rfl rfl (lb rfl) fun m2=>?_
  refine QC keyS hJ rfl rfl rfl (lb rfl) fun m3=>?_
  refine ZeJ keyS (fun z':Hy=>AV.agg (hyC z')) hJ rfl rfl rfl (lb rfl) fun m4=>?_
  refine ZeJ keyS (fun z':ByteArray=>AV.str z') hJ rfl rfl rfl (lb rfl) fun m5=>?_
  refine sq (.agg [.lit (.map (some m1)),.lit (.map (some m2)),.lit (.map (some m3)),.lit (.map (some m4)),.lit (.map (some m5))]) rfl rfl (lb rfl) (fun a _ h=>ZbI (us:=[a.eval (Go.Operand.tmp 25),a.eval (Go.Operand.tmp 26),a.eval (Go.Operand.tmp 27),a.eval (Go.Operand.tmp 28),a.eval (Go.Operand.tmp 29)]) Zk6 rfl (by simp) (Zz (h.get 4 rfl) (Zz (h.get 3 rfl) (Zz (h.get 2 rfl) (Zz (h.get 1 rfl) (Zz (h.get 0 rfl) Yb))))) rfl h.x) ?_
  refine sq (.ptr (mpC [m1,m2,m3,m4,m5])) rfl rfl (lb rfl) (fun _ _ h=>YP rfl (h.get 0 rfl) (Zr hS _ h.keep h.x _ (Nat.le_refl _)) (jo hJ h.x)) ?_
  refine snK 1 tb rfl ?_
  refine seK [0,8] [_,_] rfl ?_
  refine nx (Zj (tsq ?_))
  refine snK 2 tb rfl ?_
  refine kw pm2 ?_
  refine kw pm2 ?_
  refine kw pm2 ?_
  refine kw pm3 ?_
  refine kw pm4 ?_
  refine Y7 (O:=[OB.set keyS m1 ([]:List ByteArray),OB.set keyS m2 ([]:List ByteArray)]) (R:=[OB.mT m5 ([]:List (ByteArray×ByteArray)),OB.mH m4 ([]:List (ByteArray×Hy)),OB.set keyS m3 ([]:List ByteArray)]) (Zmy hJ (M1:=m1) (M2:=m2) (M3:=m3) (M4:=m4) (M5:=m5) (d:=d) ) ZuA rfl rfl rfl (lb rfl) hS hJ0 Zq (fun a w h=>(Za (h.get 1 rfl) (Za (h.get 0 rfl) Ze))) fun z6=>?_
  refine snK 1 tb rfl ?_
  refine seK [0,4,5] [_,_,_] rfl ?_
  refine nx (qso tb hJ [0,1,2,1001] [_,_] [_,_,_,_] ?_)
  refine cj 3 (fun hb2=>?_) fun hb2=>?_
  ·
   have e9:Qf d=Zeq d:=by rw[Qf,if_neg hb1,if_pos hb2]
   refine qso tb hJ [1001] [_,_] [_] ?_
   exact Zg (Qw (m:=0) rfl rfl (eI (e9.symm)))
  ·
   have e2:Zeq d=0:=ZhW hb2
   have z2:=z6.2 e2
   replace hb2:=(Bool.not_eq_true _).mpr hb2
   refine tw (ob0 (congrArg (fun z'=>OB.set keyS m1 (z')) (show z6.1.1=d.consts from by rw[z2]))) ?_
   refine tw (ob1 (congrArg (fun z'=>OB.set keyS m2 (z')) (show z6.1.2=d.vars from by rw[z2]))) ?_
   refine Zc (nx (qso tb hJ [1,2,1000] [_] [_,_,_] ?_))
   refine Zj (ZI tb hJ [0,2,1001,1002,1003] [_,_,.int (d.frames.length:Nat),_] [2] [_,_,_,_,_] rfl ⟨YG YK,trivial⟩ ?_)
   refine Zf (tw (fun h=>Zao h (m:=1) (s:=5) rfl) ?_)
   refine lpo (ι:=Nat×(List Hy)×(List ByteArray)×(List (ByteArray×Hy))×(List (ByteArray×ByteArray))) (fun(k,bf,fs,hm,tm)=>(k≤d.frames.length)∧(KInv d k fs hm tm bf)∧(∀ j,j<k→frE d j=0)) (fun(_,_,fs,hm,tm)=>[OB.set keyS m1 d.consts,OB.set keyS m2 d.vars,OB.mT m5 tm,OB.mH m4 hm,OB.set keyS m3 fs]) (fun(k,bf,_,_,_)=>[(41,.int (k:Nat)),(5,.rd (YW bf))]) (fun(k,_,_,_,_)=>d.frames.length-k) [1,2,3,4,0] [_,_,_] (0,[],([]:List ByteArray),([]:List (ByteArray×Hy)),([]:List (ByteArray×ByteArray))) ⟨Nat.zero_le _,Znd d,fun j hj=>by omega⟩ ?_
   rintro⟨k,bf,fs,hm,tm⟩ ⟨f1_1,f1_2,f1_3⟩
   refine qso tb hJ [0,1,2,3,4,1000] [_] [_,_,_,_,_,_] ?_
   refine ln 4 fun hl2=>?_
   refine cjS 5 (fun hb3=>?_) fun hb3=>?_
   ·
    try simp at hb3
    refine Zc (nx (Zj (Zf (tsq ?_))))
    refine sq (.ptr (frC (ge d.frames k))) rfl rfl (lb rfl) (fun _ _ h=>Yg (i:=(k:Int)) Ye rfl (h.get 1 rfl) (h.get 3 rfl) (Int.natCast_nonneg _) (Yy (xs:=d.frames) (k:=k) sfz) rfl h.x) ?_
    refine snK 1 tb rfl ?_
    refine Qi (cs:=frC (ge d.frames k)) ZoA rfl rfl rfl (lb rfl) rfl rfl rfl (by decide) (m:=0) rfl rfl (fun a w h=>Zr hS _ h.keep h.x _ (Nat.le_refl _)) (fun a w h w' hk'=>Yw hJ _ _ hk' h.x) ?_
    refine seK [0,3,4,5,6,7] [_,_,_,_,_,_] rfl ?_
    refine nx (Zj (tsq ?_))
    refine snK 3 tb rfl ?_
    refine kw pm2 ?_
    refine kw pm3 ?_
    refine kw pm4 ?_
    refine kw pm4 ?_
    refine kw pm4 ?_
    refine Y7 (O:=[OB.set keyS m1 d.consts,OB.set keyS m2 d.vars,OB.set keyS m3 fs,OB.mH m4 hm,OB.mT m5 tm]) (R:=[]) (ZsW hJ (M1:=m1) (M2:=m2) (M3:=m3) (M4:=m4) (M5:=m5) (cs:=d.consts) (vs:=d.vars) (fs:=fs) (hm:=hm) (tm:=tm) (f:=(ge d.frames k)) (bf:=bf) (hw _ (ZF (by omega))) (hG)) Zuz rfl rfl rfl (lb rfl) hS hJ0 Zq (fun a w h=>(Za (h.get 2 rfl) (Za (h.get 1 rfl) (Za (h.get 0 rfl) Ze)))) fun z7=>?_
    refine snK 1 tb rfl ?_
    refine seK [0,5,6,7,8,9] [_,_,_,_,_,_] rfl ?_
    refine nx (qso tb hJ [0,1,2,3,4,5,1001] [_,_] [_,_,_,_,_,_,_] ?_)
    refine cj 6 (fun hb4=>?_) fun hb4=>?_
    ·
     have e4:frE d k≠0:=by rw[←ZcC f1_2 (by omega)];exact Zji hb4
     have e9:Qf d=Zd1 d.consts d.vars fs hm tm (ge d.frames k) bf:=by rw[Qf,if_neg hb1,if_neg hb2,QA (by omega) f1_3 e4,ZcC f1_2 (by omega)]
     refine qso tb hJ [1001] [_,_] [_] ?_
     exact Zg (Qw (m:=0) rfl rfl (eI (e9.symm)))
    ·
     have e4:frE d k=0:=by rw[←ZcC f1_2 (by omega)];exact ZhW hb4
     have z4:=z7.2 (ZhW hb4)
     refine Zc (nx (YQ tb hJ [2,3,4,5,1001,1002] [_,.rd (YW (Qq (ge d.frames k).hyps)),_] [1] [_,_,_,_,_,_] rfl ⟨iFo hS hJ (ZcL hJ (f:=(ge d.frames k)) (by have:=(ZjC e4).1;omega)) Zn7,trivial⟩ ?_))
     refine nx (ln 4 fun hl3=>?_)
     refine YQ tb hJ [0,1,2,5,1001] [.int (k+1:Nat),_] [0] [_,_,_,_,_] rfl ⟨Yv,trivial⟩ ?_
     refine kw pm2 ?_
     refine kw pm3 ?_
     refine kw pm4 ?_
     refine kw pm4 ?_
     refine kw pm4 ?_
     exact Xi (k+1,(Qq (ge d.frames k).hyps),z7.1.1,z7.1.2.1,z7.1.2.2) [0,1,2,4,3] ⟨by omega,by rw[z4.1,z4.2.1];exact Zne f1_2 (by omega) e4 z4.2.2,ZZ f1_3 e4⟩
   ·
    try simp at hb3
    have e9:Qf d=0:=by rw[Qf,if_neg hb1,if_neg hb2];exact Zae fun j hj=>f1_3 j (by omega)
    refine Zx (nx (qso tb hJ [1000] [_] [_] ?_))
    exact Zg (Qw (m:=0) rfl rfl (eI (e9.symm)))
end Go.Proofs.YtapelgeodldlcaaGreatDoor
