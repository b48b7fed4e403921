/-
  CONTRACTS of the program: substitution.
  THE ENGINE: a difference of two lengths.
  THE ENGINE: elements of the tail of an own row, by address; appends to what was clipped.
-/
import Derived.Test.YtaigaoflehfdcaaGreatDoorZGU
import Derived.Test.YtaigaoflehfdcaaGreatDoorZGV
import Derived.Tactics2
import Derived.TacticsInMore
set_option maxHeartbeats 8000000
set_option maxRecDepth 100000
namespace Go.Proofs.YtaigaoflehfdcaaGreatDoor
open Go.Proofs.Tryz (prog)
open Go.RowKit
section
variable {J:WP} (hJ:Stab J)
include hJ
theorem Zm0 (l:List Bd)  :FnM (ι:=Nat) prog J 156 [] [.rd (ZdH l)] [] (fun i'=>.lit (.map (some (i')))) (fun i'=>[OB.map keyS (fun z':List BA=>AV.rd (Zi z')) (i') (ZW l)]):=by
 refine fEM Tryz.func156 fun S w0 R hS hJ0 hH=>?_
 refine Xq (B:=So J S w0 31 (R) [(0,.rd (ZdH l))]) ?_ fun a w h=>h
 refine ln 0 fun hl1=>?_
 refine ZE tb hJ [0] [.rd (.lit (.map none))] [0] [_] rfl ⟨fun _ _ _ hx _ _=>Xk rfl (Rel.of_lit (.map none)) hx,trivial⟩ ?_
 refine tsq (Zhg keyS (fun z':List BA=>AV.rd (Zi z')) hJ rfl rfl rfl (lb rfl) fun m1=>?_)
 refine snK 1 tb rfl (seK [0,2] U2 rfl ?_)
 refine nx (Zd (ZE tb hJ [0,1000,1001,1002] [_,.int (l.length:Nat),_] [1] U4 rfl ⟨ZX Zdf,trivial⟩ ?_))
 refine Zc (lpo (ι:=Nat×(List (BA×List BA))) (fun(k,bm)=>(k≤l.length)∧(bm=ZW (l.take k))) (fun(_,bm)=>(OB.map keyS (fun z':List BA=>AV.rd (Zi z')) m1 bm::R)) (fun(k,_)=>[(11,.int (k:Nat))]) (fun(k,_)=>l.length-k) [0,1,2,3] U3 (0,([]:List (BA×List BA))) ⟨nzl,rfl⟩ ?_)
 rintro⟨k,bm⟩ ⟨f1_1,f1_2⟩
 refine qso tb hJ [0,1,2,3,1000] [_] U5 ?_
 refine cjS 4 (fun hb1=>?_) fun hb1=>?_
 ·
  try simp at hb1
  refine Za (nx (Zd (Zc (tsq (sy (.ptr (bdC (ge l k))) (fun h=>ZK (i:=(k:Int)) Xi rfl (h.get 1 rfl) (h.get 3 rfl) nnn (ZR (xs:=l) (k:=k) sfz) rfl h.x) ?_)))))
  refine snK 1 tb rfl (Qn (cs:=bdC (ge l k)) Zma rfl rfl rfl (lb rfl) rfl rfl rfl dz (m:=0) rfl rfl (fun a w h=>Zy hS _ h.keep h.x _ nlr) (fun a w h w' hk'=>YL hJ _ _ hk' h.x) ?_)
  refine seK [0,3,4,5,6] U5 rfl (nx (ZE tb hJ (r5 [1005,1007,1008]) (V3 [.tup [.rd (Zi ((Z8 bm ((ge l k).var)).getD default)),.bool ((Z8 bm ((ge l k).var)).isSome)],_,_,_,_,_]) [3] U8 rfl ⟨fun _ _ _ hx hl _=>Qo (Kd:=keyS) (f:=(fun z':List BA=>AV.rd (Zi z'))) (L:=bm) ZaF Zb7 ((ge l k).var) rfl (Zu hx (mo 0 rfl)) (hl.D 0 16 rfl rfl) (hl.D 2 18 rfl rfl) hx,trivial⟩ ?_))
  refine ln 5 fun hl2=>?_
  refine qso tb hJ (r5 [1001]) U2 U6 ?_
  refine cj 5 (fun hb2=>?_) fun hb2=>?_
  ·
   try simp at hb2
   refine Ya (snK 5 tb rfl (Zmn (f:=(fun z':List BA=>AV.rd (Zi z'))) ZaF hJ hJ0 ((ge l k).var) ((ge l k).text) rfl rfl (.inl rfl) (fun a w h=>⟨(h.get 4 rfl),(h.get 2 rfl),(h.get 0 rfl)⟩) ?_))
   refine seK [0,6,7,8,9] U5 rfl (nx (ln 0 fun hl3=>?_))
   refine YA tb hJ [1,2,3,1001] [.int (k+1:Nat),_] [0] U4 rfl ⟨Yf,trivial⟩ ?_
   exact YK (k+1,ZaQ bm ((ge l k).var) ((ge l k).text)) [0,1,2,3] ⟨oz,by rw[Zid oz,←f1_2];simp[ZsG,hb2]⟩
  ·
   try simp at hb2
   refine Za (nx (YA tb hJ [1,2,3,1001] [.int (k+1:Nat),_] [0] U4 rfl ⟨Yf,trivial⟩ ?_))
   exact YK (k+1,bm) [0,1,2,3] ⟨oz,by rw[Zid oz,←f1_2];simp[ZsG,hb2]⟩
 ·
  try simp at hb1
  refine Zp (nx (qso tb hJ [1001] U2 [_] ?_))
  exact tw (ob0 (congrArg (fun z'=>OB.map keyS (fun z':List BA=>AV.rd (Zi z')) m1 (z')) (show bm=(ZW l)from by rw[f1_2,Zz oz]))) (ZB (fun a w h=>Yl  (m:=0) m1 rfl h rfl rfl))
theorem Zen (M:Nat) (bm:List (BA×List BA)) (s:BA)  :FnR prog J 157 [OB.map keyS (fun z':List BA=>AV.rd (Zi z')) M bm] [.lit (.map (some M)),.str s] (.rd (Zi (Yt bm s))):=by
 refine fER Tryz.func157 fun S w0 hS hJ0 hH=>?_
 clear hJ0
 refine qs tb hJ [0,1] [_] U2 ?_
 refine Zd (hqs tb hJ [1,1004,1006,1007] [_,_,.tup [.rd (Zi ((Z8 bm s).getD default)),.bool ((Z8 bm s).isSome)],_,_,_,_,_] [2] U4 rfl ⟨fun _ _ hk hx hl _=>Qo (Kd:=keyS) (f:=(fun z':List BA=>AV.rd (Zi z'))) (L:=bm) ZaF Zb7 s rfl (YN hH hk (mo 0 rfl)) (hl.D 0 8 rfl rfl) (hl.D 1 9 rfl rfl) hx,trivial⟩ ?_)
 refine ln 1 fun hl1=>?_
 refine qs tb hJ [0,2,1000] [_] U3 ?_
 refine cj 2 (fun hb1=>?_) fun hb1=>?_
 ·
  try simp at hb1
  refine qs tb hJ [1001] U2 [_] ?_
  exact tRn 0 (hE:=congrArg (fun z=>AV.rd (Zi z)) (show((Z8 bm s).getD default)=(Yt bm s)from by cases h9:Z8 bm s<;>simp_all[Yt]))
 ·
  try simp at hb1
  refine Za (nx (hqs tb hJ [1001,1002] [_,.rd (Zi ([s])),_] [1] U2 rfl ⟨fun _ _ hk hx hl _=>Yw Zf QI rfl (hl.D 0 15 rfl rfl) (hS _ hk.size) (js hJ hx),trivial⟩ ?_))
  refine ln 0 fun hl2=>?_
  exact tRn 1 (hE:=congrArg (fun z=>AV.rd (Zi z)) (show([s])=(Yt bm s)from by cases h9:Z8 bm s<;>simp_all[Yt]))
theorem Ztm (M:Nat) (bm:List (BA×List BA)) (t:List BA) (hb:(Xm bm t).length≤2000):FnR prog J 158 [OB.map keyS (fun z':List BA=>AV.rd (Zi z')) M bm] [.lit (.map (some M)),.rd (Zi t)] (.rd (Zi (Xm bm t))):=by
 refine fER Tryz.func158 fun S w0 hS hJ0 hH=>?_
 refine tw Z6 (ln 1 fun hl1=>?_)
 refine qso tb hJ [0,1] [_] U2 ?_
 refine qso tb hJ [0,1,1000] [_] U3 ?_
 refine Zd (ZE tb hJ [0,2,1000,1001,1002] [_,.int (t.length:Nat),_] [1] U5 rfl ⟨ZX Zs,trivial⟩ ?_)
 refine Zc (tw (YJ 9 1 hJ) (lpo (ι:=Nat×Value×(List BA)) (fun(k,_,out)=>(k≤t.length)∧(out=Xm bm (t.take k))) (fun(_,v,out)=>[OB.row v 9 1 (out.map Q3)]) (fun(k,v,_)=>[(10,.int (k:Nat)),(5,.lit v)]) (fun(k,_,_)=>t.length-k) [0,2,3,4,1] U3 (0,(.slice none 0 0),([]:List BA)) ⟨nzl,rfl⟩ ?_))
 rintro⟨k,v,out⟩ ⟨f1_1,f1_2⟩
 refine qso tb hJ (r5 [1000]) [_] U6 ?_
 refine cjS 5 (fun hb1=>?_) fun hb1=>?_
 ·
  try simp at hb1
  refine Za (nx (Zd (Zc (ZE tb hJ (r5 [1002]) [.ptr [lS (ge t k)],_,_] [0] U6 rfl ⟨iIx Zf,trivial⟩ ?_))))
  refine Ya (snK 3 tb rfl (sy (.rd (Zi (Yt bm (ge t k)))) (fun h=>Y6 (Zen hJ M bm (ge t k)) ZcF rfl (Zy hS _ h.keep h.x) (h.x.1) (ZT (ZS hH h.keep h.x (mo 0 rfl)) ZI) (Zb (h.get 1 rfl) (Zb (h.get 0 rfl) Zk)) (jo hJ h.x)) ?_))
  refine Z2 (f:=Q3) (m:=3) (s:=14) out (Yt bm (ge t k)) (fun _=>rfl) Y3 hJ hJ0 rfl rfl rfl (lb rfl) rfl rfl (fun a w h=>(h.get 0 rfl)) (by have h9:=Xu bm t (k+1);rw[YX oz,List.length_append,←f1_2]at h9;omega) (by have h9:=Xu bm t (k+1);rw[YX oz,List.length_append,←f1_2]at h9;omega) fun v1=>?_
  refine snK 1 tb rfl (seK [0,2,6,7,8,9] U6 rfl ?_)
  refine nx (ln 1 fun hl2=>?_)
  refine YA tb hJ [0,2,3,4,1001] [.int (k+1:Nat),_] [0] U5 rfl ⟨Yf,trivial⟩ ?_
  exact YK (k+1,v1,out++(Yt bm (ge t k))) [1,2,3,4,0] ⟨oz,by rw[YX oz,←f1_2]⟩
 ·
  try simp at hb1
  refine Zp (nx (qso tb hJ [1001] U2 [_] ?_))
  exact tw (fun h=>ZF hS h (m:=0) (s:=4) rfl) (tRo 0 (hE:=congrArg (fun z=>AV.rd (Zi z)) (show out=(Xm bm t)from by rw[f1_2,Zz oz])))
theorem ZpK (l:List BA)  :FnM (ι:=Nat) prog J 203 [] [.rd (Zi l)] [] (fun i'=>.lit (.map (some (i')))) (fun i'=>[OB.set keyS (i') (Qe l)]):=by
 refine fEM Tryz.func203 fun S w0 R hS hJ0 hH=>?_
 refine Xq (B:=So J S w0 17 (R) [(0,.rd (Zi l))]) ?_ fun a w h=>h
 refine ln 0 fun hl1=>?_
 refine ZE tb hJ [0] [.rd (.lit (.map none))] [0] [_] rfl ⟨fun _ _ _ hx _ _=>Xk rfl (Rel.of_lit (.map none)) hx,trivial⟩ ?_
 refine tsq (ZbR keyS hJ rfl rfl rfl (lb rfl) fun m1=>?_)
 refine snK 1 tb rfl (seK [0,2] U2 rfl ?_)
 refine nx (Zd (ZE tb hJ [0,1000,1001,1002] [_,.int (l.length:Nat),_] [1] U4 rfl ⟨ZX Zs,trivial⟩ ?_))
 refine Zc (lpo (ι:=Nat×(List BA)) (fun(k,ys)=>(k≤l.length)∧(ys=Qe (l.take k))) (fun(_,ys)=>(OB.set keyS m1 ys::R)) (fun(k,_)=>[(9,.int (k:Nat))]) (fun(k,_)=>l.length-k) [0,1,2,3] U3 (0,([]:List BA)) ⟨nzl,rfl⟩ ?_)
 rintro⟨k,ys⟩ ⟨f1_1,f1_2⟩
 refine qso tb hJ [0,1,2,3,1000] [_] U5 ?_
 refine cjS 4 (fun hb1=>?_) fun hb1=>?_
 ·
  try simp at hb1
  refine Za (nx (Zd (Zc (ZE tb hJ [0,1,2,3,1002] [.ptr [lS (ge l k)],_,_] [0] U5 rfl ⟨iIx Zf,trivial⟩ ?_))))
  refine Ya (snK 2 tb rfl (ZcV Q8 hJ hJ0 (ge l k) rfl rfl (.inl rfl) (fun a w h=>⟨(h.get 1 rfl),(h.get 0 rfl),(Rel.of_lit (.bool true))⟩) ?_))
  refine seK [2,3,4,5] U4 rfl (nx (YA tb hJ [0,1,2,1001] [.int (k+1:Nat),_] [0] U4 rfl ⟨Yf,trivial⟩ ?_))
  exact YK (k+1,Qr ys (ge l k)) [0,1,2,3] ⟨oz,by rw[Znk oz,←f1_2]⟩
 ·
  try simp at hb1
  refine Zp (nx (qso tb hJ [1001] U2 [_] ?_))
  exact tw (ob0 (congrArg (fun z'=>OB.set keyS m1 (z')) (show ys=(Qe l)from by rw[f1_2,Zz oz]))) (ZB (fun a w h=>Yl  (m:=0) m1 rfl h rfl rfl))
theorem Zdo (M:Nat) (vs t:List BA) (hb:t.length≤2000):FnR prog J 204 [OB.set keyS M vs] [.rd (Zi t),.lit (.map (some M))] (.rd (Zi (Qb t vs))):=by
 refine fER Tryz.func204 fun S w0 hS hJ0 hH=>?_
 refine tw Z6 (ln 0 fun hl1=>?_)
 refine qso tb hJ [0,1] [_] U2 ?_
 refine qso tb hJ [0,1,1000] [_] U3 ?_
 refine tsq (ZbR keyS hJ rfl rfl rfl (lb rfl) fun m1=>?_)
 refine snK 1 tb rfl (seK [0,2,3,4] U4 rfl ?_)
 refine nx (Zd (ZE tb hJ [0,2,3,1000,1001,1002] [_,.int (t.length:Nat),_] [1] U6 rfl ⟨ZX Zs,trivial⟩ ?_))
 refine Zc (tw (YJ 9 1 hJ) (lpo (ι:=Nat×Value×(List BA)×(List BA)) (fun(k,_,out,ys)=>(k≤t.length)∧(out=Qb (t.take k) vs)∧(ys=out)∧(out.length≤k)) (fun(_,v,out,ys)=>[OB.row v 9 1 (out.map Q3),OB.set keyS m1 ys]) (fun(k,v,_,_)=>[(12,.int (k:Nat)),(5,.lit v)]) (fun(k,_,_,_)=>t.length-k) [0,1,3,4,5,2] U4 (0,(.slice none 0 0),([]:List BA),([]:List BA)) ⟨nzl,rfl,rfl,Nat.le_refl _⟩ ?_))
 rintro⟨k,v,out,ys⟩ ⟨f1_1,f1_2,f1_3,f1_4⟩
 refine qso tb hJ (r6 [1000]) [_] U7 ?_
 refine cjS 6 (fun hb1=>?_) fun hb1=>?_
 ·
  try simp at hb1
  refine Za (nx (Zd (Zc (ZE tb hJ (r6 [1002]) [.ptr [lS (ge t k)],_,_] [0] U7 rfl ⟨iIx Zf,trivial⟩ ?_))))
  refine ZE tb hJ [0,1,2,3,4,5,6,1008] [_,_,.bool (decide ((ge t k)∈vs)),_,_,_,.bool (decide ((ge t k)∈ys)),_,_] [2,6] U8 rfl ⟨fun _ _ hk hx hl _=>YG (Kd:=keyS) (xs:=vs) Q8 Yi (ge t k) rfl (ZS hH hk hx (mo 0 rfl)) (hl.D 0 16 rfl rfl) (hl.D 1 17 rfl rfl) hx,fun _ _ _ hx hl hc=>YG (Kd:=keyS) (xs:=ys) Q8 Yi (ge t k) rfl (Zu hx (mo 1 rfl)) (hl.D 4 20 rfl hc) (hl.D 5 21 rfl hc) hx,trivial⟩ ?_
  refine cj 7 (fun hb2=>?_) fun hb2=>?_
  ·
   try simp at hb2
   refine tsq (snK 2 tb rfl (kw pm1 ?_))
   refine ZcV Q8 hJ hJ0 (ge t k) rfl rfl (.inl rfl) (fun a w h=>⟨(h.get 1 rfl),(h.get 0 rfl),(Rel.of_lit (.bool true))⟩) ?_
   refine seK [2,3,4,5,6,7,8] U7 rfl (nx (Ya (snK 2 tb rfl ?_)))
   refine sy (.rd (Zi ([(ge t k)]))) (fun h=>Yw Zf QI rfl (h.get 0 rfl) (Zy hS _ h.keep h.x _ nlr) (jo hJ h.x)) ?_
   refine kw pm1 (Z2 (f:=Q3) (m:=2) (s:=27) out ([(ge t k)]) (fun _=>rfl) Y3 hJ hJ0 rfl rfl rfl (lb rfl) rfl rfl (fun a w h=>(h.get 0 rfl)) sfz sfz fun v2=>?_)
   refine snK 1 tb rfl (seK [0,2,5,6,7,8,9] U7 rfl ?_)
   refine nx (ln 1 fun hl2=>?_)
   refine YA tb hJ [0,2,3,4,5,1001] [.int (k+1:Nat),_] [0] U6 rfl ⟨Yf,trivial⟩ ?_
   exact YK (k+1,v2,out++([(ge t k)]),Qr ys (ge t k)) [1,2,3,4,5,0] ⟨oz,by rw[Zcr oz,←f1_2];subst f1_3;simp_all[ZhF],by subst f1_3;simp_all[Qr],by simp;omega⟩
  ·
   try simp at hb2
   refine Za (nx (YA tb hJ [0,1,2,3,5,1001] [.int (k+1:Nat),_] [0] U6 rfl ⟨Yf,trivial⟩ ?_))
   exact YK (k+1,v,out,ys) [0,1,2,3,5,4] ⟨oz,by rw[Zcr oz,←f1_2];subst f1_3;simp[ZhF];grind,f1_3,oz⟩
 ·
  try simp at hb1
  refine Zp (nx (qso tb hJ [1001] U2 [_] ?_))
  exact tw (fun h=>ZF hS h (m:=0) (s:=4) rfl) (tRo 0 (hE:=congrArg (fun z=>AV.rd (Zi z)) (show out=(Qb t vs)from by rw[f1_2,Zz oz])))
theorem p_Fits (t:List BA) (l:List Bd) (x:List BA)  :Fn prog J 109 [.rd (Zi t),.rd (ZdH l),.rd (Zi x)] (.bool (ZoR t l x)):=by
 refine fE Tryz.func109 fun S w0 hS hJ0=>?_
 refine tw Z6 (ln 0 fun hl1=>?_)
 refine ln 1 fun hl2=>?_
 refine ln 2 fun hl3=>?_
 refine qso tb hJ [0,1,2] [_] U3 ?_
 refine Zo8 (tsq (snK 1 tb rfl (ZaZ (O:=[]) (R:=[]) (Zm0 hJ l) ZgG rfl rfl rfl (lb rfl) hS hJ0 ZI (fun a w h=>(Zb (h.get 0 rfl) Zk)) fun z1=>?_)))
 refine snK 1 tb rfl (seK [0,3,5] U3 rfl ?_)
 refine nx (qso tb hJ [0,1,2,1000] [_] U4 ?_)
 refine Zd (Zo9 (nx (Zd (ZE tb hJ [0,2,3,1000,1001,1002] [_,.int (t.length:Nat),_] [1] U6 rfl ⟨ZX Zs,trivial⟩ ?_))))
 refine Zc (lpo (ι:=Nat×Nat) (fun(k,p)=>(k≤t.length)∧(p≤x.length)∧(x.take p=Xm (ZW l) (t.take k))) (fun(_,_)=>[OB.map keyS (fun z':List BA=>AV.rd (Zi z')) z1 (ZW l)]) (fun(k,p)=>[(17,.int (k:Nat)),(8,.int (p:Nat))]) (fun(k,_)=>t.length-k) [0,1,3,4,5,2] U4 (0,0) ⟨nzl,nzl,rfl⟩ ?_)
 rintro⟨k,p⟩ ⟨f1_1,f1_2,f1_3⟩
 refine qso tb hJ (r6 [1000]) [_] U7 ?_
 refine cjS 6 (fun hb1=>?_) fun hb1=>?_
 ·
  try simp at hb1
  refine Za (nx (Zd (Zc (ZE tb hJ (r6 [1002]) [.ptr [lS (ge t k)],_,_] [0] U7 rfl ⟨iIx Zf,trivial⟩ ?_))))
  refine ZE tb hJ (r6 [1002,1003,1004]) [_,_,.rd (Zi (Yt (ZW l) (ge t k))),.int ((Yt (ZW l) (ge t k)).length:Nat),_] [2,3] U9 rfl ⟨fun _ _ hk hx hl _=>Y6 (Zen hJ z1 (ZW l) (ge t k)) ZcF rfl (Zy hS _ hk hx) (hx.1) (ZT (Zu hx (mo 0 rfl)) ZI) (Zb (hl.D 0 21 rfl rfl) (Zb (hl.D 1 22 rfl rfl) Zk)) (jo hJ hx),ZX Zs,trivial⟩ ?_
  refine ln 6 fun hl4=>?_
  refine Zc (lpo (ι:=Nat×Nat) (fun(j,q)=>(j≤(Yt (ZW l) (ge t k)).length)∧(q≤x.length)∧(x.take q=Xm (ZW l) (t.take k)++(Yt (ZW l) (ge t k)).take j)) (fun(_,_)=>[OB.map keyS (fun z':List BA=>AV.rd (Zi z')) z1 (ZW l)]) (fun(j,q)=>[(25,.int (j:Nat)),(8,.int (q:Nat))]) (fun(j,_)=>(Yt (ZW l) (ge t k)).length-j) (r5 [6,7,8,5]) U7 (0,p) ⟨nzl,f1_2,by simpa using f1_3⟩ ?_)
  rintro⟨j,q⟩ ⟨f2_1,f2_2,f2_3⟩
  refine qso tb hJ [0,1,2,3,4,5,6,7,8,1000] [_] U10 ?_
  refine cjS 9 (fun hb2=>?_) fun hb2=>?_
  ·
   try simp at hb2
   refine Za (nx (Zd (Zc (ZE tb hJ [0,1,2,3,4,5,6,7,8,1002] [.ptr [lS (ge (Yt (ZW l) (ge t k)) j)],_,_] [0] U10 rfl ⟨iIx Zf,trivial⟩ ?_))))
   refine Zd (ZE tb hJ [0,1,2,3,4,5,6,7,8,1011] [_,_,.int (x.length:Nat),_,_,_,_,.ptr [lS (ge x q)],_,_,_,_] [2,7] U10 rfl ⟨ZX Zs,gIx Zf (hk:=fun(hc':((decide ((q:Int)=(x.length:Int)))==false)=true)=>by(try simp at hc');first | omega | (simp;omega) | grind[Zj]),trivial⟩ ?_)
   refine cj 9 (fun hb3=>?_) fun hb3=>?_
   ·
    try simp at hb3
    have e3:q=x.length∨ ¬ ge x q=ge (Yt (ZW l) (ge t k)) j:=by grind
    refine qso tb hJ [1,1000] [_] U2 ?_
    refine Zp (nx (ZE tb hJ [1004] [_,_,.int (x.length:Nat),_,_] [2] [_] rfl ⟨ZX Zs,trivial⟩ ?_))
    exact tRo 0 (hE:=eB (by rw[ZoR,decide_eq_false oz,decide_eq_false (fit_no oz hb2 f2_3 f2_2 e3)]))
   ·
    try simp at hb3
    have e3:q<x.length∧ge x q=ge (Yt (ZW l) (ge t k)) j:=by grind
    refine Za (nx (YA tb hJ [0,1,2,3,4,5,6,7,1002] [_,.int (q+1:Nat),_] [1] U9 rfl ⟨Yf,trivial⟩ ?_))
    refine nx (YA tb hJ [0,1,2,3,4,5,6,8,1001] [.int (j+1:Nat),_] [0] U9 rfl ⟨Yf,trivial⟩ ?_)
    exact YK (j+1,q+1) [0,1,2,3,4,5,6,8,7] ⟨oz,oz,by rw[Z1 e3.1,Z1 hb2,←List.append_assoc,←f2_3,e3.2]⟩
  ·
   try simp at hb2
   refine Zp (nx (YA tb hJ [0,1,2,3,8,1001] [.int (k+1:Nat),_] [0] U6 rfl ⟨Yf,trivial⟩ ?_))
   exact YK (k+1,q) [0,1,2,3,5,4] ⟨oz,f2_2,by rw[YX oz,f2_3,Zz (xs:=Yt (ZW l) (ge t k)) oz]⟩
 ·
  try simp at hb1
  refine Zp (nx (ZE tb hJ [1004] [_,_,.int (x.length:Nat),_,_] [2] [_] rfl ⟨ZX Zs,trivial⟩ ?_))
  exact tRo 0 (hE:=eB (by rw[ZoR,ZnZ (by rw[f1_3,Zz oz]) f1_2]))
theorem Zm1 (t:List BA) (l:List Bd) (n:Nat) (hn:n≤2000) (hl:∀ b∈l,b.text.length≤2000):Fn prog J 110 [.rd (Zi t),.rd (ZdH l),.int (n:Nat)] (.tup [.rd (Zi (if ZaR (ZW l) t n then Xm (ZW l) t else [])),.int (if ZaR (ZW l) t n then 0 else 15)]):=by
 refine fE Tryz.func110 fun S w0 hS hJ0=>?_
 refine tw Z6 (ln 0 fun hl1=>?_)
 refine ln 1 fun hl2=>?_
 refine qso tb hJ [0,1,2] U2 U3 ?_
 refine Zd (qso tb hJ [0,1,2,1001] U2 U4 ?_)
 refine cj 3 (fun hb1=>?_) fun hb1=>?_
 ·
  try simp at hb1
  exact False.elim oz
 ·
  try simp at hb1
  refine Za (nx (tsq (snK 1 tb rfl (ZaZ (O:=[]) (R:=[]) (Zm0 hJ l) ZgG rfl rfl rfl (lb rfl) hS hJ0 ZI (fun a w h=>(Zb (h.get 0 rfl) Zk)) fun z1=>?_))))
  refine snK 1 tb rfl (seK [0,3,5] U3 rfl ?_)
  refine nx (qso tb hJ [0,1,1001] U2 U3 ?_)
  refine Zd (ZE tb hJ [0,1,2,1000,1001,1002] [_,.int (t.length:Nat),_] [1] U6 rfl ⟨ZX Zs,trivial⟩ ?_)
  refine Zc (lpo (ι:=Nat×Int) (fun(k,z)=>(k≤t.length)∧(z=(n:Int)-(Xm (ZW l) (t.take k)).length)∧(0≤z)) (fun(_,_)=>[OB.map keyS (fun z':List BA=>AV.rd (Zi z')) z1 (ZW l)]) (fun(k,z)=>[(19,.int (k:Nat)),(9,.int z)]) (fun(k,_)=>t.length-k) [0,1,3,4,5,2] U4 (0,(n:Int)) ⟨nzl,by simp[Xm],oz⟩ ?_)
  rintro⟨k,z⟩ ⟨f1_1,f1_2,f1_3⟩
  refine qso tb hJ (r6 [1000]) [_] U7 ?_
  refine cjS 6 (fun hb2=>?_) fun hb2=>?_
  ·
   try simp at hb2
   refine Za (nx (Zd (Zc (ZE tb hJ (r6 [1002]) [.ptr [lS (ge t k)],_,_] [0] U7 rfl ⟨iIx Zf,trivial⟩ ?_))))
   refine ZE tb hJ (r5 [1003,1006]) (V3 [.rd (Zi (Yt (ZW l) (ge t k))),.int ((Yt (ZW l) (ge t k)).length:Nat),.int (z-(((Yt (ZW l) (ge t k)).length:Nat):Int)),_]) [3,4,5] U7 rfl ⟨fun _ _ hk hx hl _=>Y6 (Zen hJ z1 (ZW l) (ge t k)) ZcF rfl (Zy hS _ hk hx) (hx.1) (ZT (Zu hx (mo 0 rfl)) ZI) (Zb (hl.D 1 24 rfl rfl) (Zb (hl.D 2 25 rfl rfl) Zk)) (jo hJ hx),ZX Zs,ZuY (h0:=by have:=Zb1 (m:=2000) oz hl (ge t k);omega),trivial⟩ ?_
   refine ln 5 fun hl3=>?_
   refine qso tb hJ (r5 [6,1001]) U2 U7 ?_
   refine cj 6 (fun hb3=>?_) fun hb3=>?_
   ·
    try simp at hb3
    have e3:ZaR (ZW l) t n=false:=by have h9:=Xu (ZW l) t (k+1);rw[YX oz,List.length_append]at h9;simp only[ZaR,decide_eq_false_iff_not];omega
    refine qso tb hJ [1000,1001] U2 U2 ?_
    exact tw (fun h=>Ym h (m:=0) (s:=6) rfl) (ZB (fun a w h=>Yh (m:=0) (k:=1) rfl (ZM h) rfl rfl (congrArg (fun z=>AV.rd (Zi z)) (show([]:List BA)=(if ZaR (ZW l) t n then Xm (ZW l) t else [])from by simp[e3])) (eI (by simp[e3]))))
   ·
    try simp at hb3
    refine Za (nx (YA tb hJ [0,1,2,3,5,1001] [.int (k+1:Nat),_] [0] U6 rfl ⟨Yf,trivial⟩ ?_))
    exact YK (k+1,z-(((Yt (ZW l) (ge t k)).length:Nat):Int)) [0,1,2,3,5,4] ⟨oz,by rw[YX oz,List.length_append,f1_2];omega,oz⟩
  ·
   try simp at hb2
   have e4:ZaR (ZW l) t n=true:=by rw[Zz (xs:=t) oz]at f1_2;simp only[ZaR,decide_eq_true_eq];omega
   refine Zp (nx (ZE tb hJ [1002,1003,1004] [_,_,.rd (Zi (Xm (ZW l) t)),_,_] [2] U3 rfl ⟨fun _ _ hk hx hl _=>Y6 (Ztm hJ z1 (ZW l) t (by simp only[ZaR,decide_eq_true_eq]at e4;omega)) Zrk rfl (Zy hS _ hk hx) (hx.1) (ZT (Zu hx (mo 0 rfl)) ZI) (Zb (hl.D 0 32 rfl rfl) (Zb (hl.D 1 33 rfl rfl) Zk)) (jo hJ hx),trivial⟩ ?_))
   refine ln 0 fun hl4=>?_
   exact ZB (fun a w h=>Yh (m:=1) (k:=2) rfl (ZM h) rfl rfl (congrArg (fun z=>AV.rd (Zi z)) (show(Xm (ZW l) t)=(if ZaR (ZW l) t n then Xm (ZW l) t else [])from by simp[e4])) (eI (by simp[e4])))
theorem Zhv (x:Pr)  :Fn prog J 199 [.agg (prC x)] (.agg (prC (Qk x))):=by
 refine fE Tryz.func199 fun S w0 hS hJ0=>?_
 refine tw Z6 (tsq ?_)
 refine Zgd (cs:=[lS x.a,lS x.b]) hJ rfl rfl rfl (lb rfl) (fun a w h=>(h.get 0 rfl)) fun b1=>?_
 refine Z9 Xo hJ rfl rfl rfl (lb rfl) fun b2=>?_
 refine seK [0,1] U2 rfl (nx (Zd (ZE tb hJ [0,1,1004] [.at b1 1,.str x.b,.at b1 0,.str x.a,_] [0,1,2,3] U3 rfl ⟨fun _ _ _ hx hl _=>ZV QS rfl (hl.env 1 1 _ rfl rfl) hx,fun a _ _ hx hl _=>Yd QN rfl (Zu hx (mo 1 rfl)) (hl.D 0 3 rfl rfl) rfl hx,fun _ _ _ hx hl _=>ZV QT rfl (hl.env 1 1 _ rfl rfl) hx,fun a _ _ hx hl _=>Yd QN rfl (Zu hx (mo 1 rfl)) (hl.D 2 5 rfl rfl) rfl hx,trivial⟩ ?_)))
 refine cj 2 (fun hb1=>?_) fun hb1=>?_
 ·
  try simp at hb1
  refine Ya (sq (.at b1 1) rfl rfl (lb rfl) (fun _ _ h=>ZV QS rfl (h.get 1 rfl) h.x) ?_)
  refine sy (.str x.b) (fun h=>Yd QN rfl (Zu h.x (mo 1 rfl)) (h.get 0 rfl) rfl h.x) ?_
  refine sy (.at b1 0) (fun h=>ZV QT rfl (h.get 3 rfl) h.x) ?_
  refine sy (.str x.a) (fun h=>Yd QN rfl (Zu h.x (mo 1 rfl)) (h.get 0 rfl) rfl h.x) ?_
  refine sy (.at b1 0) (fun h=>ZV QT rfl (h.get 5 rfl) h.x) ?_
  refine kw pm1 (Y2 (b:=b1) (off:=0) (es:=U2) hJ hJ0 ZjF rfl rfl rfl (lb rfl) rfl (fun a w h=>⟨(h.get 0 rfl),(h.get 3 rfl)⟩) ?_)
  refine sy (.at b1 1) (fun h=>ZV QS rfl (h.get 6 rfl) h.x) ?_
  refine Y2 (b:=b1) (off:=1) (es:=U2) hJ hJ0 ZjF rfl rfl rfl (lb rfl) rfl (fun a w h=>⟨(h.get 0 rfl),(h.get 2 rfl)⟩) ?_
  refine seK [6,7] U2 rfl (nx (tsq ?_))
  refine sy (.agg [lS x.b,lS x.a]) (fun h=>Q5 (ds:=[lS x.b,lS x.a]) YI rfl (Zu h.x (mo 0 rfl)) (h.get 1 rfl) rfl rfl h.x) ?_
  refine kw pm1 (ZD (b:=b2) (off:=0) (es:=U2) (news:=U2) hJ hJ0 YF rfl rfl rfl (lb rfl) rfl (fun a w h=>⟨(h.get 1 rfl),(h.get 0 rfl)⟩) ?_)
  exact seK [1] [_] rfl (nx (ZB (fun a w h=>ZfK (m:=0) rfl YI h rfl rfl (show(_:List CD)=[lS ((Qk x).a),lS ((Qk x).b)]from by(simp[Qk,hb1])<;>rfl))))
 ·
  try simp at hb1
  refine Za (nx (tsq (sy (.agg (prC x)) (fun h=>Q5 (ds:=[lS x.a,lS x.b]) YI rfl (Zu h.x (mo 1 rfl)) (h.get 1 rfl) rfl rfl h.x) ?_)))
  refine ZD (b:=b2) (off:=0) (es:=U2) (news:=U2) hJ hJ0 YF rfl rfl rfl (lb rfl) rfl (fun a w h=>⟨(h.get 1 rfl),(h.get 0 rfl)⟩) ?_
  exact seK [1] [_] rfl (nx (ZB (fun a w h=>ZfK (m:=0) rfl YI h rfl rfl (show(_:List CD)=[lS ((Qk x).a),lS ((Qk x).b)]from by(simp[Qk,hb1])<;>rfl))))
end
end Go.Proofs.YtaigaoflehfdcaaGreatDoor
namespace Go.Proofs.YtaigaoflehfdcaaGreatDoor
section
variable {n:Rn} {P:Program} {S:Nat→Prop} {X:WP} {o:Oper} {a:Act} {w:World} {t u:TypeId} {x y:Operand}
theorem Zej {i j:Nat} (hop:o.op= .binOp .sub t x y u) (h1:Rel S w (.int (i:Int)) (a.eval x)) (h2:Rel S w (.int (j:Int)) (a.eval y)) (hl:j≤i) (hi:i≤9223372036854775807) (hx:X w):Yr n P o a w (YQ S X (.int ((i-j:Nat):Int)) w):=by
 rw[show((i-j:Nat):Int)=(i:Int)-(j:Int) by omega]
 exact Zpt hop h1 h2 oz oz hx
end
end Go.Proofs.YtaigaoflehfdcaaGreatDoor
namespace Go.Proofs.YtaigaoflehfdcaaGreatDoor
open Go.RowKit
section
variable {n:Rn} {N:Nat} {P:Program} {J X:WP} {S S' S'':Nat→Prop} {O:List OB} {w0:World} {env:List (Nat×AV)} {Q:Exit→Act→WP}
variable {o:Oper} {a:Act} {w:World} {x y:Operand} {t e:TypeId} {k:Nat} {v:Value} {rows:List (List CD)}
theorem Zek {lo:Nat} {i:Int} (h1:YE P t e k) (hop:o.op= .indexAddr t x y) (hi:∃ l,(OB.row v e k rows).inv l S w) (h:Rel S' w (.lit (Zhb v lo k)) (a.eval x)) (hy:Rel S'' w (.int i) (a.eval y)) (h0:0≤i) (hl:(lo:Int)+i< (rows.length:Int)) (hx:X w):
 Yr n P o a w (YQ S X (.lit (XG v ((lo+i.toNat)*k))) w):=by
 obtain⟨l,hi⟩:=hi
 obtain⟨g,cap,us,cur,rfl,hc⟩:=Zcl hi oz
 have hcap:rows.length≤cap:=by
  obtain⟨us,⟨_,h3⟩,_⟩:=hi
  rcases h3 with⟨h4,_⟩ | ⟨g',cap',cur',h4,_,_,h5,_⟩
  · cases h4
  · injection h4 with e1 e2 e3;omega
 have hne:¬ cap=lo:=by omega
 have hsub:Zhb (.slice (some ⟨g,0,none⟩) rows.length cap) lo k= .slice (some ⟨g,lo*k,none⟩) (rows.length-lo) (cap-lo):=by
  simp only[Zhb,if_neg hne,Option.map_some,Zb4]
  simp
 rw[hsub]at h
 have hi2:0≤i∧i< ((rows.length-lo:Nat):Int):=⟨h0,oz⟩
 refine ZA (v:=.pointer (some ⟨g,(lo+i.toNat)*k,none⟩)) ?_ (Rel.of_lit _) hx
 rw[Nat.add_mul]
 simp[execOp,hop,h.lit,hy.lit,Instr.indexAt,asIntOf,Sem.run_bind,run_underlying h1.1,h1.2 w,hi2.1,hi2.2,Zb4]
theorem Zbq {rows:List (List CD)} {m:Nat} (hm:rows.length=m) {S':Nat→Prop} (h1:P.underlying t=some (.slice e)) (hop:o.op= .call { callee:=.builtin .len,args:= #[x],argTypes:= #[t] }) (hi:∃ lo,(OB.row v e k rows).inv lo S w) (h:Rel S' w (.lit v) (a.eval x)) (hx:X w):
 Yr n P o a w (YQ S X (.int m) w):=by
 subst hm
 obtain⟨lo,us,g1,_⟩:=hi
 refine ZA (v:=.int .i64 rows.length) ?_ (Rel.of_lit _) hx
 rcases g1.2 with⟨hv,h4⟩ | ⟨g,cap,cur,hv,_⟩
 · simp[execOp,hop,h.lit,hv,resolve,invoke,builtin,Builtin.len_,Sem.run_bind,run_underlying h1,goInt,h4]
 · simp[execOp,hop,h.lit,hv,resolve,invoke,builtin,Builtin.len_,Sem.run_bind,run_underlying h1,goInt]
end
end Go.Proofs.YtaigaoflehfdcaaGreatDoor
