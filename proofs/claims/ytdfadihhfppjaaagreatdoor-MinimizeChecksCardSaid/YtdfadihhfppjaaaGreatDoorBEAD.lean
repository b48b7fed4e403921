/-
  Part of the proof that MinimizeChecks returns true. Conditions: none.
-/
import Derived.Test.YtdfadihhfppjaaaGreatDoorBEAC
namespace Go.Proofs.YtdfadihhfppjaaaGreatDoor
set_option maxRecDepth 100000
set_option maxHeartbeats 8000000
open Go.Proofs.Tryz
open List (drop_eq_getElem_cons length_map map_set mem_append_right)
section
open Go.RowKit
section
variable {J:WP} (V:aR J)
include V
theorem KY (ss:List Stp) (bw:ey ss):Fn prog J 26 [.agg (be ss)] (.int ((dd ss):Nat)):=by
 refine fE func26 λS w0 hS hJ0=>?_
 refine tw cc ?_
 have jX:=bw.1
 have cr:=bw.2.1
 refine au tb V [1000] [.ptr (be ss),_] [0] [_] Y ⟨cY hS V,U⟩ ?_
 refine af (au tb V [0,1002] [_,.int (ft ss),_] [1] U2 Y ⟨bJ hS V (K6 V ss) (cO func52),U⟩ ?_)
 refine cj 1 ?_ ?_<;>intro hb1
 ·exact False.elim (by simp[(tD ss).2 bw]at hb1)
 ·refine ak (nx (au tb V [1002,1006,1008] (V3 [.int (ss.length:Nat),.int (ss.length-1:Nat),.agg (be (gU ss (ss.length-1))),.rd (aY (gU ss (ss.length-1))),.int ((gU ss (ss.length-1)).length:Nat),_]) [3,4,5,6,7] U3 Y ⟨aC eo,λ_ _ _ Z hl _=>qI (i:=ss.length) (j:=1) Y (hl.D 3 9 Y Y) (Rel.aH (.int .i64 1)) ay ay Z,bJ hS V (vF V ss (ss.length-1) (by exact bw) oz) (cO func53),λ_ _ _ Z hl _=>HV (c:=aY (gU ss (ss.length-1))) Ed Y (hl.D 5 11 Y Y) Z,aC eo,U⟩ ?_))
  refine ln 0 λcr=>?_
  refine ln 1 λ_=>?_
  exact bH 2 (hE:=eI (by rw[AL bw.1,TR]))
theorem Dn (d:Db) (z:Int) (ss:List Stp) (hw:∀ f∈d.ab,f.wide.length*32<=140737488351232):Fn prog J 36 [.agg (bV d),.int z,.agg (be ss)] (.bF [.rd (cu (if cQ d z ss=0 then(aZ d z ss).1 else [])),.int (cQ d z ss)]):=by
 refine fE func36 λS w0 hS hJ0=>?_
 refine tw cc (au tb V [1,1000,1001] [.ptr (bV d),.ptr (be ss),_,_] [0,1] U3 Y ⟨cY hS V,cY hS V,U⟩ ?_)
 refine af (au tb V [0,1,2,1004] (V3 [.int (dH d z ss),_]) [3] U4 Y ⟨bJ hS V (Dj V d z ss (by exact λi hi=>hw _ (aE hi))) (cO func70),U⟩ ?_)
 refine aj tb V [0,1,2,3,1001] U2 U5 ?_
 refine cj 4 ?_ ?_<;>intro hb1<;>try simp at hb1
 ·have eR:cQ d z ss=dH d z ss:=if_neg hb1
  have eT:(if cQ d z ss=0 then(aZ d z ss).1 else [])=[]:=if_neg (by rw[eR];exact hb1)
  refine aj tb V [1001,1002] U3 U2 ?_
  exact tw (λh=>gu h (m:=0) (s:=6) Y) (aX (λa w h=>di (m:=0) (k:=1) Y (dw h) Y Y (congrArg (λz=>AV.rd (cu z)) (show([]:List (List BA))=(if cQ d z ss=0 then(aZ d z ss).1 else [])from by first | (rw[eT];done) | (rw[eR];done))) (eI (by first | (rw[eT];done) | (rw[eR];done)))))
 ·refine ak (nx (aL (ao 3 tb (env':=[(22,_),(21,_),(20,_),(1,_),(3,_),(5,_),(8,_),(17,_)]) Y (sy (.bF [.rd (cu ((aZ d z ss).1)),.agg (kS ((aZ d z ss).2)),.int (dH d z ss)]) (λh=>cV (Dp V d z ss (by exact λi hi=>hw _ (aE hi)) (by exact DG (oE (nK hb1).1).1)) (cO func71) Y (aK hS _ h.keep h.x) (h.x.1) (aq (h.get 2 Y) (aq (h.get 1 Y) (aq (h.get 0 Y) aN))) (jo V h.x)) ?_))))
  refine ao 4 tb (env':=[(26,_),(25,_),(24,_),(19,_),(23,_),(22,_),(21,_),(20,_),(1,_),(3,_),(5,_),(8,_),(17,_)]) Y (cx sI V Y Y Y (lb Y) λb1=>ao 1 tb (env':=[(9,_),(10,_),(26,_),(25,_),(24,_),(19,_),(23,_),(22,_),(21,_),(20,_),(1,_),(3,_),(5,_),(8,_),(17,_)]) Y (ce (b:=b1) (off:=0) (es:=U2) (news:=U2) V hJ0 lL Y Y Y (lb Y) Y (λa w h=>⟨(h.get 1 Y),(h.get 3 Y)⟩) (ao 1 tb (env':=[(11,_),(9,_),(10,_),(26,_),(25,_),(24,_),(19,_),(23,_),(22,_),(21,_),(20,_),(1,_),(3,_),(5,_),(8,_),(17,_)]) Y (kw (λh=>fB hS h (m:=2) (s:=10) Y) (aA [0,1,2,5] U4 Y (nx (ln 2 λcr=>?_)))))))
  refine af (aj tb V [0,1,2,1001] U2 U4 ?_)
  refine cj 3 ?_ ?_<;>intro hb2
  ·exact False.elim (by simp[hb1]at hb2)
  ·refine ak (nx (af (aj tb V [2,1002] U3 U2 ?_)))
   refine cj 1 ?_ ?_<;>intro aD<;>try simp at aD
   ·have eR:cQ d z ss=13:=by rw[cQ,if_pos hb1,if_neg aD]
    have eT:(if cQ d z ss=0 then(aZ d z ss).1 else [])=[]:=if_neg (by rw[eR];decide)
    refine aj tb V [1000,1001] U2 U2 ?_
    exact tw (λh=>gu h (m:=0) (s:=6) Y) (aX (λa w h=>di (m:=0) (k:=1) Y (dw h) Y Y (congrArg (λz=>AV.rd (cu z)) (show([]:List (List BA))=(if cQ d z ss=0 then(aZ d z ss).1 else [])from by first | (rw[eT];done) | (rw[eR];done))) (eI (by first | (rw[eT];done) | (rw[eR];done)))))
   ·have eR:cQ d z ss=0:=by rw[cQ,if_pos hb1,if_pos aD]
    have eT:(if cQ d z ss=0 then(aZ d z ss).1 else [])=(aZ d z ss).1:=if_pos eR
    refine ak (nx (aj tb V [1001,1002] U3 U2 ?_))
    exact aX (λa w h=>di (m:=0) (k:=1) Y (dw h) Y Y (congrArg (λz=>AV.rd (cu z)) (show((aZ d z ss).1)=(if cQ d z ss=0 then(aZ d z ss).1 else [])from by first | (rw[eT];done) | (rw[eR];done))) (eI (by first | (rw[eT];done) | (rw[eR];done))))
theorem Dw (xs ys:List BA)  :Fn prog J 72 [.rd (ai xs),.rd (ai ys)] (.bool (decide (xs=ys))):=by
 refine fE func72 λS w0 hS hJ0=>?_
 clear hJ0
 refine ln 0 λ_=>?_
 refine ln 1 λ_=>?_
 refine qs tb V [0,1] [_] U2 ?_
 refine af (aJ tb V [0,1,1004] [_,.int (xs.length:Nat),_,.int (ys.length:Nat),_] [1,3] U3 Y ⟨aC b7,aC b7,U⟩ ?_)
 refine cj 2 ?_ ?_<;>intro hb1<;>try simp at hb1
 ·refine qs tb V [1000] [_] [_] ?_
  exact aU 0 (hE:=eB (by first | (have:=ib (xs:=xs) (ys:=ys) oz (λj hj=>ah j oz);simp[this];done) | (symm;rw[decide_eq_false_iff_not];intro e;subst e;simp_all;done)))
 ·refine ak (nx (af (qs tb V [0,1,1000] [_] U3 ?_)))
  refine ax (lp (ι:=Nat) (λk=>(k<=xs.length)/\(∀ j,j<k->G xs j=G ys j)) (λk=>[(5,.int (k:Nat))]) (λk=>xs.length-k) [0,1,2] U2 0 ⟨aI,λj hj=>by omega⟩ ?_)
  rintro k ⟨aQ,ah⟩
  refine af (aJ tb V [0,1,2,1003] [_,_,.int (xs.length:Nat),_] [2] U4 Y ⟨aC b7,U⟩ ?_)
  refine cj 3 ?_ ?_<;>intro hb2<;>try simp at hb2
  ·refine ak (nx (af (ax (aJ tb V [0,1,2,1008] [_,_,.ptr [lS (G xs k)],_,_,_,.ptr [lS (G ys k)],_,_] [2,6] U4 Y ⟨bq bz,bq bz,U⟩ ?_))))
   refine cj 3 ?_ ?_<;>intro aD<;>try simp at aD
   ·refine qs tb V [1000] [_] [_] ?_
    exact aU 0 (hE:=eB (by first | (have:=ib (xs:=xs) (ys:=ys) oz (λj hj=>ah j oz);simp[this];done) | (symm;rw[decide_eq_false_iff_not];intro e;subst e;simp_all;done)))
   ·refine ak (nx (dK tb V [0,1,1002] [_,.int (k+1:Nat),_] [1] U3 Y ⟨aM,U⟩ ?_))
    exact dM (k+1) [0,1,2] ⟨oz,cB ah (by simpa using aD)⟩
  ·refine aW (nx (qs tb V [1000] [_] [_] ?_))
   exact aU 0 (hE:=eB (by first | (have:=ib (xs:=xs) (ys:=ys) oz (λj hj=>ah j oz);simp[this];done) | (symm;rw[decide_eq_false_iff_not];intro e;subst e;simp_all;done)))
theorem K4 (d:Db) (s:BA)  :Fn prog J 73 [.agg (bV d),.str s] (.int (bR d s)):=by
 refine fE func73 λS w0 hS hJ0=>?_
 refine tw cc (au tb V [1,1000] [.ptr (bV d),_] [0] U2 Y ⟨cY hS V,U⟩ ?_)
 refine af (aj tb V [0,1,1000] [_] U3 ?_)
 refine ax (lpo (ι:=Nat) (λk=>(k<=d.ab.length)/\(∀ j,j<k->decide ((G d.ab j).ae=s)=false)) (λ_=>[]) (λk=>[(5,.int (k:Nat))]) (λk=>d.ab.length-k) [0,1,2] U2 0 ⟨aI,λj hj=>by omega⟩ ?_)
 rintro k ⟨aQ,ah⟩
 refine af (au tb V [0,1,2,1002,1004] (V3 [.int (d.ab.length:Nat),_]) [3] U5 Y ⟨aC nv,U⟩ ?_)
 refine ln 3 λ_=>?_
 refine cj 4 ?_ ?_<;>intro hb1<;>try simp at hb1
 ·refine ak (nx (af (ax (au tb V [0,1,2,1007] (V3 [.ptr (a8 (G d.ab k)),_,_,_,_]) [3] U4 Y ⟨bq fT,U⟩ ?_))))
  refine cj 3 ?_ ?_<;>intro hb2
  ·refine aj tb V [1001] U2 [_] ?_
   exact bH 0 (hE:=eI (by first | exact(iR hb1 hb2 ah).symm | exact(iS λj hj=>ah j oz).symm))
  ·refine ak (nx (aT tb V [0,1,1002] [_,.int (k+1:Nat),_] [1] U3 Y ⟨aM,U⟩ ?_))
   exact br (k+1) [0,1,2] ⟨oz,cB ah hb2⟩
 ·refine aW (nx (aj tb V [1000] [_] [_] ?_))
  exact bH 0 (hE:=eI (by first | exact(iR hb1 hb2 ah).symm | exact(iS λj hj=>ah j oz).symm))
theorem Lb (d:Db) (z:Int) (ss:List Stp) (n:Nat) (st:Stp) (tx:List BA) (hw:∀ f∈d.ab,f.wide.length*32<=140737488351232) (hap:∀ f∈d.ab,f.apart.length<=100000) (hn:n<=ss.length) (Ft:ss.length<=2000):Fn prog J 74 [.agg (bV d),.int z,.agg (be ss),.int (n:Nat),.agg (bx st),.rd (ai tx)] (.bool (qb d z ss n st tx)):=by
 refine fE func74 λS w0 hS hJ0=>?_
 refine tw cc (ln 5 λcr=>?_)
 refine au tb V [1,3,5,1000,1001,1002] [.ptr (bV d),.ptr (be ss),.ptr (bx st),_] [0,1,2] U6 Y ⟨cY hS V,cY hS V,cY hS V,U⟩ ?_
 refine af (λa w h=>lg [] (γ:=Value×Value×Value×Nat) (λix'=>([.any,.ptr (be ss),.rd (aY ss),.int (n:Nat),.rd (aY (ss.take n)),.any,.agg (bx st),.rd (aY ([st])),.rd (aY ((ss.take n)++([st]))),.agg (be ((ss.take n)++([st]))),.any,.any]:List AV).getD ix' .any) (λ_=>true) [(1,λ_=>.int z),(3,λ_=>.int (n:Nat)),(5,λ_=>.rd (ai tx)),(6,λ_=>.ptr (bV d)),(13,λg=>.at g.2.2.2 0)] (λ(b:List Bool) (g:Value×Value×Value×Nat)=>(bif b.getD 4 false then [OB.var g.2.2.2 [aY ((ss.take n)++([st]))]]else(bif b.getD 3 false then [OB.var g.2.2.2 [aY ([]:List Stp)]]else []))++((bif b.getD 2 false then []else(bif b.getD 1 false then [OB.row g.2.1 88 2 ((ss.take n).map bx)]else(bif b.getD 0 false then [OB.row g.1 88 2 (([]:List Stp).map bx)]else [])))++([]))) (λk' g=>match k' with | 0=>g.1 | 1=>g.2.1 | 2=>g.2.2.1 | 3=>(.pointer (some ⟨g.2.2.2,0,none⟩)) | _=>undef) [0,5,8,10,11] (undef,undef,undef,0) (λ_=>Y) h V cU Y Y Y Y (λb g p hp=>(mem_append_right _ (mem_append_right _ hp))) ⟨bC Y,oX Y λZ hl=>cd ie Y (hl.env 4 8 _ Y Y) Z,oX Y λZ hl=>bU iD Y (hl.D 1 18 Y Y) Z,oX Y λZ hl=>b9 Y (hl.env 1 3 _ Y Y) Z,?_,bC Y,oX Y λZ hl=>j4 oD Y (hl.env 5 10 _ Y Y) aV Z,?_,bC Y,?_,bC Y,bC Y,U⟩ ⟨?nM,?pX,?zk,?Mp,?Mq,U⟩ ⟨.old 0 1 _,.old 1 3 _,.old 2 5 _,.old 3 6 _,.d6 3 10 13 (λ(g:Value×Value×Value×Nat)=>(.pointer (some ⟨g.2.2.2,0,none⟩))) Y Y (λ_=>Y) (λ_=>True.intro),U⟩ ?ud)
 exact oX Y λZ hl=>iW (ys:=ss.take n) (lo:=0) (hi:=n) List.drop_zero eq (λ_=>Y) Y (hl.D 2 19 Y Y) Y (hl.D 3 20 Y Y) ay ay Z
 exact oY Y λhk Z hl=>nl eq Cu dz Y Y (hl.D 6 23 Y Y) (aK hS _ hk Z _ aV) (jo V Z)
 exact λ_ O' _=>⟨Y,λa _ _ Z hl _=>gq (us:=[a.eval (.tmp 25)]) vA Y yz (b6 (hl.D 8 25 Y Y) cM) Y Z⟩
 case nM=>exact eE [[false,false,false,false,false],[false,false,false,true,false]] yq Y Y Y Y ⟨λg _ w hk Z _ _=>bD (vR eq V Y hk Z) λv w' hp=>⟨(v,g.2.1,g.2.2.1,g.2.2.2),dZ,λ_=>rfl,True.intro,hp⟩,λg _ w hk Z _ _=>bD (vR eq V rfl hk Z) λv w' hp=>⟨(v,g.2.1,g.2.2.1,g.2.2.2),dZ,λ_=>rfl,True.intro,kM (.refl _) (eM (A:=[OB.var g.2.2.2 [aY ([]:List Stp)]])).symm hp⟩,U⟩
 case pX=>exact eE [[true,false,false,false,false],[true,false,false,true,false]] yq Y Y Y Y ⟨λg _ w hk Z hl hs=>bD (lw (f:=bx) ([]:List Stp) (ss.take n) (λ_=>rfl) oG V hJ0 Y hk Z (hs 0 0 _ 17 Y Y Y Y) (hl.D 4 21 Y Y) (by simp;omega) (by simp;omega)) λv w' hp=>⟨(g.1,v,g.2.2.1,g.2.2.2),dZ,λ_=>rfl,True.intro,hp⟩,λg _ w hk Z hl hs=>bD (lw (f:=bx) ([]:List Stp) (ss.take n) (λ_=>rfl) oG V hJ0 Y hk (fR (eM (A:=[OB.var g.2.2.2 [aY ([]:List Stp)]])) Z) (hs 0 0 _ 17 Y Y Y Y) ((hl.D 4 21 Y Y).sub λ_ _ hs=>hs.perm (eM (A:=[OB.var g.2.2.2 [aY ([]:List Stp)]]))) (by simp;omega) (by simp;omega)) λv w' hp=>⟨(g.1,v,g.2.2.1,g.2.2.2),dZ,λ_=>rfl,True.intro,kM (eM (A:=[OB.var g.2.2.2 [aY ([]:List Stp)]])).symm (eM (A:=[OB.var g.2.2.2 [aY ([]:List Stp)]])).symm hp⟩,U⟩
 case zk=>exact eE [[true,true,false,false,false],[true,true,false,true,false]] yq Y Y Y Y ⟨λg _ w hk Z hl hs=>bD (vQ (f:=bx) (ss.take n) ([st]) (λ_=>rfl) oG hS V hJ0 Y hk Z (hs 1 5 _ 22 Y Y Y Y) (hl.D 7 24 Y Y) (by simp;omega) (by simp;omega)) λv w' ⟨hr,hp⟩=>⟨(g.1,g.2.1,v,g.2.2.2),dZ,λ_=>rfl,hr,hp⟩,λg _ w hk Z hl hs=>bD (vQ (f:=bx) (ss.take n) ([st]) (λ_=>rfl) oG hS V hJ0 Y hk (fR (eM (A:=[OB.var g.2.2.2 [aY ([]:List Stp)]])) Z) (hs 1 5 _ 22 Y Y Y Y) ((hl.D 7 24 Y Y).sub λ_ _ hs=>hs.perm (eM (A:=[OB.var g.2.2.2 [aY ([]:List Stp)]]))) (by simp;omega) (by simp;omega)) λv w' ⟨hr,hp⟩=>⟨(g.1,g.2.1,v,g.2.2.2),dZ,λ_=>rfl,hr,kM (eM (A:=[OB.var g.2.2.2 [aY ([]:List Stp)]])).symm (.refl _) hp⟩,U⟩
 case Mp=>exact eE [[false,false,false,false,false],[true,false,false,false,false],[true,true,false,false,false],[true,true,true,false,false]] yq Y Y Y Y ⟨λg _ w hk Z _ _=>bD (gD jz V Y hk Z) λv w' ⟨b',hv,hp⟩=>⟨(g.1,g.2.1,g.2.2.1,b'),dZ,λ_=>hv,True.intro,hp⟩,λg _ w hk Z _ _=>bD (gD jz V rfl hk Z) λv w' ⟨b',hv,hp⟩=>⟨(g.1,g.2.1,g.2.2.1,b'),dZ,λ_=>hv,True.intro,hp⟩,λg _ w hk Z _ _=>bD (gD jz V rfl hk Z) λv w' ⟨b',hv,hp⟩=>⟨(g.1,g.2.1,g.2.2.1,b'),dZ,λ_=>hv,True.intro,hp⟩,λg _ w hk Z _ _=>bD (gD jz V rfl hk Z) λv w' ⟨b',hv,hp⟩=>⟨(g.1,g.2.1,g.2.2.1,b'),dZ,λ_=>hv,True.intro,hp⟩,U⟩
 case Mq=>exact eE [[true,true,true,true,false]] yq Y Y Y Y ⟨λg _ w hk Z hl hs=>(by obtain⟨eP,hv2,eh⟩:=jw (hl.D 9 26 Y Y);exact bD (iw (S':=S) (off:=0) (news:=[_]) (es:=[_]) (us:=eP) V hJ0 fI Y hk Z (kt (hs 3 10 _ 13 Y Y Y Y)) (by rw[hv2];rfl) eh (lb Y) Y) λv w' hp=>⟨g,λ_ _=>rfl,λe=>(by cases e),True.intro,hp⟩),U⟩
 clear a w h
 rintro⟨v1,v2,v3,b4⟩
 dsimp only[List.map]
 refine kw (λh=>fB hS h (m:=4) (s:=13) Y) (nx (aL (ao 3 tb (env':=[(30,_),(29,_),(28,_),(13,_),(1,_),(3,_),(5,_),(6,_)]) Y (sy (.bF [.rd (cu ((aZ d z ((ss.take n)++([st]))).1)),.agg (kS ((aZ d z ((ss.take n)++([st]))).2)),.int (dH d z ((ss.take n)++([st])))]) (λh=>cV (Dp V d z ((ss.take n)++([st])) (by exact λi hi=>hw _ (aE hi)) (by exact hap)) (cO func71) Y (aK hS _ h.keep h.x) (h.x.1) (aq (h.get 2 Y) (aq (h.get 1 Y) (aq (h.get 0 Y) aN))) (jo V h.x)) ?_))))
 refine ao 4 tb (env':=[(34,_),(33,_),(32,_),(27,_),(31,_),(30,_),(29,_),(28,_),(13,_),(1,_),(3,_),(5,_),(6,_)]) Y (cx sI V Y Y Y (lb Y) λb5=>ao 1 tb (env':=[(14,_),(15,_),(34,_),(33,_),(32,_),(27,_),(31,_),(30,_),(29,_),(28,_),(13,_),(1,_),(3,_),(5,_),(6,_)]) Y (ce (b:=b5) (off:=0) (es:=U2) (news:=U2) V hJ0 lL Y Y Y (lb Y) Y (λa w h=>⟨(h.get 1 Y),(h.get 3 Y)⟩) (ao 1 tb (env':=[(16,_),(14,_),(15,_),(34,_),(33,_),(32,_),(27,_),(31,_),(30,_),(29,_),(28,_),(13,_),(1,_),(3,_),(5,_),(6,_)]) Y (kw (λh=>fB hS h (m:=2) (s:=15) Y) (aA [1,2,5,13,14] U5 Y (nx (ln 1 λhl2=>?_)))))))
 refine au tb V [1017] (V4 [.int (((aZ d z ((ss.take n)++([st]))).1).length:Nat),_,.int (n+1:Nat),_,_,_,_,_,.ptr [ai (G ((aZ d z ((ss.take n)++([st]))).1) n)],_,_,.bool (decide ((G ((aZ d z ((ss.take n)++([st]))).1) n)=tx)),_,_]) [4,6,12,15] [_] Y ⟨aC sH,λ_ _ _ Z hl hc=>qE (i:=(n:Int)) (j:=(1:Int)) Y (hl.D 5 40 Y hc) (Rel.aH (.int .i64 1)) (by have aF:((decide (dH d z ((ss.take n)++([st]))=(0:Int)))==true)=true:=hc;(try simp at aF);(first | omega | (simp;omega) | grind[aE])) (by have aF:((decide (dH d z ((ss.take n)++([st]))=(0:Int)))==true)=true:=hc;(try simp at aF);(first | omega | (simp;omega) | grind[aE])) Z,cT eG (hk:=λ(aF:(((decide (dH d z ((ss.take n)++([st]))=(0:Int)))&& (decide (((((aZ d z ((ss.take n)++([st]))).1).length:Nat):Int)=((n+1:Nat):Int))))==true)=true)=>by(try simp at aF);first | omega | (simp;omega) | grind[aE]),bJ hS V (Dw V (G ((aZ d z ((ss.take n)++([st]))).1) n) tx) (cO func72),U⟩ ?_
 exact bH 0 (hE:=eB (by exact Ot))
end
theorem NJ:db prog 31 0 0:=fO
theorem EA:db prog 31 1 1:=fO
theorem EB:db prog 31 2 2:=fO
theorem zG:db prog 31 3 3:=fO
theorem Lf {J:WP} (V:aR J) (ss:List Stp) (z:Int) (bw:ey ss) (lC:0<=z) (f9:z< (ss.length:Int)):Fn prog J 53 [.agg (be ss),.int z] (.agg (be (gU ss z.toNat))):=by
 obtain⟨n,rfl⟩:=Int.eq_ofNat_of_zero_le lC
 exact vF V ss n bw oz
theorem K1 {J:WP} (V:aR J) (ss:List Stp) (c:bZ) (bw:ey ss) (gT:0<=c.step) (f8:c.step< (ss.length:Int)) (jW:∀ a∈c.args,0<=a/\a<c.step) (dl:c.args.length<=40) (hc1:c.dN=2∨1<=c.args.length):Fn prog J 38 [.agg (be ss),.agg (cm c)] (.agg (be (cw ss c))):=by
 refine fE func38 λS w0 hS hJ0=>?_
 refine tw cc ?_
 have jX:=bw.1
 have cr:=bw.2.1
 have Af:=Ly bw jW hc1
 refine aL (sy (.ptr (be ss)) (λh=>fk Y (h.get 0 Y) (aK hS _ h.keep h.x _ aV) (jo V h.x)) ?_)
 refine sy (.ptr (cm c)) (λh=>fk Y (h.get 2 Y) (aK hS _ h.keep h.x _ aV) (jo V h.x)) ?_
 refine cx jz V Y Y Y (lb Y) λb1=>aA [0,1,2] U3 Y (nx (af (cC (kz eq V Y Y Y (lb Y) λv2=>ao 2 tb Y (fN (f:=bx) (m:=2) (s:=10) ([]:List Stp) ss (λ_=>Y) oG V hJ0 Y Y Y (lb Y) Y Y (λa w h=>(h.get 0 Y)) ay ay λv3=>sq (.agg [.lit v3]) Y Y (lb Y) (λa _ h=>gq (us:=[a.eval (.tmp 13)]) vA Y yz (b6 (h.get 0 Y) cM) Y h.x) (cx jz V Y Y Y (lb Y) λb4=>ce (b:=b4) (off:=0) (es:=[_]) (news:=[_]) V hJ0 fI Y Y Y (lb Y) Y (λa w h=>⟨(h.get 0 Y),(h.get 1 Y)⟩) (aA [0,3,6,7,8] U5 Y (nx (ln 1 λcr=>?_)))))))))
 refine au tb V [0,2,3,1004] [_,_,.int (ss.length:Nat),.int (ss.length-1:Nat),_] [2,3] U4 Y ⟨aC eo,λ_ _ _ Z hl _=>qI (i:=ss.length) (j:=1) Y (hl.D 2 17 Y Y) (Rel.aH (.int .i64 1)) ay ay Z,U⟩ ?_
 refine af (aj tb V [0,1,2,3,1002] U3 U5 ?_)
 refine cj 4 ?_ ?_<;>intro hb1<;>try simp at hb1
 ·have e9:cw ss c=gU (ss.set c.step.toNat ⟨c.ae,c.args⟩) (ss.length-1):=by rw[<-Af,s4,if_pos hb1]
  refine af (tw bO (λa w h=>lg [OB.var b4 [.lit v3],OB.var b1 [aY ([]:List Stp)]] (γ:=Value×Value×Value×Value) (λix'=>([.at b4 0,.lit v3,.ptr [lI c.step,lS c.ae,bQ c.args,lI c.before,lI c.after],.int c.step,.ptr [lS c.ae,bQ c.args,lI c.before,lI c.after],.str c.ae,.any,.ptr [bQ c.args,lI c.before,lI c.after],.rd (bQ c.args),.rd (bQ c.args),.agg (bx (⟨c.ae,c.args⟩:Stp)),.lit (cG v3 (c.step.toNat*2)),.any]:List AV).getD ix' .any) (λ_=>true) [(5,λ_=>.at b4 0),(4,λ_=>.at b1 0),(6,λ_=>.int (ss.length-1:Nat))] (λ(b:List Bool) (g:Value×Value×Value×Value)=>(bif b.getD 2 false then []else(bif b.getD 1 false then [OB.row g.2.1 3 1 (([]:List Int).map bT)]else []))++((bif b.getD 4 false then [OB.row v3 88 2 (((([]:List Stp)++ss).set c.step.toNat (⟨c.ae,c.args⟩:Stp)).map bx)]else [OB.row v3 88 2 ((([]:List Stp)++ss).map bx)])++([OB.var b4 [.lit v3],OB.var b1 [aY ([]:List Stp)]]))) (λk' g=>match k' with | 0=>g.1 | 1=>g.2.1 | 2=>g.2.2.1 | 3=>g.2.2.2 | _=>undef) [1,6,9,11,12] (undef,undef,undef,undef) (λ_=>Y) h V cU Y Y Y Y (λb g p hp=>(mem_append_right _ (mem_append_right _ hp))) ⟨oX Y λZ hl=>cy ie Y (hl.env 0 5 _ Y Y) Z,bC Y,oX Y λZ hl=>cd EA Y (hl.env 2 3 _ Y Y) Z,oX Y λZ hl=>bU gd Y (hl.D 2 24 Y Y) Z,oX Y λZ hl=>cd EB Y (hl.env 2 3 _ Y Y) Z,oX Y λZ hl=>bU fh Y (hl.D 4 26 Y Y) Z,bC Y,oX Y λZ hl=>cd zG Y (hl.env 2 3 _ Y Y) Z,oX Y λZ hl=>bU iV Y (hl.D 7 29 Y Y) Z,bC Y,?_,bC Y,bC Y,U⟩ ⟨?zl,?zm,?MD,?ME,?MF,U⟩ ⟨.old 0 5 _,.old 1 4 _,.old 3 6 _,U⟩ ?Rm))
  exact λ_ O' _=>⟨Y,λa _ _ Z hl _=>gq (us:=[a.eval (.tmp 27),a.eval (.tmp 31)]) rm Y yz (b6 (hl.D 5 27 Y Y) (b6 (hl.D 9 31 Y Y) cM)) Y Z⟩
  case zl=>exact eE [[false,false,false,false,false],[false,true,false,false,false],[false,true,true,false,false]] yq Y Y Y Y ⟨λg _ w hk Z hl _=>bD (cg iD Y (aG Z (mo 1 Y)) (hl.D 0 22 Y Y) Y Z) λv w' hp=>⟨(v,g.2.1,g.2.2.1,g.2.2.2),dZ,λ_=>rfl,hp.1,qV V hk Z hp.2.1⟩,λg _ w hk Z hl _=>bD (cg iD rfl (aG Z (mo 2 rfl)) (hl.D 0 22 rfl rfl) rfl Z) λv w' hp=>⟨(v,g.2.1,g.2.2.1,g.2.2.2),dZ,λ_=>rfl,hp.1,qV V hk Z hp.2.1⟩,λg _ w hk Z hl _=>bD (cg iD rfl (aG Z (mo 1 rfl)) (hl.D 0 22 rfl rfl) rfl Z) λv w' hp=>⟨(v,g.2.1,g.2.2.1,g.2.2.2),dZ,λ_=>rfl,hp.1,qV V hk Z hp.2.1⟩,U⟩
  case zm=>exact eE [[false,false,false,false,false],[true,false,false,false,false]] yq Y Y Y Y ⟨λg _ w hk Z _ _=>bD (vR c8 V Y hk Z) λv w' hp=>⟨(g.1,v,g.2.2.1,g.2.2.2),dZ,λ_=>rfl,True.intro,hp⟩,λg _ w hk Z _ _=>bD (vR c8 V rfl hk Z) λv w' hp=>⟨(g.1,v,g.2.2.1,g.2.2.2),dZ,λ_=>rfl,True.intro,hp⟩,U⟩
  case MD=>exact eE [[false,true,false,false,false],[true,true,false,false,false]] yq Y Y Y Y ⟨λg _ w hk Z hl hs=>bD (vQ (f:=bT) ([]:List Int) c.args (λ_=>rfl) pL hS V hJ0 Y hk Z (hs 1 6 _ 28 Y Y Y Y) (hl.D 8 30 Y Y) ay ay) λv w' ⟨hr,hp⟩=>⟨(g.1,g.2.1,v,g.2.2.2),dZ,λ_=>rfl,hr,hp⟩,λg _ w hk Z hl hs=>bD (vQ (f:=bT) ([]:List Int) c.args (λ_=>rfl) pL hS V hJ0 Y hk Z (hs 1 6 _ 28 Y Y Y Y) (hl.D 8 30 Y Y) ay ay) λv w' ⟨hr,hp⟩=>⟨(g.1,g.2.1,v,g.2.2.2),dZ,λ_=>rfl,hr,hp⟩,U⟩
  case ME=>exact eE [[true,true,true,false,false]] yq Y Y Y Y ⟨λg _ w hk Z hl _=>bD (eZ (i:=c.step) eq Y (aG Z (mo 0 Y)) (hl.D 1 23 Y Y) (hl.D 3 25 Y Y) ay (by rw[length_map];exact ay) Z) λv w' hp=>⟨(g.1,g.2.1,g.2.2.1,v),dZ,λ_=>rfl,hp.1,qV V hk Z hp.2.1⟩,U⟩
  case MF=>exact eE [[true,true,true,true,false]] yq Y Y Y Y ⟨λg _ w hk Z hl _=>bD (DZ (f:=bx) (xs:=([]:List Stp)++ss) (i:=c.step.toNat) (⟨c.ae,c.args⟩:Stp) V hJ0 mt Y hk Z (hl.D 11 33 Y Y) (hl.D 10 32 Y Y) ay Y) λv w' hp=>⟨g,λ_ _=>rfl,λe=>(by cases e),True.intro,hp⟩,U⟩
  clear a w h
  rintro⟨x5,v6,v7,x8⟩
  dsimp only[List.map]
  refine nx (tw bO (tw bO (tw (λh=>mu (j:=0) (cs':=[aY ((([]:List Stp)++ss).set c.step.toNat (⟨c.ae,c.args⟩:Stp))]) hS Y Y h) (aL (sy (.agg (be ((([]:List Stp)++ss).set c.step.toNat (⟨c.ae,c.args⟩:Stp)))) (λh=>fA (ds:=[aY ((([]:List Stp)++ss).set c.step.toNat (⟨c.ae,c.args⟩:Stp))]) ee Y (aG h.x (mo 0 Y)) (h.get 0 Y) Y Y h.x) ?_)))))
  refine ao 1 tb Y (sy (.agg (be (gU ((([]:List Stp)++ss).set c.step.toNat (⟨c.ae,c.args⟩:Stp)) (ss.length-1)))) (λh=>cV (vF V ((([]:List Stp)++ss).set c.step.toNat (⟨c.ae,c.args⟩:Stp)) (ss.length-1) (by first | exact un bw (k:=c.step.toNat) (s:=⟨c.ae,c.args⟩) ⟨dl,λa ha=>by have:=jW a ha;omega⟩ | (rw[e1];exact n8)) (by first | (show ss.length-1< (ss.set _ _).length;rw[List.length_set];omega) | (rw[e1,length_map];omega))) (cO func53) Y (aK hS _ h.keep h.x) (h.x.1) (aq (h.get 1 Y) (aq (h.get 0 Y) aN)) (jo V h.x)) ?_)
  refine kw bO (ce (b:=b1) (off:=0) (es:=[_]) (news:=[_]) V hJ0 fI Y Y Y (lb Y) Y (λa w h=>⟨(h.get 4 Y),(h.get 0 Y)⟩) (aA [4] [_] Y (nx (aX (λa w h=>j0 (m:=0) Y ee h Y Y (show(_:List CD)=[aY (cw ss c)]from by(first | (rw[e9];done) | (rw[e9];rfl) | rw[e9,<-e1])<;>rfl))))))
 ·have h1:1<=c.args.length:=by rcases hc1 with h | h;exact absurd h hb1;exact h
  refine ak (nx (af (aj tb V [0,1,2,3,1003] U4 U5 ?_)))
  refine cj 4 ?_ ?_<;>intro hb2<;>try simp at hb2
  ·have hg:=jW _ (aE (xs:=c.args) (k:=0) oz)
   have e9:cw ss c=gU ss (G c.args 0).toNat:=by rw[<-Af,s4,if_neg hb1,if_pos oz]
   refine tw bO (tw (λh=>mu (j:=0) (cs':=[aY (([]:List Stp)++ss)]) hS Y Y h) (af (tw bO (λa w h=>lg [OB.var b4 [aY (([]:List Stp)++ss)]] (γ:=Unit) (λix'=>([.agg (be (([]:List Stp)++ss)),.ptr [bQ c.args,lI c.before,lI c.after],.rd (bQ c.args),.ptr [lI (G c.args 0)],.int (G c.args 0),.agg (be (gU (([]:List Stp)++ss) (G c.args 0).toNat)),.any]:List AV).getD ix' .any) (λ_=>true) [(4,λ_=>.at b1 0)] (λ(b:List Bool) (g:Unit)=>(bif b.getD 0 false then [OB.var b1 [aY (gU (([]:List Stp)++ss) (G c.args 0).toNat)]]else [OB.var b1 [aY ([]:List Stp)]])++([OB.var b4 [aY (([]:List Stp)++ss)]])) (λ_ _=>undef) [6] () (λ_=>Y) h V cU Y Y Y Y (λb g p hp=>(mem_append_right _ hp)) ⟨λ_ O' cf=>⟨Y,λ_ _ _ Z hl _=>fA (ds:=[aY (([]:List Stp)++ss)]) ee Y (aG Z (cf _ (mo 0 Y))) (hl.env 0 5 _ Y Y) Y Y Z⟩,oX Y λZ hl=>cd zG Y (hl.env 2 3 _ Y Y) Z,oX Y λZ hl=>bU iV Y (hl.D 1 42 Y Y) Z,?_,oX Y λZ hl=>bU gd Y (hl.D 3 44 Y Y) Z,?_,bC Y,U⟩ ⟨?zn,U⟩ ⟨.old 1 4 _,U⟩ ?Rp))))
   exact oX Y λZ hl=>cb (i:=((0:Nat):Int)) c8 Y (hl.D 2 43 Y Y) (Rel.aH (.int .i64 0)) bK (cl (xs:=c.args) (k:=0) ay) Y Z
   exact oY Y λhk Z hl=>cV (Lf V (([]:List Stp)++ss) (G c.args 0) (by exact bw) oz (by show G c.args 0< (ss.length:Int);omega)) (cO func53) Y (aK hS _ hk Z) (Z.1) (aq (hl.D 0 41 Y Y) (aq (hl.D 4 45 Y Y) aN)) (jo V Z)
   case zn=>exact eE [[false]] yq Y Y Y Y ⟨λg _ w hk Z hl _=>(by obtain⟨eP,hv2,eh⟩:=jw (hl.D 5 46 Y Y);exact bD (iw (off:=0) (news:=[_]) (es:=[_]) (us:=eP) V hJ0 fI Y hk Z (hl.env 1 4 _ Y Y) (by rw[hv2];rfl) eh (lb Y) Y) λv w' hp=>⟨g,λ_ _=>rfl,λe=>(by cases e),True.intro,hp⟩),U⟩
   clear a w h
   intro _
   dsimp only[List.map]
   exact nx (aX (λa w h=>j0 (m:=0) Y ee h Y Y (show(_:List CD)=[aY (cw ss c)]from by(first | (rw[e9];done) | (rw[e9];rfl) | rw[e9,<-e1])<;>rfl)))
  ·have hg:=jW _ (aE (xs:=c.args) (k:=0) oz)
   have n8:=GN bw hg.1 hg.2
   refine ak (nx (af (aj tb V [0,1,2,3,1000] [_] U5 ?_)))
   refine ax (lpo (ι:=Nat×(List Stp)) (λ(k,out)=>(k<=ss.length)/\(out=jn (jM c) ss k)) (λ(_,out)=>[OB.var b4 [.lit v3],OB.row v3 88 2 (out.map bx),OB.var b1 [aY ([]:List Stp)]]) (λ(k,_)=>[(7,.int (k:Nat))]) (λ(k,_)=>ss.length-k) (r5 []) U4 (0,([]:List Stp)++ss) ⟨aI,xe.symm⟩ ?_)
   rintro⟨k,out⟩ ⟨aQ,ah⟩
   refine af (l8 tb V (r5 [1004]) [_,.at b4 0,.lit v3,.int (out.length:Nat),_] [1,2,3] U6 Y ⟨λ_ _ _ Z hl _=>cy ie Y (hl.env 0 5 _ Y Y) Z,λ_ _ _ Z hl _=>cg iD Y (uu Z (mo 0 Y)) (hl.D 1 48 Y Y) Y Z,λ_ _ _ Z hl _=>kq eo Y (kI hS Z (mo 1 Y) (hl.D 2 49 Y Y)) Z,U⟩ ?_)
   refine cj 5 ?_ ?_<;>intro aD<;>try simp at aD
   ·have e5:out.length=ss.length:=by rw[ah,qv]
    have e6:=xk bw (show k<ss.length by omega)
    have e8:G out k=G ss k:=by rw[ah,rZ oz]
    have e7:(G out k).args.length<=40:=by rw[e8];exact e6
    refine ak (nx (af (ax (af (cC (kz c8 V Y Y Y (lb Y) λv9=>sy (.at b4 0) (λh=>cy ie Y (h.get 1 Y) h.x) (sy (.lit v3) (λh=>cg iD Y (aG h.x (mo 1 Y)) (h.get 0 Y) Y h.x) ?_)))))))
    refine ao 1 tb Y (sy (.lit (cG v3 (k*2))) (λh=>eZ (i:=(k:Int)) eq Y (aG h.x (mo 2 Y)) (h.get 1 Y) (h.get 0 Y) bK (by rw[length_map];exact Int.ofNat_lt.2 ay) h.x) ?_)
    refine sy (.lit (cG v3 (k*2+1))) (λh=>xz mQ Y (aG h.x (mo 2 Y)) (by rw[length_map];exact Nat.lt_of_le_of_lt (Nat.zero_le k) ay) (h.get 0 Y) h.x) ?_
    refine sy (.rd (bQ ((G out k).args))) (λh=>H5 (i:=k) (j:=1) iV Y (aG h.x (mo 2 Y)) (h.get 0 Y) (iG (xs:=out) (k:=k) ay) Y h.x) ?_
    refine fN (f:=bT) (m:=6) (s:=54) ([]:List Int) ((G out k).args) (λ_=>Y) pL V hJ0 Y Y Y (lb Y) Y Y (λa w h=>(h.get 0 Y)) ay ay λv10=>ao 1 tb Y (aA [0,2,9,10,11,12,13] U7 Y (nx (ln 1 λhl2=>?_)))
    refine af (aj tb V [0,2,3,4,5,6,1000] [_] U7 ?_)
    refine ax (lpo (ι:=Nat×(List Int)) (λ(q,nums)=>(q<=(G ss k).args.length)/\(nums=jn (mr c) (G ss k).args q)) (λ(_,nums)=>[OB.row v10 3 1 (nums.map bT),OB.var b4 [.lit v3],OB.row v3 88 2 (out.map bx),OB.var b1 [aY ([]:List Stp)]]) (λ(q,_)=>[(9,.int (q:Nat))]) (λ(q,_)=>(G ss k).args.length-q) (r7 []) U6 (0,([]:List Int)++((G out k).args)) ⟨aI,by show(G out k).args=_;rw[e8,xe]⟩ ?_)
    rintro⟨q,nums⟩ ⟨fD,bu⟩
    refine af (l8 tb V (r7 [1003]) [_,_,.int (nums.length:Nat),_] [2] U8 Y ⟨λ_ _ _ Z hl _=>kq fb Y (kI hS Z (mo 0 Y) (hl.D 1 63 Y Y)) Z,U⟩ ?_)
    refine cj 7 ?_ ?_<;>intro bd<;>try simp at bd
    ·have e4:nums.length=(G ss k).args.length:=by rw[bu,qv]
     have e10:G nums q=G (G ss k).args q:=by rw[bu,rZ oz]
     refine ak (nx (af (ax (au tb V (r7 [1006]) [_,_,.lit (cG v10 (q*1)),.int (G nums q),_,_,_] [2,3] U8 Y ⟨λ_ _ _ Z hl _=>eZ (i:=(q:Int)) c8 Y (aG Z (mo 0 Y)) (hl.D 0 68 Y Y) (hl.D 1 69 Y Y) bK (by rw[length_map];exact Int.ofNat_lt.2 ay) Z,λ_ _ _ Z hl _=>nn (i:=q) gd Y (aG Z (mo 0 Y)) (hl.D 2 70 Y Y) (iG (xs:=nums) (k:=q) ay) Z,U⟩ ?_))))
     refine cj 7 ?_ ?_<;>intro bW<;>try simp at bW
     ·rw[e10]at bW
      refine cC (ao 4 tb Y (sy (.ptr [lI (G c.args 0)]) (λh=>cb (i:=((0:Nat):Int)) c8 Y (h.get 0 Y) (Rel.aH (.int .i64 0)) bK (cl (xs:=c.args) (k:=0) ay) Y h.x) ?_))
      refine ao 1 tb Y (sy (.lit (cG v10 (q*1))) (λh=>eZ (i:=(q:Int)) c8 Y (aG h.x (mo 0 Y)) (h.get 5 Y) (h.get 4 Y) bK (by rw[length_map];exact Int.ofNat_lt.2 ay) h.x) ?_)
      refine qT (i:=q) V hJ0 qN Y Y Y (by rw[length_map];exact ay) (λa w h=>⟨(h.get 0 Y),(h.get 1 Y)⟩) ?_
      rw[show(nums.map bT).set q [lI (G c.args 0)]=(nums.set q (G c.args 0)).map bT from map_set.symm]
      refine aA [3,7,8,9,10,11,12,13] U8 Y (nx (ln 0 λhl3=>?_))
      refine aT tb V [1,2,3,4,5,6,1002] [_,.int (q+1:Nat),_] [1] U7 Y ⟨aM,U⟩ ?_
      exact br (q+1,nums.set q (G c.args 0)) (r7 []) ⟨oz,by first | (rw[bu,<-qw (f:=mr c) oz];simp[mr,bW];done) | (rw[bu];exact xd oz (if_neg bW))⟩
     ·rw[e10]at bW
      refine ak (nx (aT tb V (r6 [1002]) [_,.int (q+1:Nat),_] [1] U7 Y ⟨aM,U⟩ ?_))
      exact br (q+1,nums) (r7 []) ⟨oz,by first | (rw[bu,<-qw (f:=mr c) oz];simp[mr,bW];done) | (rw[bu];exact xd oz (if_neg bW))⟩
    ·have e4:nums.length=(G ss k).args.length:=by rw[bu,qv]
     refine aW (nx (tw (λh=>dU hS h (m:=0) (s:=8) Y) (cC (sq (.at b4 0) Y Y (lb Y) (λ_ _ h=>cy ie Y (h.get 1 Y) h.x) (sy (.lit v3) (λh=>cg iD Y (aG h.x (mo 0 Y)) (h.get 0 Y) Y h.x) ?_)))))
     refine ao 2 tb Y (sy (.lit (cG v3 (k*2))) (λh=>eZ (i:=(k:Int)) eq Y (aG h.x (mo 1 Y)) (h.get 2 Y) (h.get 1 Y) bK (by rw[length_map];exact Int.ofNat_lt.2 ay) h.x) ?_)
     refine sy (.lit (cG v3 (k*2+1))) (λh=>xz mQ Y (aG h.x (mo 1 Y)) (by rw[length_map];exact Nat.lt_of_le_of_lt (Nat.zero_le k) ay) (h.get 0 Y) h.x) ?_
     refine kw bO (VG (i:=k) (j:=1) (c:=bQ nums) V hJ0 qM Y Y Y (iG (xs:=out) (k:=k) ay) (lb Y) (λa w h=>⟨(h.get 0 Y),(h.get 2 Y)⟩) ?_)
     rw[show(out.map bx).set k ((bx (G out k)).set 1 (bQ nums))=(out.set k (⟨(G out k).ae,nums⟩:Stp)).map bx from by rw[map_set];rfl]
     refine aA [2,6,7,8,9,10,11] U7 Y (nx (ln 0 λtR=>?_))
     refine aT tb V [2,3,4,5,1002] [_,.int (k+1:Nat),_] [1] U5 Y ⟨aM,U⟩ ?_
     refine kw du (kw bO (kw du (br (k+1,out.set k (⟨(G out k).ae,nums⟩:Stp)) (r5 []) ⟨oz,by rw[ah,rZ oz,bu,xc (l:=(G ss k).args) (q:=q) oz,IF,qw oz]⟩)))
   ·have e5:out.length=ss.length:=by rw[ah,qv]
    have e1:out=ss.map (jM c):=by rw[ah,xc (l:=ss) (q:=k) oz]
    have e9:cw ss c=gU (ss.map (jM c)) (ss.length-1):=by rw[<-Af,s4,if_neg hb1,if_neg oz]
    refine aW (nx (tw bO (tw (λh=>mu (j:=0) (cs':=[aY out]) hS Y Y h) (aL (sy (.agg (be out)) (λh=>fA (ds:=[aY out]) ee Y (aG h.x (mo 0 Y)) (h.get 0 Y) Y Y h.x) ?_)))))
    refine ao 1 tb Y (sy (.agg (be (gU out (ss.length-1)))) (λh=>cV (vF V out (ss.length-1) (by first | exact un bw (k:=c.step.toNat) (s:=⟨c.ae,c.args⟩) ⟨dl,λa ha=>by have:=jW a ha;omega⟩ | (rw[e1];exact n8)) (by first | (show ss.length-1< (ss.set _ _).length;rw[List.length_set];omega) | (rw[e1,length_map];omega))) (cO func53) Y (aK hS _ h.keep h.x) (h.x.1) (aq (h.get 1 Y) (aq (h.get 0 Y) aN)) (jo V h.x)) ?_)
    refine kw bO (ce (b:=b1) (off:=0) (es:=[_]) (news:=[_]) V hJ0 fI Y Y Y (lb Y) Y (λa w h=>⟨(h.get 4 Y),(h.get 0 Y)⟩) (aA [4] [_] Y (nx (aX (λa w h=>j0 (m:=0) Y ee h Y Y (show(_:List CD)=[aY (cw ss c)]from by(first | (rw[e9];done) | (rw[e9];rfl) | rw[e9,<-e1])<;>rfl))))))
theorem JX:fY prog 31 6:=aO
theorem NK:db prog 31 4 4:=fO
theorem NL:db prog 31 5 5:=fO
section
variable {J:WP} (V:aR J)
include V
theorem Lc (d:Db) (z:Int) (ss:List Stp) (y:Int) (st:Stp) (tx:List BA) (hw:∀ f∈d.ab,f.wide.length*32<=140737488351232) (hap:∀ f∈d.ab,f.apart.length<=100000) (PS:0<=y) (rU:y< (ss.length:Int)) (Ft:ss.length<=2000):Fn prog J 74 [.agg (bV d),.int z,.agg (be ss),.int y,.agg (bx st),.rd (ai tx)] (.bool (qb d z ss y.toNat st tx)):=by
 obtain⟨n,rfl⟩:=Int.eq_ofNat_of_zero_le PS
 exact Lb V d z ss n st tx hw hap oz Ft
theorem K5 (d:Db) (z:Int) (ss:List Stp) (ts:List (List BA)) (c:bZ) (hw:∀ f∈d.ab,f.wide.length*32<=140737488351232) (hr:cQ d z ss=0) (jZ:ts=(aZ d z ss).1) (gT:0<=c.step) (f8:c.step< (ss.length:Int)):Fn prog J 37 [.agg (bV d),.int z,.agg (be ss),.rd (cu ts),.agg (cm c)] (.bool (kD (⟨d,z.toNat,ss,ts,[]⟩:Jb) c)):=by
 refine fE func37 λS w0 hS hJ0=>?_
 refine tw cc (ln 3 λcr=>?_)
 have bw:=(nb hr).2
 have hap:=DG (nb hr).1.pQ
 have hlt:ts.length=ss.length:=by rw[jZ];exact(nb hr).1.len
 have cr:=bw.2.1
 have XX:z.toNat<d.ab.length:=(nb hr).1.at'
 have lC:=(oE (nK (oi hr).1).1).2.1
 refine au tb V [1,3,1000,1001,1002] [.ptr (bV d),.ptr (be ss),.ptr (cm c),_] [0,1,2] U5 Y ⟨cY hS V,cY hS V,cY hS V,U⟩ ?_
 refine af (aj tb V (r5 [1000]) [_] U6 ?_)
 refine ax (lpo (ι:=Nat) (λk=>(k<=c.args.length)/\(∀ j,j<k->hZ c (G c.args j)=false)) (λ_=>[]) (λk=>[(11,.int (k:Nat))]) (λk=>c.args.length-k) (r6 []) U5 0 ⟨aI,λj hj=>by omega⟩ ?_)
 rintro k ⟨aQ,ah⟩
 refine af (au tb V (r6 [1002,1004]) (V3 [.int (c.args.length:Nat),_]) [3] U8 Y ⟨aC fb,U⟩ ?_)
 refine ln 6 λ_=>?_
 refine cj 7 ?_ ?_<;>intro hb1<;>try simp at hb1
 ·refine ak (nx (af (ax (au tb V (r6 [1015]) (V3 [.ptr [lI (G c.args k)],_,_,_,_,_,_,.ptr [lI (G c.args k)],_,_,_,_,_]) [3,10] U7 Y ⟨bq c8,cT c8 (hk:=λ(aF:((decide ((G c.args k)< (0:Int)))==false)=true)=>by(try simp at aF);first | omega | (simp;omega) | grind[aE]),U⟩ ?_))))
  refine cj 6 ?_ ?_<;>intro hb2
  ·have eF:kD (⟨d,z.toNat,ss,ts,[]⟩:Jb) c=false:=Np (J4 (c:=c) (k:=k) oz hb2)
   refine aj tb V [1000] [_] [_] ?_
   exact bH 0 (hE:=eB (by first | (rw[eF];done) | exact wg (j:=(⟨d,z.toNat,ss,ts,[]⟩:Jb)) qe aD))
  ·refine ak (nx (aT tb V (r5 [1002]) [_,.int (k+1:Nat),_] [1] U6 Y ⟨aM,U⟩ ?_))
   exact br (k+1) (r6 []) ⟨oz,cB ah hb2⟩
 ·have qe:c.args.any (hZ c)=false:=J5 λj hj=>ah j oz
  have gS:=tT qe
  refine aW (nx (af (aj tb V (r5 [1002]) U3 U6 ?_)))
  refine cj 5 ?_ ?_<;>intro aD<;>try simp at aD
  ·refine au tb V [1024] [_,_,.int (c.args.length:Nat),_,_,_,_,_,_,_,_,_,_,.ptr [lI (G c.args 0)],_,.ptr [ai (G ts (G c.args 0).toNat)],_,_,_,_,.ptr [ai (G ts c.step.toNat)],_,.bool (decide ((G ts (G c.args 0).toNat)=(G ts c.step.toNat))),_,_] [2,13,15,20,22] [_] Y ⟨aC fb,cT (k:=0) c8 (hk:=λ(aF:(((decide ((c.args.length:Int)=(1:Int)))&& (decide (c.ae=(⟨#[]⟩:BA))))==true)=true)=>by(try simp at aF);first | omega | (simp;omega) | grind[aE]),λ_ _ _ Z hl hc=>cb (i:=(G c.args 0)) eG Y (hl.D 10 49 Y hc) (hl.D 14 53 Y hc) (by have aF:(((decide ((c.args.length:Int)=(1:Int)))&& (decide (c.ae=(⟨#[]⟩:BA))))==true)=true:=hc;(try simp at aF);(first | omega | (simp;omega) | grind[aE])) (ol (xs:=ts) (i:=(G c.args 0)) (by have aF:(((decide ((c.args.length:Int)=(1:Int)))&& (decide (c.ae=(⟨#[]⟩:BA))))==true)=true:=hc;(try simp at aF);(first | omega | (simp;omega) | grind[aE])) (by have aF:(((decide ((c.args.length:Int)=(1:Int)))&& (decide (c.ae=(⟨#[]⟩:BA))))==true)=true:=hc;(try simp at aF);(first | omega | (simp;omega) | grind[aE]))) Y Z,λ_ _ _ Z hl hc=>cb (i:=c.step) eG Y (hl.D 17 56 Y hc) (hl.D 19 58 Y hc) (by have aF:(((decide ((c.args.length:Int)=(1:Int)))&& (decide (c.ae=(⟨#[]⟩:BA))))==true)=true:=hc;(try simp at aF);(first | omega | (simp;omega) | grind[aE])) (ol (xs:=ts) (i:=c.step) (by have aF:(((decide ((c.args.length:Int)=(1:Int)))&& (decide (c.ae=(⟨#[]⟩:BA))))==true)=true:=hc;(try simp at aF);(first | omega | (simp;omega) | grind[aE])) (by have aF:(((decide ((c.args.length:Int)=(1:Int)))&& (decide (c.ae=(⟨#[]⟩:BA))))==true)=true:=hc;(try simp at aF);(first | omega | (simp;omega) | grind[aE]))) Y Z,bJ hS V (Dw V (G ts (G c.args 0).toNat) (G ts c.step.toNat)) (cO func72),U⟩ ?_
   exact bH 0 (hE:=eB (by first | (rw[eF];done) | exact wg (j:=(⟨d,z.toNat,ss,ts,[]⟩:Jb)) qe aD))
  ·refine ak (nx (au tb V (r5 [1004]) (V3 [.int (bR d c.ae),_]) [3] U6 Y ⟨bJ hS V (K4 V d c.ae) (cO func73),U⟩ ?_))
   refine af (au tb V (r5 [1019]) (pC [.int (c.args.length:Nat),_,_,_,.ptr (a8 (G d.ab (bR d c.ae).toNat)),_,_,.int (((G d.ab (bR d c.ae).toNat).aa).length:Nat),_,_]) [10,14,17] U6 Y ⟨aC fb,λ_ _ _ Z hl hc=>cb (i:=bR d c.ae) fT Y (hl.D 12 79 Y hc) (hl.D 13 80 Y hc) (by have aF:(((decide (bR d c.ae< (0:Int)))|| (decide (z<=bR d c.ae)))==false)=true:=hc;(try simp at aF);(first | omega | (simp;omega) | grind[aE])) (ol (xs:=d.ab) (i:=bR d c.ae) (by have aF:(((decide (bR d c.ae< (0:Int)))|| (decide (z<=bR d c.ae)))==false)=true:=hc;(try simp at aF);(first | omega | (simp;omega) | grind[aE])) (by have aF:(((decide (bR d c.ae< (0:Int)))|| (decide (z<=bR d c.ae)))==false)=true:=hc;(try simp at aF);(first | omega | (simp;omega) | grind[aE]))) Y Z,aC cW,U⟩ ?_)
   refine cj 5 ?_ ?_<;>intro bd
   ·have eF:kD (⟨d,z.toNat,ss,ts,[]⟩:Jb) c=false:=Nq qe aD (by simp only[Bool.or_eq_true,decide_eq_true_eq,Bool.not_eq_true',decide_eq_false_iff_not]at bd;(try dsimp only);omega)
    refine aj tb V [1000] [_] [_] ?_
    exact bH 0 (hE:=eB (by first | (rw[eF];done) | exact wg (j:=(⟨d,z.toNat,ss,ts,[]⟩:Jb)) qe aD))
   ·simp only[Bool.or_eq_false_iff,decide_eq_false_iff_not,Bool.not_eq_false',decide_eq_true_eq]at bd
    have eF:=Nr hr jZ qe aD gT f8 oz oz oz
    refine ak (nx (au tb V [1014,1016] (V9 [.agg (bx (⟨c.ae,c.args⟩:Stp)),_,_,_,.ptr [ai (G ts c.step.toNat)],_,.bool (qb d z ss c.step.toNat (⟨c.ae,c.args⟩:Stp) (G ts c.step.toNat)),_]) [9,13,15] U2 Y ⟨λa _ _ Z hl _=>gq (us:=[a.eval (.tmp 93),a.eval (.tmp 95)]) rm Y yz (b6 (hl.D 6 93 Y Y) (b6 (hl.D 8 95 Y Y) cM)) Y Z,wT eG,bJ hS V (Lc V d z ss c.step (⟨c.ae,c.args⟩:Stp) (G ts c.step.toNat) (by exact hw) (by exact hap) (by exact gT) (by exact f8) (by exact cr)) (cO func74),U⟩ ?_))
    refine ln 0 λ_=>?_
    exact bH 1 (hE:=eB (by first | (rw[eF];done) | exact wg (j:=(⟨d,z.toNat,ss,ts,[]⟩:Jb)) qe aD))
theorem KL (d:Db) (z:Int) (ss:List Stp) (c:bZ) (hw:∀ f∈d.ab,f.wide.length*32<=140737488351232) (dl:c.args.length<=40):Fn prog J 12 [.agg (bV d),.int z,.agg (be ss),.agg (cm c)] (.bF [.agg (be ((cz d z ss c).1)),.int ((cz d z ss c).2)]):=by
 refine fE func12 λS w0 hS hJ0=>?_
 refine tw cc (aL (sy (.ptr (bV d)) (λh=>fk Y (h.get 0 Y) (aK hS _ h.keep h.x _ aV) (jo V h.x)) ?_))
 refine sy (.ptr (be ss)) (λh=>fk Y (h.get 3 Y) (aK hS _ h.keep h.x _ aV) (jo V h.x)) ?_
 refine sy (.ptr (cm c)) (λh=>fk Y (h.get 5 Y) (aK hS _ h.keep h.x _ aV) (jo V h.x)) ?_
 refine cx jz V Y Y Y (lb Y) λb1=>ao 1 tb (env':=[(9,_),(8,_),(7,_),(6,_),(4,_),(0,_),(1,_),(2,_),(3,_)]) Y (aA [1,2,3,4,6] U5 Y (nx (au tb V (r5 [1005,1007,1008]) (V3 [.bF [.rd (cu (if cQ d z ss=0 then(aZ d z ss).1 else [])),.int (cQ d z ss)],_,_,_,_,_]) [3] U8 Y ⟨bJ hS V (Dn V d z ss (by exact hw)) (cO func36),U⟩ ?_)))
 refine ln 5 λ_=>?_
 refine af (aj tb V (r5 [6,7,1001]) U2 U8 ?_)
 refine cj 7 ?_ ?_<;>intro hb1<;>try simp at hb1
 ·have eA:cz d z ss c=([],cQ d z ss):=if_pos hb1
  refine aL (sy (.agg (be ([]:List Stp))) (λh=>gr (ps:=[]) (us:=[.slice none 0 0]) mK Y yz gn Y (dT (.nil _ _ aI) cM) h.x) ?_)
  refine ao 1 tb (env':=[(23,_),(22,_),(8,_),(7,_),(6,_),(4,_),(1,_),(10,_),(11,_),(21,_)]) Y (ce (b:=b1) (off:=0) (es:=[_]) (news:=[_]) V hJ0 fI Y Y Y (lb Y) Y (λa w h=>⟨(h.get 2 Y),(h.get 1 Y)⟩) (ao 1 tb (env':=[(9,_),(23,_),(22,_),(8,_),(7,_),(6,_),(4,_),(1,_),(10,_),(11,_),(21,_)]) Y (aA [0,3] U2 Y (nx (aX (λa w h=>ja (m:=1) (q:=0) Y ee h Y Y (show(_:List CD)=[aY ((cz d z ss c).1)]from by(rw[eA])<;>rfl) Y (eI (by rw[eA]))))))))
 ·have jZ:(if cQ d z ss=0 then(aZ d z ss).1 else [])=(aZ d z ss).1:=if_pos hb1
  have bw:=(nb hb1).2
  refine ak (nx (af (aj tb V (r6 [1007]) U8 U7 ?_)))
  refine cj 6 ?_ ?_<;>intro hb2
  ·have eA:cz d z ss c=([],1):=by rw[cz,if_neg (by simp[hb1]),if_pos (by simpa using hb2)]
   refine aL (sy (.agg (be ([]:List Stp))) (λh=>gr (ps:=[]) (us:=[.slice none 0 0]) mK Y yz gn Y (dT (.nil _ _ aI) cM) h.x) ?_)
   refine ce (b:=b1) (off:=0) (es:=[_]) (news:=[_]) V hJ0 fI Y Y Y (lb Y) Y (λa w h=>⟨(h.get 1 Y),(h.get 0 Y)⟩) (ao 1 tb (env':=[(9,_),(32,_),(8,_),(7,_),(6,_),(4,_),(1,_),(10,_),(31,_)]) Y (aA [0,2] U2 Y (nx (aX (λa w h=>ja (m:=1) (q:=0) Y ee h Y Y (show(_:List CD)=[aY ((cz d z ss c).1)]from by(rw[eA])<;>rfl) Y (eI (by rw[eA])))))))
  ·have oW:¬ (¬ c.dN=1/\¬ c.dN=2):=by simpa using hb2
   refine ak (nx (af (au tb V (r6 [1010]) (V8 [.int (ss.length:Nat),_,_]) [8] U7 Y ⟨aC eo,U⟩ ?_)))
   refine cj 6 ?_ ?_<;>intro aD
   ·have eA:cz d z ss c=([],3):=by rw[cz,if_neg (by simp[hb1]),if_neg oW,if_pos (by simpa using aD)]
    refine aL (sy (.agg (be ([]:List Stp))) (λh=>gr (ps:=[]) (us:=[.slice none 0 0]) mK Y yz gn Y (dT (.nil _ _ aI) cM) h.x) ?_)
    refine ce (b:=b1) (off:=0) (es:=[_]) (news:=[_]) V hJ0 fI Y Y Y (lb Y) Y (λa w h=>⟨(h.get 1 Y),(h.get 0 Y)⟩) (ao 1 tb (env':=[(9,_),(44,_),(8,_),(7,_),(6,_),(4,_),(1,_),(10,_),(43,_)]) Y (aA [0,2] U2 Y (nx (aX (λa w h=>ja (m:=1) (q:=0) Y ee h Y Y (show(_:List CD)=[aY ((cz d z ss c).1)]from by(rw[eA])<;>rfl) Y (eI (by rw[eA])))))))
   ·have gT:0<=c.step/\c.step< (ss.length:Int):=by simpa using aD
    refine ak (nx (af (au tb V [0,1,2,1006] (V5 [.bool (kD (⟨d,z.toNat,ss,(if cQ d z ss=0 then(aZ d z ss).1 else []),[]⟩:Jb) c),_]) [5] U4 Y ⟨bJ hS V (K5 V d z ss (if cQ d z ss=0 then(aZ d z ss).1 else []) c (by exact hw) (by exact hb1) (by exact jZ) (by exact gT.1) (by exact gT.2)) (cO func37),U⟩ ?_)))
    refine cj 3 ?_ ?_<;>intro bd
    ·rw[jZ]at bd
     have eA:cz d z ss c=([],260):=by rw[cz,if_neg (by simp[hb1]),if_neg oW,if_neg oz,if_pos (Ns (by simpa using bd))]
     refine aL (sy (.agg (be ([]:List Stp))) (λh=>gr (ps:=[]) (us:=[.slice none 0 0]) mK Y yz gn Y (dT (.nil _ _ aI) cM) h.x) ?_)
     refine ce (b:=b1) (off:=0) (es:=[_]) (news:=[_]) V hJ0 fI Y Y Y (lb Y) Y (λa w h=>⟨(h.get 1 Y),(h.get 0 Y)⟩) (ao 1 tb (env':=[(9,_),(52,_),(8,_),(7,_),(6,_),(51,_)]) Y (aA [0,2] U2 Y (nx (aX (λa w h=>ja (m:=1) (q:=0) Y ee h Y Y (show(_:List CD)=[aY ((cz d z ss c).1)]from by(rw[eA])<;>rfl) Y (eI (by rw[eA])))))))
    ·rw[jZ]at bd
     have jk:=Nt (by simpa using bd)
     have hc1:c.dN=2∨1<=c.args.length:=by have:=jk.2.1;omega
     refine ak (nx (aL (ao 2 tb (env':=[(54,_),(53,_),(8,_),(7,_),(6,_),(51,_)]) Y (sy (.agg (be (cw ss c))) (λh=>cV (K1 V ss c (by exact bw) (by exact gT.1) (by exact gT.2) (by exact jk.1) (by exact dl) (by exact hc1)) (cO func38) Y (aK hS _ h.keep h.x) (h.x.1) (aq (h.get 1 Y) (aq (h.get 0 Y) aN)) (jo V h.x)) ?_))))
     refine iX (cs:=be (cw ss c)) W4 Y Y Y (lb Y) Y Y Y dz (m:=0) Y Y (λa w h=>aK hS _ h.keep h.x _ aV) (λa w h w' hk'=>fo V _ _ hk' h.x) (aA [0,4,5,6] U4 Y (nx (af (au tb V [0,1,1019] (V3 [.int ((dd ss):Nat),_,_,_,_,_,_,.int ((cw ss c).length:Nat),_,_,_,_,_,_,_,_,_]) [3,10] U3 Y ⟨bJ hS V (KY V ss (by exact bw)) (cO func26),aC eo,U⟩ ?_))))
     refine cj 2 ?_ ?_<;>intro bW
     ·simp only[Bool.or_eq_true,Bool.not_eq_true',decide_eq_false_iff_not,decide_eq_true_eq]at bW
      have hh:iB (fx d z ss) c=false:=by rw[jk.2.2,decide_eq_false_iff_not];omega
      have eA:cz d z ss c=([],260):=by rw[cz,if_neg (by simp[hb1]),if_neg oW,if_neg oz,if_pos hh]
      refine aL (sy (.agg (be ([]:List Stp))) (λh=>gr (ps:=[]) (us:=[.slice none 0 0]) mK Y yz gn Y (dT (.nil _ _ aI) cM) h.x) ?_)
      refine ce (b:=b1) (off:=0) (es:=[_]) (news:=[_]) V hJ0 fI Y Y Y (lb Y) Y (λa w h=>⟨(h.get 2 Y),(h.get 0 Y)⟩) (ao 1 tb (env':=[(9,_),(76,_),(12,_),(8,_),(75,_)]) Y (aA [0,3] U2 Y (nx (aX (λa w h=>ja (m:=1) (q:=0) Y ee h Y Y (show(_:List CD)=[aY ((cz d z ss c).1)]from by(rw[eA])<;>rfl) Y (eI (by rw[eA])))))))
     ·simp only[Bool.or_eq_false_iff,Bool.not_eq_false',decide_eq_false_iff_not,decide_eq_true_eq]at bW
      have hh:iB (fx d z ss) c=true:=by rw[jk.2.2,decide_eq_true_eq];omega
      have eA:cz d z ss c=(cw ss c,0):=by rw[cz,if_neg (by simp[hb1]),if_neg oW,if_neg oz,if_neg (by simp[hh])]
      refine ak (nx (aL (ao 1 tb (env':=[(77,_),(12,_),(8,_),(75,_)]) Y (ce (b:=b1) (off:=0) (es:=[_]) (news:=[_]) V hJ0 fI Y Y Y (lb Y) Y (λa w h=>⟨(h.get 2 Y),(h.get 0 Y)⟩) (ao 1 tb (env':=[(9,_),(77,_),(12,_),(8,_),(75,_)]) Y (aA [0,3] U2 Y (nx (aX (λa w h=>ja (m:=1) (q:=0) Y ee h Y Y (show(_:List CD)=[aY ((cz d z ss c).1)]from by(rw[eA])<;>rfl) Y (eI (by rw[eA])))))))))))
end
section
variable {J:WP} (V:aR J)
include V
theorem TA (a':Stp) (b':Stp)  :Fn prog J 48 [.agg (bx (a')),.agg (bx (b'))] (.bool (decide (a'=b'))):=by
 refine fE func48 λS w0 hS hJ0=>?_
 clear hJ0
 refine aJ tb V [1000,1001] [.ptr (bx (a')),.ptr (bx (b')),_] [0,1] U2 Y ⟨d9 hS V,d9 hS V,U⟩ ?_
 refine aJ tb V [1012] (pC [.bool (decide (((a').args)=((b').args))),_,_]) [10] [_] Y ⟨dh hS V (G4 V ((a').args) ((b').args)) (cO func31),U⟩ ?_
 exact aU 0 (hE:=eB (by rw[<-VW]))
theorem SF (xs ys:List Stp) (f:FuncId) (caps:List AV) (Os:List OB) (hf:∀ q' r',cD prog J f Os ([.agg (bx (q')),.agg (bx (r'))]++caps) (.bool (decide (q'=r')))) (hk0:dy prog f):cD prog J 47 Os [.rd (aY xs),.rd (aY ys),.fn f caps] (.bool (decide (xs=ys))):=by
 refine eV func47 λS w0 hS hJ0 hH=>?_
 refine tw cc (ln 0 λcr=>?_)
 refine ln 1 λ_=>?_
 refine aj tb V [0,1,2] [_] U3 ?_
 refine af (au tb V [0,1,2,1004] [_,.int (xs.length:Nat),_,.int (ys.length:Nat),_] [1,3] U4 Y ⟨aC eo,aC eo,U⟩ ?_)
 refine cj 3 ?_ ?_<;>intro hb1<;>try simp at hb1
 ·refine aj tb V [1000] [_] [_] ?_
  exact bH 0 (hE:=eB (by first | (have:=ib (xs:=xs) (ys:=ys) oz (λj hj=>ah j oz);simp[this];done) | (symm;rw[decide_eq_false_iff_not];intro e;subst e;simp_all;done)))
 ·refine ak (nx (af (au tb V [1,2,1000,1001,1002] [_,.int (xs.length:Nat),_] [1] U5 Y ⟨aC eo,U⟩ ?_)))
  refine ax (lpo (ι:=Nat) (λk=>(k<=xs.length)/\(∀ j,j<k->G xs j=G ys j)) (λ_=>[]) (λk=>[(17,.int (k:Nat))]) (λk=>xs.length-k) (r5 []) U4 0 ⟨aI,λj hj=>by omega⟩ ?_)
  rintro k ⟨aQ,ah⟩
  refine aj tb V (r5 [1000]) [_] U6 ?_
  refine cE 5 ?_ ?_<;>intro hb2<;>try simp at hb2
  ·refine ak (nx (af (ax (aL (ao 1 tb Y (sy (.ptr (bx (G xs k))) (λh=>cb (i:=(k:Int)) eq Y (h.get 3 Y) (h.get 5 Y) bK (cl (xs:=xs) (k:=k) ay) Y h.x) ?_))))))
   refine ao 1 tb Y (cx mw V Y Y Y (lb Y) λb1=>ao 1 tb Y (ce (b:=b1) (off:=0) (es:=U2) (news:=U2) V hJ0 mt Y Y Y (lb Y) Y (λa w h=>⟨(h.get 1 Y),(h.get 2 Y)⟩) (aA [0,1,5,6,7,8,9] U7 Y (nx (aL (ao 2 tb Y (sy (.ptr (bx (G ys k))) (λh=>cb (i:=(k:Int)) eq Y (h.get 1 Y) (h.get 0 Y) bK (cl (xs:=ys) (k:=k) ay) Y h.x) ?_)))))))
   refine ao 1 tb Y (cx mw V Y Y Y (lb Y) λb2=>ce (b:=b2) (off:=0) (es:=U2) (news:=U2) V hJ0 mt Y Y Y (lb Y) Y (λa w h=>⟨(h.get 0 Y),(h.get 1 Y)⟩) (aA [0,6,7,8,9,10,11] U7 Y (nx (au tb V [2,3,4,5,6,1004] [_,.agg (bx (G xs k)),.agg (bx (G ys k)),.bool (decide ((G xs k)=(G ys k))),_] [1,2,3] U6 Y ⟨λ_ _ _ Z hl _=>fA (ds:=[lS ((G xs k).ae),bQ ((G xs k).args)]) oD Y (aG Z (mo 1 Y)) (hl.env 1 8 _ Y Y) Y Y Z,λ_ _ _ Z hl _=>fA (ds:=[lS ((G ys k).ae),bQ ((G ys k).args)]) oD Y (aG Z (mo 0 Y)) (hl.env 0 9 _ Y Y) Y Y Z,λ_ _ hk Z hl _=>iE (hf (G xs k) (G ys k)) hk0 Y (hl.D 0 26 Y Y) (aK hS _ hk Z) (Z.1) (λ_ ho=>dC hH hk Z ho) (aq (hl.D 1 27 Y Y) (aq (hl.D 2 28 Y Y) aN)) (jo V Z),U⟩ ?_))))
   refine cj 5 ?_ ?_<;>intro aD<;>try simp at aD
   ·refine aj tb V [1000] [_] [_] ?_
    exact bH 0 (hE:=eB (by first | (have:=ib (xs:=xs) (ys:=ys) oz (λj hj=>ah j oz);simp[this];done) | (symm;rw[decide_eq_false_iff_not];intro e;subst e;simp_all;done)))
   ·refine ak (nx (aT tb V [0,1,2,3,1001] [.int (k+1:Nat),_] [0] U5 Y ⟨aM,U⟩ ?_))
    refine kw cK (kw cK (br (k+1) (r5 []) ⟨oz,cB ah (by simpa using aD)⟩))
  ·refine aW (nx (aj tb V [1000] [_] [_] ?_))
   exact bH 0 (hE:=eB (by first | (have:=ib (xs:=xs) (ys:=ys) oz (λj hj=>ah j oz);simp[this];done) | (symm;rw[decide_eq_false_iff_not];intro e;subst e;simp_all;done)))
theorem Tp (a:Int) (c:bZ)  :Fn prog J 66 [.int a,.ptr [lI c.dN,lI c.step,lS c.ae,bQ c.args,lI c.before,lI c.after]] (.bool (hZ c a)):=by
 refine fE func66 λS w0 hS hJ0=>?_
 clear hJ0
 refine qs tb V [0,1] [_] U2 ?_
 refine qs tb V [1008] U9 [_] ?_
 exact aU 0 (hE:=eB (Y))
theorem Tn (d:Db) (i:Nat) (ss:List Stp) (ts:List (List BA)) (M:Nat) (mm:List (BA×Int)) (gf:Fr) (al:List Int) (z:Int) (hW:lP (⟨d,i,ss,ts,mm⟩:Jb)) (rL:gf∈d.ab) (l6:al.length=gf.aa.length) (gS:∀ a∈al,0<=a/\a<z) (lC:0<=z) (f9:z< (ss.length:Int)):Fn prog J 68 [.ptr (jC d i ss ts M),.agg (a8 gf),.rd (bQ al),.int z] (.bool (fF (⟨d,i,ss,ts,mm⟩:Jb) gf al z.toNat)):=by
 obtain⟨step,rfl⟩:=Int.eq_ofNat_of_zero_le lC
 have hl:ts.length=ss.length:=hW.len
 exact Hh V d i ss ts M gf al step (hW.fl gf rL) hW.hi (λt ht=>(hW.ts t ht).1) (λj hj=>by have:=gS _ (aE hj);omega) l6 oz (hW.gh gf rL) (λh hh=>(hW.tx gf rL h hh).2) hW.wd
theorem To (d:Db) (i:Nat) (ss:List Stp) (ts:List (List BA)) (M:Nat) (mm:List (BA×Int)) (c:bZ) (hW:lP (⟨d,i,ss,ts,mm⟩:Jb)) (gT:0<=c.step) (f8:c.step< (ss.length:Int)) (dl:c.args.length<=40) (FA:c.dN=1∨c.dN=2):Fn prog J 33 [.ptr (jC d i ss ts M),.agg (cm c)] (.bool (iB (⟨d,i,ss,ts,mm⟩:Jb) c)):=by
 refine fE func33 λS w0 hS hJ0=>?_
 refine tw cc (au tb V [0,1000] [.ptr (cm c),_] [0] U2 Y ⟨cY hS V,U⟩ ?_)
 refine af (au tb V [0,1,1001,1003] [_,_,.fn 66 [.ptr (cm c)],.bool (c.args.any (hZ c))] [2,3] U4 Y ⟨λ_ _ _ Z hl _=>lf (caps:=[(.tmp 3)]) Y (aq (hl.env 1 3 _ Y Y) aN) Z,λ_ _ hk Z hl _=>dv (G3 V c.args 66 [.ptr (cm c)] [] (hZ c) (λq'=>(Tp V q' c).rr) ((cO func66))) (cO func65) Y (aK hS _ hk Z) (Z.1) b8 (aq (hl.D 1 9 Y Y) (aq (hl.D 2 10 Y Y) aN)) (jo V Z),U⟩ ?_)
 refine ln 2 λ_=>?_
 refine cj 3 ?_ ?_<;>intro hb1
 ·have eH:=Fx (j:=(⟨d,i,ss,ts,mm⟩:Jb)) (c:=c) hb1
  refine aj tb V [1000] [_] [_] ?_
  exact bH 0 (hE:=eB (by first | (rw[eH];done) | (rw[eH];exact tU)))
 ·have gS:=tT hb1
  have hlt:ts.length=ss.length:=hW.len
  have XL:i<d.ab.length:=hW.hi
  refine ak (nx (af (aj tb V [0,1,1002] U3 U3 ?_)))
  refine cj 2 ?_ ?_<;>intro hb2<;>try simp at hb2
  ·refine au tb V [0,1,1030] (V6 [.int (c.args.length:Nat),_,_,_,_,_,_,_,_,_,.ptr [lI (G c.args 0)],_,.ptr [ai (G ts (G c.args 0).toNat)],_,_,_,_,_,_,_,.ptr [ai (G ts c.step.toNat)],_,.bool (decide ((G ts (G c.args 0).toNat)=(G ts c.step.toNat))),_,_]) [6,16,18,26,28] U3 Y ⟨aC fb,cT (k:=0) c8 (hk:=λ(aF:(((!decide (c.ae=(⟨#[]⟩:BA)))|| (!decide ((c.args.length:Int)=(1:Int))))==false)=true)=>by(try simp at aF);first | omega | (simp;omega) | grind[aE]),λ_ _ _ Z hl hc=>cb (i:=(G c.args 0)) eG Y (hl.D 13 28 Y hc) (hl.D 17 32 Y hc) (by have aF:(((!decide (c.ae=(⟨#[]⟩:BA)))|| (!decide ((c.args.length:Int)=(1:Int))))==false)=true:=hc;(try simp at aF);(first | omega | (simp;omega) | grind[aE])) (ol (xs:=ts) (i:=(G c.args 0)) (by have aF:(((!decide (c.ae=(⟨#[]⟩:BA)))|| (!decide ((c.args.length:Int)=(1:Int))))==false)=true:=hc;(try simp at aF);(first | omega | (simp;omega) | grind[aE])) (by have aF:(((!decide (c.ae=(⟨#[]⟩:BA)))|| (!decide ((c.args.length:Int)=(1:Int))))==false)=true:=hc;(try simp at aF);(first | omega | (simp;omega) | grind[aE]))) Y Z,λ_ _ _ Z hl hc=>cb (i:=c.step) eG Y (hl.D 23 38 Y hc) (hl.D 25 40 Y hc) (by have aF:(((!decide (c.ae=(⟨#[]⟩:BA)))|| (!decide ((c.args.length:Int)=(1:Int))))==false)=true:=hc;(try simp at aF);(first | omega | (simp;omega) | grind[aE])) (ol (xs:=ts) (i:=c.step) (by have aF:(((!decide (c.ae=(⟨#[]⟩:BA)))|| (!decide ((c.args.length:Int)=(1:Int))))==false)=true:=hc;(try simp at aF);(first | omega | (simp;omega) | grind[aE])) (by have aF:(((!decide (c.ae=(⟨#[]⟩:BA)))|| (!decide ((c.args.length:Int)=(1:Int))))==false)=true:=hc;(try simp at aF);(first | omega | (simp;omega) | grind[aE]))) Y Z,bJ hS V (xo V (G ts (G c.args 0).toNat) (G ts c.step.toNat)) (cO func58),U⟩ ?_
   refine cj 2 ?_ ?_<;>intro aD
   ·have eH:iB (⟨d,i,ss,ts,mm⟩:Jb) c=false:=As (by rw[i8,if_pos hb2,decide_eq_false_iff_not];rintro⟨h1,h2,h3⟩;dsimp only at h3;simp[h1,h2,h3]at aD)
    refine aj tb V [1000] [_] [_] ?_
    exact bH 0 (hE:=eB (by first | (rw[eH];done) | (rw[eH];exact tU)))
   ·simp only[Bool.or_eq_false_iff,Bool.not_eq_false',decide_eq_true_eq]at aD
    have hk3:i8 (⟨d,i,ss,ts,mm⟩:Jb) c=true:=by rw[i8,if_pos hb2];exact decide_eq_true ⟨aD.1.1,oz,aD.2⟩
    have hc1:c.dN=2∨1<=c.args.length:=.inr oz
    have eH:=At hb1 hk3
    refine ak (nx (aL (ao 2 tb Y (sy (.bF [.agg (cm (ii ss c)),.bool (decide ((((cw ss c).length:Nat):Int)< ((dd ss:Nat):Int)))]) (λh=>cV (Bs V d i ss ts M c (by exact hW.ok) (by exact gT) (by exact f8) (by exact gS) (by exact dl) (by exact hc1)) (cO func69) Y (aK hS _ h.keep h.x) (h.x.1) (aq (h.get 1 Y) (aq (h.get 0 Y) aN)) (jo V h.x)) ?_))))
    refine ao 3 tb Y (cx uV V Y Y Y (lb Y) λb1=>ce (b:=b1) (off:=0) (es:=U6) (news:=U6) V hJ0 uK Y Y Y (lb Y) Y (λa w h=>⟨(h.get 0 Y),(h.get 2 Y)⟩) (ao 1 tb Y (aA [0,1,9] U3 Y (nx (au tb V [1015] [_,_,.at b1 4,.int ((ii ss c).before),_,_,_,_,_,.at b1 5,.int ((ii ss c).after),_,_,_,_,_] [2,3,9,10] [_] Y ⟨λ_ _ _ Z hl _=>cy wm Y (hl.env 1 6 _ Y Y) Z,λ_ _ _ Z hl hc=>cg gd Y (aG Z (mo 0 Y)) (hl.D 2 104 Y hc) Y Z,λ_ _ _ Z hl _=>cy wn Y (hl.env 1 6 _ Y Y) Z,λ_ _ _ Z hl hc=>cg gd Y (aG Z (mo 0 Y)) (hl.D 9 111 Y hc) Y Z,U⟩ ?_)))))
    exact bH 0 (hE:=eB (by first | (rw[eH];done) | (rw[eH];exact tU)))
  ·refine au tb V [0,1,1007] (V6 [.int (bR d c.ae),_]) [6] U3 Y ⟨bJ hS V (G5 V d c.ae) (cO func67),U⟩ ?_
   refine au tb V [0,1,1042] (JW [.int (c.args.length:Nat),_,_,_,_,_,_,.ptr (a8 (G d.ab (bR d c.ae).toNat)),_,_,.int (((G d.ab (bR d c.ae).toNat).aa).length:Nat),_,_,_,_,_,_,_,_,_,_,.ptr (a8 (G d.ab (bR d c.ae).toNat)),_,_,_,_,_,.bool (fF (⟨d,i,ss,ts,mm⟩:Jb) (G d.ab (bR d c.ae).toNat) c.args c.step.toNat),_,_]) [13,20,23,34,40] U3 Y ⟨aC fb,λ_ _ _ Z hl hc=>cb (i:=bR d c.ae) fT Y (hl.D 18 71 Y hc) (hl.D 19 72 Y hc) (by have aF:(((decide (bR d c.ae< (0:Int)))|| (decide ((i:Int)<=bR d c.ae)))==false)=true:=hc;(try simp at aF);(first | omega | (simp;omega) | grind[aE])) (ol (xs:=d.ab) (i:=bR d c.ae) (by have aF:(((decide (bR d c.ae< (0:Int)))|| (decide ((i:Int)<=bR d c.ae)))==false)=true:=hc;(try simp at aF);(first | omega | (simp;omega) | grind[aE])) (by have aF:(((decide (bR d c.ae< (0:Int)))|| (decide ((i:Int)<=bR d c.ae)))==false)=true:=hc;(try simp at aF);(first | omega | (simp;omega) | grind[aE]))) Y Z,aC cW,λ_ _ _ Z hl hc=>cb (i:=bR d c.ae) fT Y (hl.D 32 85 Y hc) (hl.D 33 86 Y hc) (by have aF:((((decide (bR d c.ae< (0:Int)))|| (decide ((i:Int)<=bR d c.ae)))|| (!decide ((c.args.length:Int)=((((G d.ab (bR d c.ae).toNat).aa).length:Nat):Int))))==false)=true:=hc;(try simp at aF);(first | omega | (simp;omega) | grind[aE])) (ol (xs:=d.ab) (i:=bR d c.ae) (by have aF:((((decide (bR d c.ae< (0:Int)))|| (decide ((i:Int)<=bR d c.ae)))|| (!decide ((c.args.length:Int)=((((G d.ab (bR d c.ae).toNat).aa).length:Nat):Int))))==false)=true:=hc;(try simp at aF);(first | omega | (simp;omega) | grind[aE])) (by have aF:((((decide (bR d c.ae< (0:Int)))|| (decide ((i:Int)<=bR d c.ae)))|| (!decide ((c.args.length:Int)=((((G d.ab (bR d c.ae).toNat).aa).length:Nat):Int))))==false)=true:=hc;(try simp at aF);(first | omega | (simp;omega) | grind[aE]))) Y Z,λ_ _ hk Z hl hc=>cV (Tn V d i ss ts M mm (G d.ab (bR d c.ae).toNat) c.args c.step (by have aF:((((decide (bR d c.ae< (0:Int)))|| (decide ((i:Int)<=bR d c.ae)))|| (!decide ((c.args.length:Int)=((((G d.ab (bR d c.ae).toNat).aa).length:Nat):Int))))==false)=true:=hc;(try simp at aF);(exact hW)) (by have aF:((((decide (bR d c.ae< (0:Int)))|| (decide ((i:Int)<=bR d c.ae)))|| (!decide ((c.args.length:Int)=((((G d.ab (bR d c.ae).toNat).aa).length:Nat):Int))))==false)=true:=hc;(try simp at aF);(first | omega | (simp;omega) | grind[aE])) (by have aF:((((decide (bR d c.ae< (0:Int)))|| (decide ((i:Int)<=bR d c.ae)))|| (!decide ((c.args.length:Int)=((((G d.ab (bR d c.ae).toNat).aa).length:Nat):Int))))==false)=true:=hc;(try simp at aF);(first | omega | (simp;omega) | grind[aE])) (by have aF:((((decide (bR d c.ae< (0:Int)))|| (decide ((i:Int)<=bR d c.ae)))|| (!decide ((c.args.length:Int)=((((G d.ab (bR d c.ae).toNat).aa).length:Nat):Int))))==false)=true:=hc;(try simp at aF);(exact gS)) (by have aF:((((decide (bR d c.ae< (0:Int)))|| (decide ((i:Int)<=bR d c.ae)))|| (!decide ((c.args.length:Int)=((((G d.ab (bR d c.ae).toNat).aa).length:Nat):Int))))==false)=true:=hc;(try simp at aF);(exact gT)) (by have aF:((((decide (bR d c.ae< (0:Int)))|| (decide ((i:Int)<=bR d c.ae)))|| (!decide ((c.args.length:Int)=((((G d.ab (bR d c.ae).toNat).aa).length:Nat):Int))))==false)=true:=hc;(try simp at aF);(exact f8))) (cO func68) Y (aK hS _ hk Z) (Z.1) (aq (hl.D 27 80 Y hc) (aq (hl.D 35 88 Y hc) (aq (hl.D 37 90 Y hc) (aq (hl.D 39 92 Y hc) aN)))) (jo V Z),U⟩ ?_
   refine cj 2 ?_ ?_<;>intro bd
   ·have eH:iB (⟨d,i,ss,ts,mm⟩:Jb) c=false:=As (Bool.eq_false_iff.2 λe=>by rw[i8,if_neg hb2,Bool.and_eq_true,decide_eq_true_eq]at e;obtain⟨⟨h1,h2,h3⟩,h4⟩:=e;dsimp only at h1 h2 h3 h4;simp[h3,h4]at bd;omega)
    refine aj tb V [1000] [_] [_] ?_
    exact bH 0 (hE:=eB (by first | (rw[eH];done) | (rw[eH];exact tU)))
   ·simp only[Bool.or_eq_false_iff,Bool.not_eq_false',decide_eq_true_eq,decide_eq_false_iff_not]at bd
    have hk4:i8 (⟨d,i,ss,ts,mm⟩:Jb) c=true:=by rw[i8,if_neg hb2,Bool.and_eq_true,decide_eq_true_eq];refine⟨⟨?_,?_,?_⟩,bd.2⟩<;>(try dsimp only)<;>omega
    have hc1:c.dN=2∨1<=c.args.length:=.inl oz
    have eH:=At hb1 hk4
    refine ak (nx (aL (ao 2 tb Y (sy (.bF [.agg (cm (ii ss c)),.bool (decide ((((cw ss c).length:Nat):Int)< ((dd ss:Nat):Int)))]) (λh=>cV (Bs V d i ss ts M c (by exact hW.ok) (by exact gT) (by exact f8) (by exact gS) (by exact dl) (by exact hc1)) (cO func69) Y (aK hS _ h.keep h.x) (h.x.1) (aq (h.get 1 Y) (aq (h.get 0 Y) aN)) (jo V h.x)) ?_))))
    refine ao 3 tb Y (cx uV V Y Y Y (lb Y) λb2=>ce (b:=b2) (off:=0) (es:=U6) (news:=U6) V hJ0 uK Y Y Y (lb Y) Y (λa w h=>⟨(h.get 0 Y),(h.get 2 Y)⟩) (ao 1 tb Y (aA [0,1,9] U3 Y (nx (au tb V [1015] [_,_,.at b2 4,.int ((ii ss c).before),_,_,_,_,_,.at b2 5,.int ((ii ss c).after),_,_,_,_,_] [2,3,9,10] [_] Y ⟨λ_ _ _ Z hl _=>cy wm Y (hl.env 1 6 _ Y Y) Z,λ_ _ _ Z hl hc=>cg gd Y (aG Z (mo 0 Y)) (hl.D 2 104 Y hc) Y Z,λ_ _ _ Z hl _=>cy wn Y (hl.env 1 6 _ Y Y) Z,λ_ _ _ Z hl hc=>cg gd Y (aG Z (mo 0 Y)) (hl.D 9 111 Y hc) Y Z,U⟩ ?_)))))
    exact bH 0 (hE:=eB (by first | (rw[eH];done) | (rw[eH];exact tU)))
end
section
variable {J:WP} (V:aR J)
include V
theorem Se (d:Db) (z:Int) (ss:List Stp) (c:bZ) (hw:∀ f∈d.ab,f.wide.length*32<=140737488351232) (hG:gJ J) (hr:¬ cQ d z ss=0):Fn prog J 10 [.agg (bV d),.int z,.agg (be ss),.agg (cm c)] (.bF [.agg (be ([]:List Stp)),.int (cQ d z ss)]):=by
 refine fE func10 λS w0 hS hJ0=>?_
 refine tw cc (aL (sy (.ptr (bV d)) (λh=>fk Y (h.get 0 Y) (aK hS _ h.keep h.x _ aV) (jo V h.x)) ?_))
 refine sy (.ptr (be ss)) (λh=>fk Y (h.get 3 Y) (aK hS _ h.keep h.x _ aV) (jo V h.x)) ?_
 refine sy (.ptr (cm c)) (λh=>fk Y (h.get 5 Y) (aK hS _ h.keep h.x _ aV) (jo V h.x)) ?_
 refine cx jz V Y Y Y (lb Y) λb1=>ao 1 tb Y (aA [1,2,3,4,6] U5 Y (nx (au tb V [0,1,2,1007,1008] (V3 [.bF [.rd (.lit (.pointer none)),.int (cQ d z ss)],_,_,_,_,_]) [3] U5 Y ⟨bJ hS V (Ho V d z ss (by exact hw) (by exact hG) (by exact hr)) (cO func32),U⟩ ?_)))
 refine af (ax (aj tb V (r5 [1002]) U3 U6 ?_))
 refine cj 5 ?_ ?_<;>intro hb1
 ·refine aL (sy (.agg (be ([]:List Stp))) (λh=>gr (ps:=[]) (us:=[.slice none 0 0]) mK Y yz gn Y (dT (.nil _ _ aI) cM) h.x) ?_)
  refine ao 1 tb Y (ce (b:=b1) (off:=0) (es:=[_]) (news:=[_]) V hJ0 fI Y Y Y (lb Y) Y (λa w h=>⟨(h.get 2 Y),(h.get 1 Y)⟩) (ao 1 tb Y (aA [0,3] U2 Y (nx (aX (λa w h=>ja (m:=1) (q:=0) Y ee h Y Y Y Y Y))))))
 ·exact False.elim (hr (by simpa using hb1))
theorem Sf (d:Db) (z:Int) (ss:List Stp) (c:bZ) (hw:∀ f∈d.ab,f.wide.length*32<=140737488351232) (hG:gJ J) (hr:cQ d z ss=0) (h16:ss.length<=16) (mY:d.ab.length<=16) (dl:c.args.length<=40):Fn prog J 10 [.agg (bV d),.int z,.agg (be ss),.agg (cm c)] (.bF [.agg (be ((cz d z ss c).1)),.int ((cz d z ss c).2)]):=by
 refine fE func10 λS w0 hS hJ0=>?_
 refine tw cc (aL (sy (.ptr (bV d)) (λh=>fk Y (h.get 0 Y) (aK hS _ h.keep h.x _ aV) (jo V h.x)) ?_))
 refine sy (.ptr (be ss)) (λh=>fk Y (h.get 3 Y) (aK hS _ h.keep h.x _ aV) (jo V h.x)) ?_
 refine sy (.ptr (cm c)) (λh=>fk Y (h.get 5 Y) (aK hS _ h.keep h.x _ aV) (jo V h.x)) ?_
 refine cx jz V Y Y Y (lb Y) λb1=>ao 1 tb (env':=[(9,_),(8,_),(7,_),(6,_),(4,_),(0,_),(1,_),(2,_),(3,_)]) Y (aA [1,2,3,4,6] U5 Y (nx (aL (ao 3 tb (env':=[(15,_),(14,_),(13,_),(8,_),(7,_),(6,_),(4,_),(1,_)]) Y (iI (O:=[]) (R:=[OB.var b1 [aY ([]:List Stp)]]) (Bv V d z ss (by exact hw) (by exact hG) (by exact hr)) (cO func32) Y Y Y (lb Y) hS hJ0 b8 (λa w h=>(aq (h.get 2 Y) (aq (h.get 1 Y) (aq (h.get 0 Y) aN)))) λz2=>ao 5 tb (env':=[(11,_),(10,_),(18,_),(17,_),(12,_),(16,_),(15,_),(14,_),(13,_),(8,_),(7,_),(6,_),(4,_),(1,_)]) Y (aA [0,1,9,10,11] U5 Y (nx (af (ax (aj tb V (r5 [1002]) U3 U6 ?_))))))))))
 refine cj 5 ?_ ?_<;>intro hb1
 ·exact False.elim (by simp at hb1)
 ·refine aj tb V [1,2,3,4,1008] U9 U5 ?_
  refine cj 4 ?_ ?_<;>intro hb2
  ·have eA:cz d z ss c=([],1):=by rw[cz,if_neg (by simp[hr]),if_pos (by simpa using hb2)]
   refine aL (sy (.agg (be ([]:List Stp))) (λh=>gr (ps:=[]) (us:=[.slice none 0 0]) mK Y yz gn Y (dT (.nil _ _ aI) cM) h.x) ?_)
   refine kw bO (ce (b:=b1) (off:=0) (es:=[_]) (news:=[_]) V hJ0 fI Y Y Y (lb Y) Y (λa w h=>⟨(h.get 2 Y),(h.get 0 Y)⟩) (ao 1 tb (env':=[(9,_),(33,_),(10,_),(8,_),(7,_),(6,_),(24,_)]) Y (aA [0,3] U2 Y (nx (aX (λa w h=>ja (m:=1) (q:=0) Y ee h Y Y (show(_:List CD)=[aY ((cz d z ss c).1)]from by(rw[eA])<;>rfl) Y (eI (by rw[eA]))))))))
  ·have oW:¬ (¬ c.dN=1/\¬ c.dN=2):=by simpa using hb2
   have FA:c.dN=1∨c.dN=2:=by omega
   refine au tb V [0,1,2,3,1011] (V8 [.int (ss.length:Nat),_,_,_]) [8] U5 Y ⟨aC eo,U⟩ ?_
   refine cj 4 ?_ ?_<;>intro aD
   ·have eA:cz d z ss c=([],3):=by rw[cz,if_neg (by simp[hr]),if_neg oW,if_pos (by simpa using aD)]
    refine aL (sy (.agg (be ([]:List Stp))) (λh=>gr (ps:=[]) (us:=[.slice none 0 0]) mK Y yz gn Y (dT (.nil _ _ aI) cM) h.x) ?_)
    refine kw bO (ce (b:=b1) (off:=0) (es:=[_]) (news:=[_]) V hJ0 fI Y Y Y (lb Y) Y (λa w h=>⟨(h.get 2 Y),(h.get 0 Y)⟩) (ao 1 tb (env':=[(9,_),(46,_),(10,_),(8,_),(7,_),(6,_),(34,_)]) Y (aA [0,3] U2 Y (nx (aX (λa w h=>ja (m:=1) (q:=0) Y ee h Y Y (show(_:List CD)=[aY ((cz d z ss c).1)]from by(rw[eA])<;>rfl) Y (eI (by rw[eA]))))))))
   ·have gT:0<=c.step/\c.step< (ss.length:Int):=by simpa using aD
    refine au tb V [1,2,3,1004] [_,_,.bool (iB (⟨d,z.toNat,ss,((aZ d z ss).1),(go (aZ d z ss).1 (aZ d z ss).1.length)⟩:Jb) c),_,_] [2] U4 Y ⟨bJ hS V (To V d z.toNat ss ((aZ d z ss).1) z2 (go (aZ d z ss).1 (aZ d z ss).1.length) c (by exact FX hr h16 mY hw) (by exact gT.1) (by exact gT.2) (by exact dl) (by exact FA)) (cO func33),U⟩ ?_
    refine cj 3 ?_ ?_<;>intro bd
    ·have eA:cz d z ss c=([],260):=by rw[cz,if_neg (by simp[hr]),if_neg oW,if_neg oz,if_pos (show iB (fx d z ss) c=false by simpa [fx]using bd)]
     refine aL (sy (.agg (be ([]:List Stp))) (λh=>gr (ps:=[]) (us:=[.slice none 0 0]) mK Y yz gn Y (dT (.nil _ _ aI) cM) h.x) ?_)
     refine kw bO (ce (b:=b1) (off:=0) (es:=[_]) (news:=[_]) V hJ0 fI Y Y Y (lb Y) Y (λa w h=>⟨(h.get 1 Y),(h.get 0 Y)⟩) (ao 1 tb (env':=[(9,_),(52,_),(8,_),(7,_),(6,_),(47,_)]) Y (aA [0,2] U2 Y (nx (aX (λa w h=>ja (m:=1) (q:=0) Y ee h Y Y (show(_:List CD)=[aY ((cz d z ss c).1)]from by(rw[eA])<;>rfl) Y (eI (by rw[eA]))))))))
    ·have hh:iB (fx d z ss) c=true:=by simpa [fx]using bd
     have Fl:=Fy hh
     have XP:=F0 Fl.2.1
     have hc1:c.dN=2∨1<=c.args.length:=by omega
     have eA:cz d z ss c=(cw ss c,0):=by rw[cz,if_neg (by simp[hr]),if_neg oW,if_neg oz,if_neg (by simp[hh])]
     refine ak (nx (aL (ao 2 tb (env':=[(54,_),(53,_),(8,_),(7,_),(6,_),(47,_)]) Y (sy (.agg (be (cw ss c))) (λh=>cV (Hb V ss c (by exact(nb hr).2) (by exact gT.1) (by exact gT.2) (by exact Fl.1) (by exact dl) (by exact hc1)) (cO func34) Y (aK hS _ h.keep h.x) (h.x.1) (aq (h.get 1 Y) (aq (h.get 0 Y) aN)) (jo V h.x)) ?_))))
     refine kw bO (ce (b:=b1) (off:=0) (es:=[_]) (news:=[_]) V hJ0 fI Y Y Y (lb Y) Y (λa w h=>⟨(h.get 3 Y),(h.get 0 Y)⟩) (ao 1 tb (env':=[(9,_),(55,_),(54,_),(53,_),(8,_),(7,_),(6,_),(47,_)]) Y (aA [0,4] U2 Y (nx (aX (λa w h=>ja (m:=1) (q:=0) Y ee h Y Y (show(_:List CD)=[aY ((cz d z ss c).1)]from by(rw[eA])<;>rfl) Y (eI (by rw[eA]))))))))
theorem Sd (d:Db) (z:Int) (ss:List Stp) (c:bZ) (hw:∀ f∈d.ab,f.wide.length*32<=140737488351232) (hG:gJ J) (h16:ss.length<=16) (mY:d.ab.length<=16) (dl:c.args.length<=40):Fn prog J 10 [.agg (bV d),.int z,.agg (be ss),.agg (cm c)] (.bF [.agg (be ((cz d z ss c).1)),.int ((cz d z ss c).2)]):=by
 by_cases hr:cQ d z ss=0
 ·exact Sf V d z ss c hw hG hr h16 mY dl
 ·have e:cz d z ss c=([],cQ d z ss):=if_pos hr
  rw[e]
  exact Se V d z ss c hw hG hr
theorem Sp (d:Db) (z:Int) (ss qs:List Stp) (L:List bZ) (hw:∀ f∈d.ab,f.wide.length*32<=140737488351232) (hG:gJ J) (hr:¬ cQ d z ss=0):Fn prog J 18 [.agg (bV d),.int z,.agg (be ss),.agg (be qs),.rd (gB L)] (.bF [.int 0,.int (cQ d z ss)]):=by
 refine fE func18 λS w0 hS hJ0=>?_
 refine tw cc (ln 4 λcr=>?_)
 refine aL (sy (.ptr (bV d)) (λh=>fk Y (h.get 0 Y) (aK hS _ h.keep h.x _ aV) (jo V h.x)) ?_)
 refine qQ (cs:=[aY ss]) V Y Y Y (lb Y) (λa w h=>(h.get 3 Y)) λb1=>?_
 refine sy (.ptr (be qs)) (λh=>fk Y (h.get 5 Y) (aK hS _ h.keep h.x _ aV) (jo V h.x)) ?_
 refine ao 2 tb Y (aA [2,3,4,6,9] U5 Y ?_)
 refine nx (af (au tb V (r5 [1008]) [_,_,.agg (be ss),.bF [.rd (.lit (.pointer none)),.int (cQ d z ss)],_,_,_,_,_] [2,3] U6 Y ⟨λ_ _ _ Z hl _=>fA (ds:=[aY ss]) ee Y (aG Z (mo 0 Y)) (hl.env 1 7 _ Y Y) Y Y Z,bJ hS V (Ho V d z ss (by exact hw) (by exact hG) (by exact hr)) (cO func32),U⟩ ?_))
 refine aj tb V (r6 [1001]) U2 U7 ?_
 refine cj 6 ?_ ?_<;>intro hb1
 ·refine aj tb V [1001,1002] U3 U2 ?_
  exact aX (λa w h=>di (m:=0) (k:=1) Y (dw h) Y Y (eI (Y)) Y)
 ·exact False.elim (hr (by simpa using hb1))
theorem Sq (d:Db) (z:Int) (ss qs:List Stp) (L:List bZ) (hw:∀ f∈d.ab,f.wide.length*32<=140737488351232) (hG:gJ J) (hr:cQ d z ss=0) (h16:ss.length<=16) (mY:d.ab.length<=16) (l2:∀ c∈L,c.args.length<=40):Fn prog J 18 [.agg (bV d),.int z,.agg (be ss),.agg (be qs),.rd (gB L)] (.bF [.int ((fK d z ss qs L).1),.int ((fK d z ss qs L).2)]):=by
 refine fE func18 λS w0 hS hJ0=>?_
 refine tw cc (ln 4 λcr=>?_)
 refine aL (sy (.ptr (bV d)) (λh=>fk Y (h.get 0 Y) (aK hS _ h.keep h.x _ aV) (jo V h.x)) ?_)
 refine qQ (cs:=[aY ss]) V Y Y Y (lb Y) (λa w h=>(h.get 3 Y)) λb1=>sy (.ptr (be qs)) (λh=>fk Y (h.get 5 Y) (aK hS _ h.keep h.x _ aV) (jo V h.x)) (ao 2 tb (env':=[(11,_),(10,_),(8,_),(7,_),(5,_),(0,_),(1,_),(2,_),(3,_),(4,_)]) Y (aA [2,3,4,6,9] U5 Y (nx (af (aL (ao 2 tb (env':=[(20,_),(19,_),(8,_),(7,_),(5,_),(1,_),(4,_)]) Y (sy (.agg (be ss)) (λh=>fA (ds:=[aY ss]) ee Y (aG h.x (mo 0 Y)) (h.get 3 Y) Y Y h.x) ?_)))))))
 refine iI (O:=[]) (R:=[OB.var b1 [aY ss]]) (Bv V d z ss (by exact hw) (by exact hG) (by exact hr)) (cO func32) Y Y Y (lb Y) hS hJ0 b8 (λa w h=>(aq (h.get 2 Y) (aq (h.get 1 Y) (aq (h.get 0 Y) aN)))) λz2=>ao 5 tb (env':=[(13,_),(12,_),(24,_),(23,_),(18,_),(22,_),(21,_),(20,_),(19,_),(8,_),(7,_),(5,_),(1,_),(4,_)]) Y (aA [0,9,10,11,12,13] U6 Y (nx (aj tb V (r6 [1001]) U2 U7 ?_)))
 refine cj 6 ?_ ?_<;>intro hb1
 ·exact False.elim (by simp at hb1)
 ·refine ak (nx (af (au tb V [1,2,3,4,5,1000,1001,1002] [_,.int (L.length:Nat),_] [1] U8 Y ⟨aC yj,U⟩ ?_)))
  refine ax (lpo (ι:=Nat×(List Stp)) (λ(k,cur)=>(k<=L.length)/\(cur.length<=16)/\(lR d z qs 0 ss L=lR d z qs k cur (L.drop k))) (λ(_,cur)=>[OB.mI z2 (go (aZ d z ss).1 (aZ d z ss).1.length),OB.var b1 [aY cur]]) (λ(k,_)=>[(30,.int (k:Nat))]) (λ(k,_)=>L.length-k) (r8 []) U7 (0,ss) ⟨aI,h16,Y⟩ ?_)
  rintro⟨k,cur⟩ ⟨aQ,ah,bh⟩
  refine aj tb V (r8 [1000]) [_] U9 ?_
  refine cE 8 ?_ ?_<;>intro hb2<;>try simp at hb2
  ·refine ak (nx (af (ax (aL (ao 1 tb (env':=[(32,_),(8,_),(7,_),(5,_),(1,_),(4,_),(28,_),(29,_),(30,_),(31,_)]) Y (sy (.ptr (cm (G L k))) (λh=>cb (i:=(k:Int)) p7 Y (h.get 6 Y) (h.get 8 Y) bK (cl (xs:=L) (k:=k) ay) Y h.x) ?_))))))
   refine ao 1 tb (env':=[(34,_),(33,_),(32,_),(8,_),(7,_),(5,_),(1,_),(4,_),(28,_),(29,_),(30,_),(31,_)]) Y (cx uV V Y Y Y (lb Y) λb3=>ao 1 tb (env':=[(14,_),(15,_),(34,_),(33,_),(32,_),(8,_),(7,_),(5,_),(1,_),(4,_),(28,_),(29,_),(30,_),(31,_)]) Y (ce (b:=b3) (off:=0) (es:=U6) (news:=U6) V hJ0 uK Y Y Y (lb Y) Y (λa w h=>⟨(h.get 1 Y),(h.get 2 Y)⟩) (aA [0,1,5,6,7,8,9,10,11,12] fp Y (nx (aL (ao 2 tb (env':=[(37,_),(36,_),(14,_),(15,_),(8,_),(7,_),(5,_),(1,_),(4,_),(28,_),(29,_),(30,_)]) Y (sy (.agg (be cur)) (λh=>fA (ds:=[aY cur]) ee Y (aG h.x (mo 2 Y)) (h.get 5 Y) Y Y h.x) ?_)))))))
   refine sy (.agg (cm (G L k))) (λh=>fA (ds:=[lI ((G L k).dN),lI ((G L k).step),lS ((G L k).ae),bQ ((G L k).args),lI ((G L k).before),lI ((G L k).after)]) sN Y (aG h.x (mo 0 Y)) (h.get 4 Y) Y Y h.x) ?_
   refine sy (.bF [.agg (be ((cz d z cur (G L k)).1)),.int ((cz d z cur (G L k)).2)]) (λh=>cV (Sd V d z cur (G L k) (by exact hw) (by exact hG) (by exact ah) (by exact mY) (by exact l2 _ (aE oz))) (cO func10) Y (aK hS _ h.keep h.x) (h.x.1) (aq (h.get 3 Y) (aq (h.get 2 Y) (aq (h.get 1 Y) (aq (h.get 0 Y) aN)))) (jo V h.x)) ?_
   refine ao 3 tb (env':=[(42,_),(41,_),(35,_),(40,_),(39,_),(38,_),(37,_),(36,_),(14,_),(15,_),(8,_),(7,_),(5,_),(1,_),(4,_),(28,_),(29,_),(30,_)]) Y (cx jz V Y Y Y (lb Y) λb4=>ce (b:=b4) (off:=0) (es:=[_]) (news:=[_]) V hJ0 fI Y Y Y (lb Y) Y (λa w h=>⟨(h.get 0 Y),(h.get 2 Y)⟩) (ao 1 tb (env':=[(17,_),(16,_),(42,_),(41,_),(35,_),(40,_),(39,_),(38,_),(37,_),(36,_),(14,_),(15,_),(8,_),(7,_),(5,_),(1,_),(4,_),(28,_),(29,_),(30,_)]) Y (aA [0,1,10,12,13,14,15,16,17,18,19] lm Y (nx (af (aj tb V (pl [1001]) U2 nE ?_))))))
   refine cj 11 ?_ ?_<;>intro aD<;>try simp at aD
   ·have eC:fK d z ss qs L=((k:Int),(cz d z cur (G L k)).2):=by rw[fK,if_pos hr,bh,vH oz,if_neg (by simpa using aD)]
    refine aj tb V [1002,1003] U4 U2 ?_
    exact aX (λa w h=>di (m:=0) (k:=1) Y (dw h) Y Y (eI (by rw[eC])) (eI (by rw[eC])))
   ·refine ak (nx (cC (sq (.agg (be ((cz d z cur (G L k)).1))) Y Y (lb Y) (λ_ _ h=>fA (ds:=[aY ((cz d z cur (G L k)).1)]) ee Y (aG h.x (mo 0 Y)) (h.get 1 Y) Y Y h.x) (kw gF (ce (b:=b1) (off:=0) (es:=[_]) (news:=[_]) V hJ0 fI Y Y Y (lb Y) Y (λa w h=>⟨(h.get 5 Y),(h.get 0 Y)⟩) (aA [4,5,6,7,8,9,10,11] U8 Y (nx (aT tb V (r7 [1001]) [.int (k+1:Nat),_] [0] U8 Y ⟨aM,U⟩ ?_))))))))
    refine kw bO (kw cK (kw bO (kw cK (kw bO (br ((k+1),((cz d z cur (G L k)).1)) (r8 []) ⟨oz,by exact Nat.le_trans J3 ah,by rw[bh,vH oz,if_pos (by simpa using aD)]⟩)))))
  ·have ek:k=L.length:=by omega
   refine aW (nx (af (au tb V [4,1001,1003,1005] [.at b1 0,.rd (aY cur),_,_,.bool (decide (cur=qs)),_] [0,1,4] U4 Y ⟨λ_ _ _ Z hl _=>cy ie Y (hl.env 1 7 _ Y Y) Z,λ_ _ _ Z hl _=>cg iD Y (aG Z (mo 1 Y)) (hl.D 0 49 Y Y) Y Z,λ_ _ hk Z hl _=>dv (SF V cur qs 48 [] [] (λq' r'=>(TA V q' r').rr) ((cO func48))) (cO func47) Y (aK hS _ hk Z) (Z.1) b8 (aq (hl.D 1 50 Y Y) (aq (hl.D 3 52 Y Y) (aq (np 48) aN))) (jo V Z),U⟩ ?_)))
   refine ln 1 λ_=>?_
   refine ln 2 λ_=>?_
   refine cj 3 ?_ ?_<;>intro bd<;>try simp at bd
   ·have eC:fK d z ss qs L=((L.length:Int),261):=by rw[fK,if_pos hr,bh,vI ek,if_neg (by simpa using bd),ek]
    refine au tb V [1002,1003] [_,.int (L.length:Nat),_,_] [1] U2 Y ⟨aC yj,U⟩ ?_
    exact aX (λa w h=>di (m:=0) (k:=1) Y (dw h) Y Y (eI (by rw[eC])) (eI (by rw[eC])))
   ·have eC:fK d z ss qs L=((L.length:Int),0):=by rw[fK,if_pos hr,bh,vI ek,if_pos (by simpa using bd),ek]
    refine ak (nx (au tb V [1002,1003] [_,.int (L.length:Nat),_,_] [1] U2 Y ⟨aC yj,U⟩ ?_))
    exact aX (λa w h=>di (m:=0) (k:=1) Y (dw h) Y Y (eI (by rw[eC])) (eI (by rw[eC])))
theorem Sn (d:Db) (z:Int) (ss qs:List Stp) (L:List bZ) (hw:∀ f∈d.ab,f.wide.length*32<=140737488351232) (hG:gJ J) (h16:ss.length<=16) (mY:d.ab.length<=16) (l2:∀ c∈L,c.args.length<=40):Fn prog J 18 [.agg (bV d),.int z,.agg (be ss),.agg (be qs),.rd (gB L)] (.bF [.int ((fK d z ss qs L).1),.int ((fK d z ss qs L).2)]):=by
 by_cases hr:cQ d z ss=0
 ·exact Sq V d z ss qs L hw hG hr h16 mY l2
 ·have e:fK d z ss qs L=(0,cQ d z ss):=if_neg hr
  rw[e]
  exact Sp V d z ss qs L hw hG hr
end
end
section
open Go.RowKit
theorem KI:lN prog 37 6:=⟨#[.int .i64 0,.int .i64 0,.string ⟨#[]⟩,.slice none 0 0,.int .i64 0,.int .i64 0],Y,λi=>(#[(0,1),(1,1),(2,1),(3,1),(4,1),(5,1)]:Array (Nat×Nat))[i]?,λj hj=>by rcases j with _ | _ | _ | _ | _ | _ | j<;>first | rfl | omega,λparts=>by kernel_rfl⟩
theorem W9 {J:WP} (V:aR J) (c:bZ) (dl:c.args.length<=40):Fn prog J 11 [.agg (cm c)] (.agg (cm c)):=by
 refine fE func11 λS w0 hS hJ0=>?_
 refine tw cc (aL (sy (.ptr (cm c)) (λh=>fk Y (h.get 0 Y) (aK hS _ h.keep h.x _ aV) (jo V h.x)) ?_))
 refine cx uV V Y Y Y (lb Y) λb1=>aA [0,1] U2 Y (nx (af (λa w h=>iF (γ:=Unit) (λix'=>([.ptr (cm c),.int c.dN,.ptr [lI c.step,lS c.ae,bQ c.args,lI c.before,lI c.after],.int c.step,.ptr [lS c.ae,bQ c.args,lI c.before,lI c.after],.str c.ae,.ptr [bQ c.args,lI c.before,lI c.after],.rd (bQ c.args),.rd (bQ c.args),.ptr [lI c.before,lI c.after],.int c.before,.ptr [lI c.after],.int c.after,.agg [lI c.dN,lI c.step,lS c.ae,bQ c.args,lI c.before,lI c.after],.any]:List AV).getD ix' .any) (λ_=>true) [(2,λ_=>.at b1 0)] (λj' _=>match j' with | 0=>[OB.var b1 [lI 0,lI 0,lS (⟨#[]⟩:BA),bQ ([]:List Int),lI 0,lI 0]] | _=>[OB.var b1 (cm c)]) (λ_ _=>undef) [14] 0 () (λ_=>Y) h V cU Y Y Y Y Y Y hsb ⟨oX Y λZ hl=>cd NJ Y (hl.env 1 1 _ Y Y) Z,oX Y λZ hl=>bU gd Y (hl.D 0 3 Y Y) Z,oX Y λZ hl=>cd EA Y (hl.env 1 1 _ Y Y) Z,oX Y λZ hl=>bU gd Y (hl.D 2 5 Y Y) Z,oX Y λZ hl=>cd EB Y (hl.env 1 1 _ Y Y) Z,oX Y λZ hl=>bU fh Y (hl.D 4 7 Y Y) Z,oX Y λZ hl=>cd zG Y (hl.env 1 1 _ Y Y) Z,oX Y λZ hl=>bU iV Y (hl.D 6 9 Y Y) Z,?_,oX Y λZ hl=>cd NK Y (hl.env 1 1 _ Y Y) Z,oX Y λZ hl=>bU gd Y (hl.D 9 12 Y Y) Z,oX Y λZ hl=>cd NL Y (hl.env 1 1 _ Y Y) Z,oX Y λZ hl=>bU gd Y (hl.D 11 14 Y Y) Z,?_,bC Y,U⟩ ⟨?nM,U⟩ ⟨.old 0 2 _,U⟩ ?ud)))
 exact oY Y λhk Z hl=>cV (GZ V c.args oz) (cO func35) Y (aK hS _ hk Z) (Z.1) (aq (hl.D 7 10 Y Y) aN) (jo V Z)
 exact λ_ O' _=>⟨Y,λa _ _ Z hl _=>gq (us:=[a.eval (.tmp 4),a.eval (.tmp 6),a.eval (.tmp 8),a.eval (.tmp 11),a.eval (.tmp 13),a.eval (.tmp 15)]) KI Y yz (b6 (hl.D 1 4 Y Y) (b6 (hl.D 3 6 Y Y) (b6 (hl.D 5 8 Y Y) (b6 (hl.D 8 11 Y Y) (b6 (hl.D 10 13 Y Y) (b6 (hl.D 12 15 Y Y) cM)))))) Y Z⟩
 case nM=>exact⟨_,Y,Y,Y,Y,λg _ w hk Z hl _=>(by obtain⟨eP,hv2,eh⟩:=jw (hl.D 13 16 Y Y);exact bD (iw (off:=0) (news:=U6) (es:=U6) (us:=eP) V hJ0 uK Y hk Z (hl.env 0 2 _ Y Y) (by rw[hv2];rfl) eh (lb Y) Y) λv w' hp=>⟨g,Y,λ_ _=>rfl,λe=>(by cases e),hp⟩)⟩
 clear a w h
 intro _
 dsimp only[List.map]
 exact nx (aX (λa w h=>j0 (m:=0) Y sN h Y Y Y))
end
section
def gW:List Int->List Int->Bool
 | [],b=>decide (0<b.length)
 | _::_,[]=>false
 | x::a,y::b=>if x=y then gW a b else decide (x<y)
theorem F6:∀(a:List Int),gW a a=false
 | []=>rfl
 | x::a=>by rw[gW,if_pos rfl];exact F6 a
theorem F5:∀ {a b:List Int},gW a b=false->gW b a=false->a=b
 | [],[],_,_=>rfl
 | [],_::_,h,_=>by simp[gW]at h
 | _::_,[],_,h=>by simp[gW]at h
 | x::a,y::b,h1,h2=>by
  rw[gW]at h1 h2
  by_cases e:x=y
  ·rw[if_pos e]at h1
   rw[if_pos e.symm]at h2
   rw[e,F5 h1 h2]
  ·rw[if_neg e,decide_eq_false_iff_not]at h1
   rw[if_neg (λq=>e q.symm),decide_eq_false_iff_not]at h2
   omega
section
variable {xs ys:List Int} {k:Nat}
theorem QI (h1:k<xs.length) (h2:k<ys.length) (h:G xs k=G ys k):gW (xs.drop k) (ys.drop k)=gW (xs.drop (k+1)) (ys.drop (k+1)):=by
 rw[drop_eq_getElem_cons h1,drop_eq_getElem_cons h2,gW,if_pos (by rw[<-cF h1,<-cF h2];exact h)]
theorem QG (h1:k<xs.length) (h2:k<ys.length) (h:¬ G xs k=G ys k):gW (xs.drop k) (ys.drop k)=decide (G xs k<G ys k):=by
 rw[drop_eq_getElem_cons h1,drop_eq_getElem_cons h2,gW,if_neg (by rw[<-cF h1,<-cF h2];exact h),cF h1,cF h2]
theorem QH (h1:k<=xs.length) (h2:k<=ys.length) (h:¬ (k<xs.length/\k<ys.length)):gW (xs.drop k) (ys.drop k)=decide (xs.length<ys.length):=by
 rcases Nat.lt_or_ge k xs.length with h3 | h3
 ·have h4:k=ys.length:=by omega
  rw[drop_eq_getElem_cons h3,show ys.drop k=[]from List.drop_of_length_le oz,gW,eq_comm,decide_eq_false_iff_not]
  omega
 ·rw[show xs.drop k=[]from List.drop_of_length_le oz,gW,List.length_drop]
  congr 1
  apply propext
  omega
end
theorem VY {a b:Stp} (h:(((!decide (a.ae=b.ae))||gW a.args b.args)||gW b.args a.args)=false):a=b:=by
 simp only[Bool.or_eq_false_iff,Bool.not_eq_false',decide_eq_true_eq]at h
 cases a;cases b
 simp only at h
 rw[h.1.1,F5 h.1.2 h.2]
theorem Lx {L:List bZ} (h:(L.any λc=>decide ((20:Int)< (c.args.length:Int)))=false):∀ c∈L,c.args.length<=40:=λc hc=>by
 have:=List.any_eq_false.1 h c hc
 simp only[decide_eq_true_eq]at this
 omega
end
section
open Go.RowKit
theorem sG:prog.underlying 48=some (.slice 31):=by kernel_rfl
theorem zt:dA prog 48 31 6:=eO
section
variable {J:WP} (V:aR J)
include V
theorem Dt (xs ys:List Int)  :Fn prog J 39 [.rd (bQ xs),.rd (bQ ys)] (.bool (gW xs ys)):=by
 refine fE func39 λS w0 hS hJ0=>?_
 clear hJ0
 refine ln 0 λ_=>?_
 refine ln 1 λ_=>?_
 refine qs tb V [0,1] [_] U2 ?_
 refine af (qs tb V [0,1,1000] [_] U3 ?_)
 refine ax (lp (ι:=Nat) (λk=>(k<=xs.length)/\(k<=ys.length)/\(gW xs ys=gW (xs.drop k) (ys.drop k))) (λk=>[(5,.int (k:Nat))]) (λk=>xs.length-k) [0,1,2] U2 0 ⟨aI,aI,Y⟩ ?_)
 rintro k ⟨aQ,ah,bh⟩
 refine af (aJ tb V [0,1,2,1009] [_,_,.int (xs.length:Nat),_,_,_,_,.int (ys.length:Nat),_,_] [2,7] U4 Y ⟨aC fb,aC fb,U⟩ ?_)
 refine cj 3 ?_ ?_<;>intro hb1
 ·have hk:k<xs.length/\k<ys.length:=by simpa using hb1
  refine ak (nx (af (ax (aJ tb V [0,1,2,1008] [_,_,.ptr [lI (G xs k)],_,_,_,.ptr [lI (G ys k)],_,_] [2,6] U4 Y ⟨bq c8,bq c8,U⟩ ?_))))
  refine cj 3 ?_ ?_<;>intro hb2<;>try simp at hb2
  ·have eL:=bh.trans (QG hk.1 hk.2 hb2)
   refine aJ tb V [1009] [_,_,.ptr [lI (G xs k)],_,_,_,.ptr [lI (G ys k)],_,_,_] [2,6] [_] Y ⟨bq c8,bq c8,U⟩ ?_
   exact aU 0 (hE:=eB (by rw[eL];first | done | simp))
  ·refine ak (nx (dK tb V [0,1,1002] [_,.int (k+1:Nat),_] [1] U3 Y ⟨aM,U⟩ ?_))
   exact dM (k+1) [0,1,2] ⟨oz,oz,by rw[bh];exact QI hk.1 hk.2 hb2⟩
 ·have hk:¬ (k<xs.length/\k<ys.length):=by intro e;simp[e.1,e.2]at hb1
  have eL:=bh.trans (QH aQ ah hk)
  refine aW (nx (aJ tb V [1005] [_,.int (xs.length:Nat),_,.int (ys.length:Nat),_,_] [1,3] [_] Y ⟨aC fb,aC fb,U⟩ ?_))
  exact aU 0 (hE:=eB (by rw[eL];first | done | simp))
theorem KX (ss qs:List Stp)  :Fn prog J 13 [.agg (be ss),.agg (be qs)] (.bool (decide (ss=qs))):=by
 refine fE func13 λS w0 hS hJ0=>?_
 refine tw cc (au tb V [1000,1001] [.ptr (be ss),.ptr (be qs),_] [0,1] U2 Y ⟨cY hS V,cY hS V,U⟩ ?_)
 refine af (au tb V [0,1,1001,1004,1006] [_,_,.int (ss.length:Nat),_,_,.int (qs.length:Nat),_] [2,5] U5 Y ⟨aC eo,aC eo,U⟩ ?_)
 refine ln 2 λ_=>?_
 refine ln 3 λ_=>?_
 refine cj 4 ?_ ?_<;>intro hb1<;>try simp at hb1
 ·refine aj tb V [1000] [_] [_] ?_
  exact bH 0 (hE:=eB (by first | (rw[eS];done) | (have:=ib (xs:=ss) (ys:=qs) oz (λj hj=>ah j oz);simp[this];done) | (symm;rw[decide_eq_false_iff_not];intro e;subst e;simp_all;done)))
 ·refine ak (nx (af (aj tb V [0,1,1000] [_] U3 ?_)))
  refine ax (lpo (ι:=Nat) (λk=>(k<=ss.length)/\(∀ j,j<k->G ss j=G qs j)) (λ_=>[]) (λk=>[(5,.int (k:Nat))]) (λk=>ss.length-k) [0,1,2] U2 0 ⟨aI,λj hj=>by omega⟩ ?_)
  rintro k ⟨aQ,ah⟩
  refine af (au tb V [0,1,2,1004] (V3 [.int (ss.length:Nat),_]) [3] U4 Y ⟨aC eo,U⟩ ?_)
  refine cj 3 ?_ ?_<;>intro hb2<;>try simp at hb2
  ·refine ak (nx (af (ax (af (λa w h=>lg [] (γ:=Nat×Nat) (λix'=>([.ptr (be ss),.rd (aY ss),.int (k:Nat),.ptr (bx (G ss k)),.agg (bx (G ss k)),.ptr (be qs),.rd (aY qs),.int (k:Nat),.ptr (bx (G qs k)),.agg (bx (G qs k)),.any,.any,.any,.any]:List AV).getD ix' .any) (λ_=>true) [(2,λ_=>.ptr (be ss)),(3,λ_=>.ptr (be qs)),(5,λ_=>.int (k:Nat)),(6,λg=>.at g.1 0),(7,λg=>.at g.2 0)] (λ(b:List Bool) (g:Nat×Nat)=>(bif b.getD 3 false then [OB.var g.2 (bx (G qs k))]else(bif b.getD 1 false then [OB.var g.2 [lS (⟨#[]⟩:BA),bQ ([]:List Int)]]else []))++((bif b.getD 2 false then [OB.var g.1 (bx (G ss k))]else(bif b.getD 0 false then [OB.var g.1 [lS (⟨#[]⟩:BA),bQ ([]:List Int)]]else []))++([]))) (λk' g=>match k' with | 0=>(.pointer (some ⟨g.1,0,none⟩)) | 1=>(.pointer (some ⟨g.2,0,none⟩)) | _=>undef) [10,11,12,13] (0,0) (λ_=>Y) h V cU Y Y Y Y (λb g p hp=>(mem_append_right _ (mem_append_right _ hp))) ⟨oX Y λZ hl=>cd ie Y (hl.env 0 2 _ Y Y) Z,oX Y λZ hl=>bU iD Y (hl.D 0 22 Y Y) Z,oX Y λZ hl=>b9 Y (hl.env 2 5 _ Y Y) Z,?_,oX Y λZ hl=>j4 oD Y (hl.D 3 25 Y Y) aV Z,oX Y λZ hl=>cd ie Y (hl.env 1 3 _ Y Y) Z,oX Y λZ hl=>bU iD Y (hl.D 5 27 Y Y) Z,oX Y λZ hl=>b9 Y (hl.env 2 5 _ Y Y) Z,?_,oX Y λZ hl=>j4 oD Y (hl.D 8 30 Y Y) aV Z,bC Y,bC Y,bC Y,bC Y,U⟩ ⟨?MJ,?MK,?ML,?MM,U⟩ ⟨.old 0 2 _,.old 1 3 _,.old 2 5 _,.d6 0 10 6 (λ(g:Nat×Nat)=>(.pointer (some ⟨g.1,0,none⟩))) Y Y (λ_=>Y) (λ_=>True.intro),.d6 1 11 7 (λ(g:Nat×Nat)=>(.pointer (some ⟨g.2,0,none⟩))) Y Y (λ_=>Y) (λ_=>True.intro),U⟩ ?Ro)))))
   exact oX Y λZ hl=>cb (i:=(k:Int)) eq Y (hl.D 1 23 Y Y) (hl.D 2 24 Y Y) bK (cl (xs:=ss) (k:=k) ay) Y Z
   exact oX Y λZ hl=>cb (i:=(k:Int)) eq Y (hl.D 6 28 Y Y) (hl.D 7 29 Y Y) bK (cl (xs:=qs) (k:=k) ay) Y Z
   case MJ=>exact eE [[false,false,false,false],[false,true,false,false]] yq Y Y Y Y ⟨λg _ w hk Z _ _=>bD (gD mw V Y hk Z) λv w' ⟨b',hv,hp⟩=>⟨(b',g.2),dZ,λ_=>hv,True.intro,hp⟩,λg _ w hk Z _ _=>bD (gD mw V rfl hk Z) λv w' ⟨b',hv,hp⟩=>⟨(b',g.2),dZ,λ_=>hv,True.intro,kM (.refl _) (eM (A:=[OB.var g.2 [lS (⟨#[]⟩:BA),bQ ([]:List Int)]])).symm hp⟩,U⟩
   case MK=>exact eE [[false,false,false,false],[true,false,false,false]] yq Y Y Y Y ⟨λg _ w hk Z _ _=>bD (gD mw V Y hk Z) λv w' ⟨b',hv,hp⟩=>⟨(g.1,b'),dZ,λ_=>hv,True.intro,hp⟩,λg _ w hk Z _ _=>bD (gD mw V rfl hk Z) λv w' ⟨b',hv,hp⟩=>⟨(g.1,b'),dZ,λ_=>hv,True.intro,hp⟩,U⟩
   case ML=>exact eE [[true,true,false,false]] yq Y Y Y Y ⟨λg _ w hk Z hl hs=>(by obtain⟨eP,hv2,eh⟩:=jw ((hl.D 4 26 Y Y).sub λ_ _ hs=>hs.perm (eM (A:=[OB.var g.2 [lS (⟨#[]⟩:BA),bQ ([]:List Int)]])));exact bD (iw (S':=S) (off:=0) (news:=U2) (es:=U2) (us:=eP) V hJ0 mt Y hk (fR (eM (A:=[OB.var g.2 [lS (⟨#[]⟩:BA),bQ ([]:List Int)]])) Z) (kt (hs 0 10 _ 6 Y Y Y Y)) (by rw[hv2];rfl) eh (lb Y) Y) λv w' hp=>⟨g,λ_ _=>rfl,λe=>(by cases e),True.intro,kM (eM (A:=[OB.var g.2 [lS (⟨#[]⟩:BA),bQ ([]:List Int)]])).symm (eM (A:=[OB.var g.2 [lS (⟨#[]⟩:BA),bQ ([]:List Int)]])).symm hp⟩),U⟩
   case MM=>exact eE [[true,true,true,false]] yq Y Y Y Y ⟨λg _ w hk Z hl hs=>(by obtain⟨eP,hv2,eh⟩:=jw (hl.D 9 31 Y Y);exact bD (iw (S':=S) (off:=0) (news:=U2) (es:=U2) (us:=eP) V hJ0 mt Y hk Z (kt (hs 1 11 _ 7 Y Y Y Y)) (by rw[hv2];rfl) eh (lb Y) Y) λv w' hp=>⟨g,λ_ _=>rfl,λe=>(by cases e),True.intro,hp⟩),U⟩
   clear a w h
   rintro⟨b1,b2⟩
   dsimp only[List.map]
   refine kw bO (kw (λh=>fB hS h (m:=3) (s:=6) Y) (kw (λh=>fB hS h (m:=4) (s:=7) Y) (nx (au tb V [2,3,4,1018] (pC [.bool (gW ((G ss k).args) ((G qs k).args)),_,_,_,_,_,_,.bool (gW ((G qs k).args) ((G ss k).args)),_]) [10,17] U4 Y ⟨bJ hS V (Dt V ((G ss k).args) ((G qs k).args)) (cO func39),bJ hS V (Dt V ((G qs k).args) ((G ss k).args)) (cO func39),U⟩ ?_))))
   refine cj 3 ?_ ?_<;>intro aD
   ·have eS:decide (ss=qs)=false:=by rw[decide_eq_false_iff_not];rintro rfl;simp[F6]at aD
    refine aj tb V [1000] [_] [_] ?_
    exact bH 0 (hE:=eB (by first | (rw[eS];done) | (have:=ib (xs:=ss) (ys:=qs) oz (λj hj=>ah j oz);simp[this];done) | (symm;rw[decide_eq_false_iff_not];intro e;subst e;simp_all;done)))
   ·refine ak (nx (aT tb V [0,1,1002] [_,.int (k+1:Nat),_] [1] U3 Y ⟨aM,U⟩ ?_))
    exact br (k+1) [0,1,2] ⟨oz,cB ah (VY aD)⟩
  ·refine aW (nx (aj tb V [1000] [_] [_] ?_))
   exact bH 0 (hE:=eB (by first | (rw[eS];done) | (have:=ib (xs:=ss) (ys:=qs) oz (λj hj=>ah j oz);simp[this];done) | (symm;rw[decide_eq_false_iff_not];intro e;subst e;simp_all;done)))
theorem KO (d:Db) (z:Int) (ss qs:List Stp) (L:List bZ) (hw:∀ f∈d.ab,f.wide.length*32<=140737488351232) (l2:∀ c∈L,c.args.length<=40):Fn prog J 20 [.agg (bV d),.int z,.agg (be ss),.agg (be qs),.rd (gB L)] (.bF [.int ((fK d z ss qs L).1),.int ((fK d z ss qs L).2)]):=by
 refine fE func20 λS w0 hS hJ0=>?_
 refine tw cc (ln 4 λcr=>?_)
 refine aL (sy (.ptr (bV d)) (λh=>fk Y (h.get 0 Y) (aK hS _ h.keep h.x _ aV) (jo V h.x)) ?_)
 refine qQ (cs:=[aY ss]) V Y Y Y (lb Y) (λa w h=>(h.get 3 Y)) λb1=>sy (.ptr (be qs)) (λh=>fk Y (h.get 5 Y) (aK hS _ h.keep h.x _ aV) (jo V h.x)) (ao 2 tb (env':=[(11,_),(10,_),(8,_),(7,_),(5,_),(0,_),(1,_),(2,_),(3,_),(4,_)]) Y (aA [2,3,4,6,9] U5 Y (nx (af (au tb V (r5 [1005,1007,1008]) [_,_,.agg (be ss),.bF [.rd (cu (if cQ d z ss=0 then(aZ d z ss).1 else [])),.int (cQ d z ss)],_,_,_,_,_] [2,3] U8 Y ⟨λ_ _ _ Z hl _=>fA (ds:=[aY ss]) ee Y (aG Z (mo 0 Y)) (hl.env 1 7 _ Y Y) Y Y Z,bJ hS V (Dn V d z ss (by exact hw)) (cO func36),U⟩ ?_)))))
 refine ln 5 λ_=>?_
 refine aj tb V (r5 [7,1001]) U2 U7 ?_
 refine cj 6 ?_ ?_<;>intro hb1<;>try simp at hb1
 ·have eC:fK d z ss qs L=(0,cQ d z ss):=if_neg hb1
  refine aj tb V [1001,1002] U3 U2 ?_
  exact aX (λa w h=>di (m:=0) (k:=1) Y (dw h) Y Y (eI (by rw[eC])) (eI (by rw[eC])))
 ·refine ak (nx (af (aj tb V (r5 [1000]) [_] U6 ?_)))
  refine ax (lpo (ι:=Nat×(List Stp)) (λ(k,cur)=>(k<=L.length)/\(lR d z qs 0 ss L=lR d z qs k cur (L.drop k))) (λ(_,cur)=>[OB.var b1 [aY cur]]) (λ(k,_)=>[(14,.int (k:Nat))]) (λ(k,_)=>L.length-k) (r6 []) U5 (0,ss) ⟨aI,Y⟩ ?_)
  rintro⟨k,cur⟩ ⟨aQ,ah⟩
  refine af (au tb V (r6 [1003]) [_,_,.int (L.length:Nat),_] [2] U7 Y ⟨aC sG,U⟩ ?_)
  refine cj 6 ?_ ?_<;>intro hb2<;>try simp at hb2
  ·refine ak (nx (af (ax (af (λa w h=>lg [OB.var b1 [aY cur]] (γ:=Nat) (λix'=>([.agg (bV d),.int z,.agg (be cur),.rd (gB L),.int (k:Nat),.ptr (cm (G L k)),.agg (cm (G L k)),.bF [.agg (be ((cz d z cur (G L k)).1)),.int ((cz d z cur (G L k)).2)],.bF [.agg (be ((cz d z cur (G L k)).1)),.int ((cz d z cur (G L k)).2)],.agg (be ((cz d z cur (G L k)).1)),.int ((cz d z cur (G L k)).2),.any,.any,.int ((cz d z cur (G L k)).2)]:List AV).getD ix' .any) (λ_=>true) [(8,λ_=>.ptr (be qs)),(7,λ_=>.at b1 0),(5,λ_=>.ptr (bV d)),(1,λ_=>.int z),(4,λ_=>.rd (gB L)),(14,λ_=>.int (k:Nat)),(15,λg=>.at g 0),(16,λ_=>.int ((cz d z cur (G L k)).2))] (λ(b:List Bool) (g:Nat)=>(bif b.getD 1 false then [OB.var g [aY ((cz d z cur (G L k)).1)]]else(bif b.getD 0 false then [OB.var g [aY ([]:List Stp)]]else []))++([OB.var b1 [aY cur]])) (λk' g=>match k' with | 0=>(.pointer (some ⟨g,0,none⟩)) | _=>undef) [11,12] 0 (λ_=>Y) h V cU Y Y Y Y (λb g p hp=>(mem_append_right _ hp)) ⟨oX Y λZ hl=>j4 vf Y (hl.env 2 5 _ Y Y) aV Z,oX Y λZ hl=>b9 Y (hl.env 3 1 _ Y Y) Z,λ_ O' cf=>⟨Y,λ_ _ _ Z hl _=>fA (ds:=[aY cur]) ee Y (aG Z (cf _ (mo 0 Y))) (hl.env 1 7 _ Y Y) Y Y Z⟩,oX Y λZ hl=>b9 Y (hl.env 4 4 _ Y Y) Z,oX Y λZ hl=>b9 Y (hl.env 5 14 _ Y Y) Z,?_,oX Y λZ hl=>j4 JX Y (hl.D 5 39 Y Y) aV Z,?_,oX Y λZ hl=>b9 Y (hl.D 7 41 Y Y) Z,oX Y λZ hl=>gt Y (hl.D 8 33 Y Y) Y Z,oX Y λZ hl=>gt Y (hl.D 8 33 Y Y) Y Z,bC Y,bC Y,oX Y λZ hl=>gY Y (hl.D 10 43 Y Y) Z,U⟩ ⟨?MN,?MO,U⟩ ⟨.old 0 8 _,.old 1 7 _,.old 2 5 _,.old 3 1 _,.old 4 4 _,.old 5 14 _,.d6 0 11 15 (λ(g:Nat)=>(.pointer (some ⟨g,0,none⟩))) Y Y (λ_=>Y) (λ_=>True.intro),.new 13 16 _,U⟩ ?Yi)))))
   exact oX Y λZ hl=>cb (i:=(k:Int)) zt Y (hl.D 3 37 Y Y) (hl.D 4 38 Y Y) bK (cl (xs:=L) (k:=k) ay) Y Z
   exact oY Y λhk Z hl=>cV (KL V d z cur (G L k) (by exact hw) (by exact l2 _ (aE oz))) (cO func12) Y (aK hS _ hk Z) (Z.1) (aq (hl.D 0 34 Y Y) (aq (hl.D 1 35 Y Y) (aq (hl.D 2 36 Y Y) (aq (hl.D 6 40 Y Y) aN)))) (jo V Z)
   case MN=>exact eE [[false,false]] yq Y Y Y Y ⟨λ_ _ w hk Z _ _=>bD (gD jz V Y hk Z) λv w' ⟨b',hv,hp⟩=>⟨b',dZ,λ_=>hv,True.intro,hp⟩,U⟩
   case MO=>exact eE [[true,false]] yq Y Y Y Y ⟨λg _ w hk Z hl hs=>(by obtain⟨eP,hv2,eh⟩:=jw (hl.D 9 42 Y Y);exact bD (iw (S':=S) (off:=0) (news:=[_]) (es:=[_]) (us:=eP) V hJ0 fI Y hk Z (kt (hs 0 11 _ 15 Y Y Y Y)) (by rw[hv2];rfl) eh (lb Y) Y) λv w' hp=>⟨g,λ_ _=>rfl,λe=>(by cases e),True.intro,hp⟩),U⟩
   clear a w h
   intro b2
   dsimp only[List.map]
   refine nx (af (aj tb V (r8 [1001]) U2 U9 ?_))
   refine cj 8 ?_ ?_<;>intro aD<;>try simp at aD
   ·have eC:fK d z ss qs L=((k:Int),(cz d z cur (G L k)).2):=by rw[fK,if_pos hb1,ah,vH oz,if_neg aD]
    refine aj tb V [1002,1003] U4 U2 ?_
    exact aX (λa w h=>di (m:=0) (k:=1) Y (dw h) Y Y (eI (by rw[eC])) (eI (by rw[eC])))
   ·refine ak (nx (cC (sq (.agg (be ((cz d z cur (G L k)).1))) Y Y (lb Y) (λ_ _ h=>fA (ds:=[aY ((cz d z cur (G L k)).1)]) ee Y (aG h.x (mo 0 Y)) (h.get 6 Y) Y Y h.x) (kw bO (ce (b:=b1) (off:=0) (es:=[_]) (news:=[_]) V hJ0 fI Y Y Y (lb Y) Y (λa w h=>⟨(h.get 2 Y),(h.get 0 Y)⟩) (aA [1,2,3,4,5,6] U6 Y (nx (aT tb V (r5 [1002]) [_,.int (k+1:Nat),_] [1] U6 Y ⟨aM,U⟩ ?_))))))))
    refine kw bO (kw cK (br ((k+1),((cz d z cur (G L k)).1)) (r6 []) ⟨oz,by rw[ah,vH oz,if_pos aD]⟩))
  ·have ek:k=L.length:=by omega
   refine aW (nx (af (au tb V [4,1003] [.agg (be cur),_,.bool (decide (cur=qs)),_] [0,2] U2 Y ⟨λ_ _ _ Z hl _=>fA (ds:=[aY cur]) ee Y (aG Z (mo 0 Y)) (hl.env 1 7 _ Y Y) Y Y Z,bJ hS V (KX V cur qs) (cO func13),U⟩ ?_)))
   refine cj 1 ?_ ?_<;>intro bd<;>try simp at bd
   ·have eC:fK d z ss qs L=((L.length:Int),261):=by rw[fK,if_pos hb1,ah,vI ek,if_neg bd,ek]
    refine au tb V [1002,1003] [_,.int (L.length:Nat),_,_] [1] U2 Y ⟨aC sG,U⟩ ?_
    exact aX (λa w h=>di (m:=0) (k:=1) Y (dw h) Y Y (eI (by rw[eC])) (eI (by rw[eC])))
   ·have eC:fK d z ss qs L=((L.length:Int),0):=by rw[fK,if_pos hb1,ah,vI ek,if_pos bd,ek]
    refine ak (nx (au tb V [1002,1003] [_,.int (L.length:Nat),_,_] [1] U2 Y ⟨aC sG,U⟩ ?_))
    exact aX (λa w h=>di (m:=0) (k:=1) Y (dw h) Y Y (eI (by rw[eC])) (eI (by rw[eC])))
end
end
section
open Go.RowKit
theorem W5:mz prog 31 6:=⟨(#[.int .i64 0,.int .i64 0,.string ⟨#[]⟩,.slice none 0 0,.int .i64 0,.int .i64 0]),Y,by kernel_rfl⟩
section
variable {J:WP} (V:aR J)
include V
theorem SM (xs:List bZ) (f:FuncId) (caps:List AV) (Os:List OB) (p:bZ->Bool) (hf:∀ q'∈xs,cD prog J f Os ([.agg (cm (q'))]++caps) (.bool (p q'))) (hk0:dy prog f):cD prog J 46 Os [.rd (gB xs),.fn f caps] (.int (cH p xs)):=by
 refine eV func46 λS w0 hS hJ0 hH=>?_
 clear hJ0
 refine ln 0 λ_=>?_
 refine qs tb V [0,1] [_] U2 ?_
 refine af (aJ tb V [0,1,1001,1002] [_,.int (xs.length:Nat),_] [1] U4 Y ⟨aC sG,U⟩ ?_)
 refine ax (lp (ι:=Nat) (λk=>(k<=xs.length)/\(∀ j,j<k->p (G xs j)=false)) (λk=>[(8,.int (k:Nat))]) (λk=>xs.length-k) [0,1,2,3] U3 0 ⟨aI,λj hj=>by omega⟩ ?_)
 rintro k ⟨aQ,ah⟩
 refine qs tb V [0,1,2,3,1000] [_] U5 ?_
 refine cE 4 ?_ ?_<;>intro hb1<;>try simp at hb1
 ·refine ak (nx (af (ax (qs tb V [0,1,2,3,1001] U2 U5 ?_))))
  refine aJ tb V (r5 [1005]) (V3 [.ptr (cm (G xs k)),_,.bool (p (G xs k))]) [3,5] U6 Y ⟨bq zt,λ_ _ hk Z hl _=>iE (hf (G xs k) (aE oz)) hk0 Y (hl.D 0 11 Y Y) (nm hS hk) (Z) (λ_ ho=>f7 hH hk ho) (aq (hl.D 4 15 Y Y) aN) (js V Z),U⟩ ?_
  refine cj 5 ?_ ?_<;>intro hb2<;>try simp at hb2
  ·refine qs tb V [1001] U2 [_] ?_
   exact aU 0 (hE:=eI (by first | exact(iR hb1 hb2 ah).symm | exact(iS λj hj=>ah j oz).symm))
  ·refine ak (nx (dK tb V [0,1,2,1001] [.int (k+1:Nat),_] [0] U4 Y ⟨aM,U⟩ ?_))
   exact dM (k+1) [0,1,2,3] ⟨oz,cB ah hb2⟩
 ·refine aW (nx (qs tb V [1000] [_] [_] ?_))
  exact aU 0 (hE:=eI (by first | exact(iR hb1 hb2 ah).symm | exact(iS λj hj=>ah j oz).symm))
theorem Sx (xs:List bZ) (f:FuncId) (caps:List AV) (Os:List OB) (p:bZ->Bool) (hf:∀ q'∈xs,cD prog J f Os ([.agg (cm (q'))]++caps) (.bool (p q'))) (hk0:dy prog f):cD prog J 16 Os [.rd (gB xs),.fn f caps] (.bool (xs.any p)):=by
 refine eV func16 λS w0 hS hJ0 hH=>?_
 clear hJ0
 refine ln 0 λ_=>?_
 refine qs tb V [0,1] [_] U2 ?_
 refine aJ tb V [1004] [_,_,.int (cH p xs),_,_] [2] [_] Y ⟨λ_ _ hk Z hl _=>dv (SM V xs f caps Os p (hf) (hk0)) (cO func46) Y (nm hS hk) (Z) (λ_ ho=>f7 hH hk ho) (aq (hl.D 0 5 Y Y) (aq (hl.D 1 6 Y Y) aN)) (js V Z),U⟩ ?_
 exact aU 0 (hE:=eB (by rw[<-pd]))
theorem W8 (c:bZ)  :Fn prog J 17 [.agg (cm c)] (.bool (decide ((20:Int)< (c.args.length:Int)))):=by
 refine fE func17 λS w0 hS hJ0=>?_
 clear hJ0
 refine aJ tb V [1000] [.ptr (cm c),_] [0] [_] Y ⟨d9 hS V,U⟩ ?_
 refine aJ tb V [1001,1004] [_,_,.int (c.args.length:Nat),_,_] [2] U2 Y ⟨aC fb,U⟩ ?_
 refine ln 0 λ_=>?_
 exact aU 1 (hE:=eB (Y))
theorem Xa (L:List bZ) (l2:∀ c∈L,c.args.length<=40) (XR:L.length<=12):Fn prog J 19 [.rd (gB L)] (.rd (gB L)):=by
 refine fE func19 λS w0 hS hJ0=>?_
 refine tw cc (ln 0 λcr=>?_)
 refine aj tb V [0] [_] [_] ?_
 refine aj tb V [0,1000] [_] U2 ?_
 refine af (au tb V [1,1000,1001,1002] [_,.int (L.length:Nat),_] [1] U4 Y ⟨aC sG,U⟩ ?_)
 refine ax (tw (iJ 37 6 V) (lpo (ι:=Nat×Value×(List bZ)) (λ(k,_,out)=>(k<=L.length)/\(out=L.take k)) (λ(_,v,out)=>[OB.row v 37 6 (out.map cm)]) (λ(k,v,_)=>[(8,.int (k:Nat)),(3,.lit v)]) (λ(k,_,_)=>L.length-k) [1,2,3,0] U2 (0,(.slice none 0 0),([]:List bZ)) ⟨aI,Y⟩ ?_))
 rintro⟨k,v,out⟩ ⟨aQ,ah⟩
 refine aj tb V [0,1,2,3,1000] [_] U5 ?_
 refine cE 4 ?_ ?_<;>intro hb1<;>try simp at hb1
 ·have e5:out.length=k:=by rw[ah,List.length_take];omega
  refine ak (nx (af (ax (aL (sy (.ptr (cm (G L k))) (λh=>cb (i:=(k:Int)) zt Y (h.get 0 Y) (h.get 2 Y) bK (cl (xs:=L) (k:=k) ay) Y h.x) ?_)))))
  refine ao 1 tb Y (iX (cs:=cm (G L k)) W5 Y Y Y (lb Y) Y Y Y dz (m:=0) Y Y (λa w h=>aK hS _ h.keep h.x _ aV) (λa w h w' hk'=>fo V _ _ hk' h.x) (aA [0,3,4,5,6] U5 Y (nx (cC (ao 2 tb Y (sy (.agg (cm (G L k))) (λh=>cV (W9 V (G L k) (by exact l2 _ (aE oz))) (cO func11) Y (aK hS _ h.keep h.x) (h.x.1) (aq (h.get 0 Y) aN) (jo V h.x)) ?_))))))
  refine sy (.rd (gB ([(G L k)]))) (λh=>HP p7 JH Y Y (h.get 0 Y) (aK hS _ h.keep h.x _ aV) (jo V h.x)) ?_
  refine fN (f:=cm) (m:=3) (s:=12) out ([(G L k)]) (λ_=>Y) CS V hJ0 Y Y Y (lb Y) Y Y (λa w h=>(h.get 0 Y)) (by simp;omega) (by simp;omega) λv1=>?_
  refine ao 1 tb Y (aA [0,2,7,8,9] U5 Y (nx (ln 1 λhl2=>?_)))
  refine aT tb V [0,2,3,1001] [.int (k+1:Nat),_] [0] U4 Y ⟨aM,U⟩ ?_
  exact br (k+1,v1,out++([(G L k)])) [1,2,3,0] ⟨oz,by rw[dF oz,<-ah]⟩
 ·refine aW (nx (aj tb V [1001] U2 [_] ?_))
  exact tw (λh=>dU hS h (m:=0) (s:=2) Y) (bH 0 (hE:=congrArg (λz=>AV.rd (gB z)) (show out=L from by rw[ah,cS oz])))
theorem QA (d:Db) (z:Int) (ss qs:List Stp) (L:List bZ) (hw:∀ f∈d.ab,f.wide.length*32<=140737488351232) (hG:gJ J):Fn prog J 5 [.agg (bV d),.int z,.agg (be ss),.agg (be qs),.rd (gB L)] (.bool true):=by
 refine fE func5 λS w0 hS hJ0=>?_
 refine tw cc (ln 4 λcr=>?_)
 refine au tb V [1,4,1000,1001,1002] [.ptr (bV d),.ptr (be ss),.ptr (be qs),_] [0,1,2] U5 Y ⟨cY hS V,cY hS V,cY hS V,U⟩ ?_
 refine af (au tb V (r5 [1018]) [_,_,.bool (tr d ss),_,_,_,_,.bool (tr d qs),_,_,_,_,.int (L.length:Nat),_,_,_,_,.bool (L.any (λc'=>decide ((20:Int)< (c'.args.length:Int)))),_] [2,7,12,17] U6 Y ⟨bJ hS V (Jz V d ss) (cO func8),bJ hS V (Jz V d qs) (cO func8),aC sG,λ_ _ hk Z hl hc=>dv (Sx V L 17 [] [] (λc'=>decide ((20:Int)< (c'.args.length:Int))) (λq' _=>(W8 V q').rr) ((cO func17))) (cO func16) Y (aK hS _ hk Z) (Z.1) b8 (aq (hl.D 16 31 Y hc) (aq (np 17) aN)) (jo V Z),U⟩ ?_)
 refine cj 5 ?_ ?_<;>intro hb1
 ·refine au tb V [1001] [.bool true,_] [0] [_] Y ⟨bJ hS V (Jy V  (by exact hG)) (cO func9),U⟩ ?_
  exact bH 0 (hE:=Y)
 ·simp only[Bool.or_eq_false_iff,Bool.not_eq_false',decide_eq_false_iff_not]at hb1
  have fe:=Nh hb1.1.1.1
  have h12:L.length<=12:=by have:=hb1.1.2;omega
  have l2:=Lx hb1.2
  refine ak (nx (au tb V (r5 [1010,1011]) (V5 [.rd (gB L),.bF [.int ((fK d z ss qs L).1),.int ((fK d z ss qs L).2)],_,_,_,_,_]) [5,6] U7 Y ⟨bJ hS V (Xa V L (by exact l2) (by exact h12)) (cO func19),bJ hS V (Sn V d z ss qs L (by exact hw) (by exact hG) (by exact fe.1) (by exact fe.2) (by exact l2)) (cO func18),U⟩ ?_))
  refine au tb V [5,6,1009,1010] (V5 [.bF [.int ((fK d z ss qs L).1),.int ((fK d z ss qs L).2)],_,_,_,_,_]) [5] U4 Y ⟨bJ hS V (KO V d z ss qs L (by exact hw) (by exact l2)) (cO func20),U⟩ ?_
  refine au tb V [1011] (V9 [.bool true,_,_]) [9] [_] Y ⟨λ_ _ hk Z _ hc=>cV (Jy V  (by have aF:(((decide ((fK d z ss qs L).1=(fK d z ss qs L).1))&& (decide ((fK d z ss qs L).2=(fK d z ss qs L).2)))==true)=true:=hc;(try simp at aF);(exact hG))) (cO func9) Y (aK hS _ hk Z) (Z.1) aN (jo V Z),U⟩ ?_
  exact bH 0 (hE:=eB (by first | rfl | simp))
end
end
end Go.Proofs.YtdfadihhfppjaaaGreatDoor
