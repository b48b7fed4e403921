/-
  CONTRACTS of the reference: substitution.
  THE ENGINE: rows of structs from given parts; a struct of a row and a verdict; verdicts compared.
  CONTRACTS of the reference: steps of a proof.
  PROOFS AS GRAPHS (plain): sizes, the flat form, step by step.
  THE ENGINE: the lesser of two whole numbers.
  CONTRACTS of the reference: graphs.
  CONTRACTS of the reference: a graph in which each step is used once.
  CONTRACTS of the program: the form of a graph, its flat form, its labels.
  CONTRACTS of the program: a graph in which each step is used once.
  PROOFS AS GRAPHS (plain): the formulas of steps, their lengths; the numbers of frames.
  CONTRACTS of the program: the formulas of a graph.
  CONTRACTS of the program: Texts.
  CONTRACTS of the program: verdicts of theorems, of other proofs.
-/
import Derived.Test.YtaigaoflehfdcaaGreatDoorZGAB
import Derived.Laws.Concat
set_option maxHeartbeats 8000000
set_option maxRecDepth 100000
namespace Go.Proofs.YtaigaoflehfdcaaGreatDoor
open Go.Proofs.Tryz (prog)
open Go.RowKit
section
variable {J:WP} (hJ:Stab J)
include hJ
theorem Ze3 (l:List Bd) (s:BA)  :Fn prog J 163 [.rd (ZdH l),.str s] (.rd (Zi (Yt (ZW l) s))):=by
 refine fE Tryz.func163 fun S w0 hS hJ0=>?_
 refine tw Z6 (ln 0 fun hl1=>?_)
 refine qso tb hJ [0,1] [_] U2 ?_
 refine Zd (qso tb hJ [0,1,1000] [_] U3 ?_)
 refine Zc (lpo (ι:=Nat) (fun k=>(k≤l.length)∧(∀ j,j<k→¬ (ge l j).var=s)) (fun _=>[]) (fun k=>[(5,.int (k:Nat))]) (fun k=>l.length-k) [0,1,2] U2 0 ⟨nzl,fun j hj=>by omega⟩ ?_)
 rintro k ⟨f1_1,f1_2⟩
 refine Zd (ZE tb hJ [0,1,2,1003] [_,_,.int (l.length:Nat),_] [2] U4 rfl ⟨ZX Zdf,trivial⟩ ?_)
 refine cj 3 (fun hb1=>?_) fun hb1=>?_
 ·
  try simp at hb1
  refine Za (nx (Zd (Zc (ZE tb hJ [0,1,2,1006] [_,_,.ptr (bdC (ge l k)),_,_,_,_] [2] U4 rfl ⟨iIx Xi,trivial⟩ ?_))))
  refine cj 3 (fun hb2=>?_) fun hb2=>?_
  ·
   try simp at hb2
   refine ZE tb hJ [1004,1005] [_,_,.ptr (bdC (ge l k)),_,_,_] [2] U2 rfl ⟨iIx Xi,trivial⟩ ?_
   refine ln 0 fun hl2=>?_
   exact tRo 1 (hE:=congrArg (fun z=>AV.rd (Zi z)) (show((ge l k).text)=(Yt (ZW l) s)from by first | exact(ZnE hb1 f1_2 hb2).symm | exact(Zka fun j hj=>f1_2 j oz).symm))
  ·
   try simp at hb2
   refine Za (nx (YA tb hJ [0,1,1002] [_,.int (k+1:Nat),_] [1] U3 rfl ⟨Yf,trivial⟩ ?_))
   exact YK (k+1) [0,1,2] ⟨oz,ZG f1_2 hb2⟩
 ·
  try simp at hb1
  refine Zp (nx (ZE tb hJ [1001,1002] [_,.rd (Zi ([s])),_] [1] U2 rfl ⟨fun _ _ hk hx hl _=>Yw Zf QI rfl (hl.D 0 24 rfl rfl) (Zy hS _ hk hx _ nlr) (jo hJ hx),trivial⟩ ?_))
  refine ln 0 fun hl3=>?_
  exact tRo 1 (hE:=congrArg (fun z=>AV.rd (Zi z)) (show([s])=(Yt (ZW l) s)from by first | exact(ZnE hb1 f1_2 hb2).symm | exact(Zka fun j hj=>f1_2 j oz).symm))
theorem ZuI (t:List BA) (l:List Bd) (hb:(Xm (ZW l) t).length≤2000):Fn prog J 164 [.rd (Zi t),.rd (ZdH l)] (.rd (Zi (Xm (ZW l) t))):=by
 refine fE Tryz.func164 fun S w0 hS hJ0=>?_
 refine tw Z6 (ln 0 fun hl1=>?_)
 refine ln 1 fun hl2=>?_
 refine qso tb hJ [0,1] [_] U2 ?_
 refine tsq (XA Zf hJ rfl rfl rfl (lb rfl) fun v1=>?_)
 refine snK 1 tb rfl (seK [0,2,3] U3 rfl ?_)
 refine nx (Zd (qso tb hJ [0,1,2,1000] [_] U4 ?_))
 refine Zc (lpo (ι:=Nat×Value×(List BA)) (fun(k,_,out)=>(k≤t.length)∧(out=Xm (ZW l) (t.take k))) (fun(_,v,out)=>[OB.row v 9 1 (out.map Q3)]) (fun(k,v,_)=>[(6,.int (k:Nat)),(5,.lit v)]) (fun(k,_,_)=>t.length-k) [1,2,3,0] U2 (0,v1,([]:List BA)) ⟨nzl,rfl⟩ ?_)
 rintro⟨k,v,out⟩ ⟨f1_1,f1_2⟩
 refine Zd (ZE tb hJ [0,1,2,3,1003] [_,_,.int (t.length:Nat),_] [2] U5 rfl ⟨ZX Zs,trivial⟩ ?_)
 refine cj 4 (fun hb1=>?_) fun hb1=>?_
 ·
  try simp at hb1
  refine Za (nx (Zd (Zc (Ya (snK 4 tb rfl (sy (.ptr [lS (ge t k)]) (fun h=>ZK (i:=(k:Int)) Zf rfl (h.get 1 rfl) (h.get 0 rfl) nnn (ZR (xs:=t) (k:=k) sfz) rfl h.x) ?_))))))
  refine snK 1 tb rfl (sy (.rd (Zi (Yt (ZW l) (ge t k)))) (fun h=>ZcZ (Ze3 hJ l (ge t k)) ZcE rfl (Zy hS _ h.keep h.x) (h.x.1) (Zb (h.get 4 rfl) (Zb (h.get 0 rfl) Zk)) (jo hJ h.x)) ?_)
  refine Z2 (f:=Q3) (m:=6) (s:=14) out (Yt (ZW l) (ge t k)) (fun _=>rfl) Y3 hJ hJ0 rfl rfl rfl (lb rfl) rfl rfl (fun a w h=>(h.get 0 rfl)) (by have h9:=Xu (ZW l) t (k+1);rw[YX oz,List.length_append,←f1_2]at h9;omega) (by have h9:=Xu (ZW l) t (k+1);rw[YX oz,List.length_append,←f1_2]at h9;omega) fun v2=>?_
  refine snK 1 tb rfl (seK [0,2,9,10,11] U5 rfl ?_)
  refine nx (ln 1 fun hl3=>?_)
  refine YA tb hJ [0,2,3,1002] [_,.int (k+1:Nat),_] [1] U4 rfl ⟨Yf,trivial⟩ ?_
  exact YK (k+1,v2,out++(Yt (ZW l) (ge t k))) [1,2,3,0] ⟨oz,by rw[YX oz,←f1_2]⟩
 ·
  try simp at hb1
  refine Zp (nx (qso tb hJ [1001] U2 [_] ?_))
  exact tw (fun h=>ZF hS h (m:=0) (s:=4) rfl) (tRo 0 (hE:=congrArg (fun z=>AV.rd (Zi z)) (show out=(Xm (ZW l) t)from by rw[f1_2,Zz oz])))
theorem ZlL (t:List BA) (l:List Bd) (n:Nat) (hn:n≤2000) (hl:∀ b∈l,b.text.length≤2000):Fn prog J 113 [.rd (Zi t),.rd (ZdH l),.int (n:Nat)] (.tup [.rd (Zi (if ZaR (ZW l) t n then Xm (ZW l) t else [])),.int (if ZaR (ZW l) t n then 0 else 15)]):=by
 refine fE Tryz.func113 fun S w0 hS hJ0=>?_
 refine tw Z6 (ln 0 fun hl1=>?_)
 refine ln 1 fun hl2=>?_
 refine qso tb hJ [0,1,2] U2 U3 ?_
 refine Zd (qso tb hJ [0,1,2,1001] U2 U4 ?_)
 refine cj 3 (fun hb1=>?_) fun hb1=>?_
 ·
  try simp at hb1
  exact False.elim oz
 ·
  try simp at hb1
  refine Za (nx (qso tb hJ [0,1,2,1000] [_] U4 ?_))
  refine Zd (qso tb hJ [0,1,2,3,1000] [_] U5 ?_)
  refine Zc (lpo (ι:=Nat×Nat) (fun(k,z)=>(k≤t.length)∧(z=(Xm (ZW l) (t.take k)).length)∧(z≤n)) (fun(_,_)=>[]) (fun(k,z)=>[(9,.int (k:Nat)),(8,.int (z:Nat))]) (fun(k,_)=>t.length-k) [0,1,2,4,3] U3 (0,0) ⟨nzl,by simp[Xm],nzl⟩ ?_)
  rintro⟨k,z⟩ ⟨f1_1,f1_2,f1_3⟩
  refine Zd (ZE tb hJ (r5 [1003]) [_,_,.int (t.length:Nat),_] [2] U6 rfl ⟨ZX Zs,trivial⟩ ?_)
  refine cj 5 (fun hb2=>?_) fun hb2=>?_
  ·
   try simp at hb2
   refine Za (nx (Zd (Zc (ZE tb hJ [0,1,2,3,1006,1009] (V4 [.ptr [lS (ge t k)],_,.rd (Zi (Yt (ZW l) (ge t k))),.int ((Yt (ZW l) (ge t k)).length:Nat),.int (z+(Yt (ZW l) (ge t k)).length:Nat),_]) [4,6,7,8] U6 rfl ⟨iIx Zf,iFo hS hJ (Ze3 hJ l (ge t k)) ZcE,ZX Zs,Yf (h0:=by have:=Zb1 (m:=2000) oz hl (ge t k);omega),trivial⟩ ?_))))
   refine ln 4 fun hl3=>?_
   refine qso tb hJ [0,1,2,3,5,1002] U3 U6 ?_
   refine cj 5 (fun hb3=>?_) fun hb3=>?_
   ·
    try simp at hb3
    have e3:ZaR (ZW l) t n=false:=by have h9:=Xu (ZW l) t (k+1);rw[YX oz,List.length_append]at h9;simp only[ZaR,decide_eq_false_iff_not];omega
    refine qso tb hJ [1000,1001] U2 U2 ?_
    exact tw (fun h=>Ym h (m:=0) (s:=6) rfl) (ZB (fun a w h=>Yh (m:=0) (k:=1) rfl (ZM h) rfl rfl (congrArg (fun z=>AV.rd (Zi z)) (show([]:List BA)=(if ZaR (ZW l) t n then Xm (ZW l) t else [])from by simp[e3])) (eI (by simp[e3]))))
   ·
    try simp at hb3
    refine Za (nx (YA tb hJ [0,1,2,4,1002] [_,.int (k+1:Nat),_] [1] U5 rfl ⟨Yf,trivial⟩ ?_))
    exact YK (k+1,z+(Yt (ZW l) (ge t k)).length) [0,1,2,4,3] ⟨oz,by rw[YX oz,List.length_append,f1_2],oz⟩
  ·
   try simp at hb2
   have e4:ZaR (ZW l) t n=true:=by rw[Zz (xs:=t) oz]at f1_2;simp only[ZaR,decide_eq_true_eq];omega
   refine Zp (nx (ZE tb hJ [1002,1003,1004] [_,_,.rd (Zi (Xm (ZW l) t)),_,_] [2] U3 rfl ⟨iFo hS hJ (ZuI hJ t l (by simp only[ZaR,decide_eq_true_eq]at e4;omega)) Zrf,trivial⟩ ?_))
   refine ln 0 fun hl4=>?_
   exact ZB (fun a w h=>Yh (m:=1) (k:=2) rfl (ZM h) rfl rfl (congrArg (fun z=>AV.rd (Zi z)) (show(Xm (ZW l) t)=(if ZaR (ZW l) t n then Xm (ZW l) t else [])from by simp[e4])) (eI (by simp[e4])))
theorem Zox (xs ys:List BA)  :Fn prog J 43 [.rd (Zi xs),.rd (Zi ys)] (.bool (decide (xs=ys))):=by
 refine fE Tryz.func43 fun S w0 hS hJ0=>?_
 clear hJ0
 refine ln 0 fun hl1=>?_
 refine ln 1 fun hl2=>?_
 refine qs tb hJ [0,1] [_] U2 ?_
 refine Zd (hqs tb hJ [0,1,1004] [_,.int (xs.length:Nat),_,.int (ys.length:Nat),_] [1,3] U3 rfl ⟨ZX Zs,ZX Zs,trivial⟩ ?_)
 refine cj 2 (fun hb1=>?_) fun hb1=>?_
 ·
  try simp at hb1
  refine qs tb hJ [1000] [_] [_] ?_
  exact tRn 0 (hE:=eB (by first | rfl | grind[Zj]))
 ·
  try simp at hb1
  refine Za (nx (Zd (qs tb hJ [0,1,1000] [_] U3 ?_)))
  refine Zc (lp (ι:=Nat) (fun k=>(k≤xs.length)∧(∀ j,j<k→ge xs j=ge ys j)) (fun k=>[(5,.int (k:Nat))]) (fun k=>xs.length-k) [0,1,2] U2 0 (show(0≤xs.length)∧(∀ j,j<0→ge xs j=ge ys j)from by first | trivial | grind) ?_)
  rintro k ⟨f1_1,f1_2⟩
  refine Zd (hqs tb hJ [0,1,2,1003] [_,_,.int (xs.length:Nat),_] [2] U4 rfl ⟨ZX Zs,trivial⟩ ?_)
  refine cj 3 (fun hb2=>?_) fun hb2=>?_
  ·
   try simp at hb2
   refine Za (nx (Zd (Zc (hqs tb hJ [0,1,2,1008] [_,_,.ptr [lS (ge xs k)],_,_,_,.ptr [lS (ge ys k)],_,_] [2,6] U4 rfl ⟨iIx Zf,iIx Zf,trivial⟩ ?_))))
   refine cj 3 (fun hb3=>?_) fun hb3=>?_
   ·
    try simp at hb3
    refine qs tb hJ [1000] [_] [_] ?_
    exact tRn 0 (hE:=eB (by first | rfl | grind[Zj]))
   ·
    try simp at hb3
    refine Za (nx (hqp tb hJ [0,1,1002] [_,.int (k+1:Nat),_] [1] U3 rfl ⟨Yf,trivial⟩ ?_))
    exact lpE (k+1) [0,1,2] ⟨by first | omega | (simp;omega) | grind[Zj],by first | omega | (simp;omega) | grind[Zj]⟩
  ·
   try simp at hb2
   refine Zp (nx (qs tb hJ [1000] [_] [_] ?_))
   exact tRn 0 (hE:=eB (by have:=Zap (xs:=xs) (ys:=ys) oz (fun j hj=>f1_2 j oz);simp[this]))
theorem ZuG (t:List BA) (l:List Bd) (x:List BA)  :Fn prog J 112 [.rd (Zi t),.rd (ZdH l),.rd (Zi x)] (.bool (ZoR t l x)):=by
 refine fE Tryz.func112 fun S w0 hS hJ0=>?_
 refine tw Z6 (ln 0 fun hl1=>?_)
 refine ln 1 fun hl2=>?_
 refine ln 2 fun hl3=>?_
 refine qso tb hJ [0,1,2] [_] U3 ?_
 refine qso tb hJ [0,1,2,1000] [_] U4 ?_
 refine Zd (qso tb hJ [0,1,2,3,1000] [_] U5 ?_)
 refine Zc (lpo (ι:=Nat×Nat) (fun(k,p)=>(k≤t.length)∧(p≤x.length)∧(x.take p=Xm (ZW l) (t.take k))) (fun(_,_)=>[]) (fun(k,p)=>[(8,.int (k:Nat)),(7,.int (p:Nat))]) (fun(k,_)=>t.length-k) [0,1,2,4,3] U3 (0,0) ⟨nzl,nzl,rfl⟩ ?_)
 rintro⟨k,p⟩ ⟨f1_1,f1_2,f1_3⟩
 refine Zd (ZE tb hJ (r5 [1003]) [_,_,.int (t.length:Nat),_] [2] U6 rfl ⟨ZX Zs,trivial⟩ ?_)
 refine cj 5 (fun hb1=>?_) fun hb1=>?_
 ·
  try simp at hb1
  refine Za (nx (Zd (Zc (ZE tb hJ (r5 [1005,1006]) (V3 [.ptr [lS (ge t k)],_,.rd (Zi (Yt (ZW l) (ge t k))),_]) [3,5] U7 rfl ⟨iIx Zf,iFo hS hJ (Ze3 hJ l (ge t k)) ZcE,trivial⟩ ?_))))
  refine ln 5 fun hl4=>?_
  refine Zd (ZE tb hJ (r5 [6,1018]) [_,.int ((Yt (ZW l) (ge t k)).length:Nat),_,.int (x.length:Nat),_,.int ((x.length:Int)-(p:Int)),_,_,_,_,_,_,_,.int ((Yt (ZW l) (ge t k)).length:Nat),.int (p+(Yt (ZW l) (ge t k)).length:Nat),.rd (Zi ((x.take (p+(Yt (ZW l) (ge t k)).length)).drop p)),.bool (decide ((Yt (ZW l) (ge t k))=((x.take (p+(Yt (ZW l) (ge t k)).length)).drop p))),_,_] [1,3,5,13,14,15,16] U7 rfl ⟨ZX Zs,ZX Zs,ZuY,ZX Zs,fun _ _ _ hx hl hc=>ZpD (i:=(p:Int)) (j:=(((Yt (ZW l) (ge t k)).length:Nat):Int)) rfl (hl.D 11 33 rfl hc) (hl.D 13 35 rfl hc) (by have hc':((decide ((x.length:Int)-(p:Int)< (((Yt (ZW l) (ge t k)).length:Nat):Int)))==false)=true:=hc;(try simp at hc');(first | omega | (simp;omega) | grind[Zj])) (by have hc':((decide ((x.length:Int)-(p:Int)< (((Yt (ZW l) (ge t k)).length:Nat):Int)))==false)=true:=hc;(try simp at hc');(first | omega | (simp;omega) | grind[Zj])) hx,fun _ _ _ hx hl hc=>Xw (ys:=(x.take (p+(Yt (ZW l) (ge t k)).length)).drop p) (lo:=p) (hi:=p+(Yt (ZW l) (ge t k)).length) rfl Zf (fun _=>rfl) rfl (hl.D 9 31 rfl hc) (hl.D 10 32 rfl hc) (hl.D 14 36 rfl hc) (by have hc':((decide ((x.length:Int)-(p:Int)< (((Yt (ZW l) (ge t k)).length:Nat):Int)))==false)=true:=hc;(try simp at hc');(first | omega | (simp;omega) | grind[Zj])) (by have hc':((decide ((x.length:Int)-(p:Int)< (((Yt (ZW l) (ge t k)).length:Nat):Int)))==false)=true:=hc;(try simp at hc');(first | omega | (simp;omega) | grind[Zj])) hx,iFo hS hJ (Zox hJ (Yt (ZW l) (ge t k)) ((x.take (p+(Yt (ZW l) (ge t k)).length)).drop p)) Zor,trivial⟩ ?_)
  refine cj 6 (fun hb2=>?_) fun hb2=>?_
  ·
   have e3:ZoR t l x=false:=by rw[ZoR,decide_eq_false (Zta hb1 f1_3 f1_2 (fun h9=>by have h8:(Yt (ZW l) (ge t k))=(x.take (p+(Yt (ZW l) (ge t k)).length)).drop p:=h9.2.symm;simp[←h8]at hb2;omega))]
   refine qso tb hJ [1000] [_] [_] ?_
   exact tRo 0 (hE:=eB (e3.symm))
  ·
   have e4:(Yt (ZW l) (ge t k)).length≤x.length-p∧(Yt (ZW l) (ge t k))=(x.take (p+(Yt (ZW l) (ge t k)).length)).drop p:=by simp only[Bool.or_eq_false_iff,decide_eq_false_iff_not,Bool.not_eq_false',decide_eq_true_eq]at hb2;exact⟨oz,hb2.2⟩
   refine Za (nx (YA tb hJ [0,1,2,3,1004] [_,_,.int ((Yt (ZW l) (ge t k)).length:Nat),.int (p+(Yt (ZW l) (ge t k)).length:Nat),_] [2,3] U5 rfl ⟨ZX Zs,Yf,trivial⟩ ?_))
   refine nx (YA tb hJ [0,1,2,4,1002] [_,.int (k+1:Nat),_] [1] U5 rfl ⟨Yf,trivial⟩ ?_)
   exact YK (k+1,p+(Yt (ZW l) (ge t k)).length) [0,1,2,4,3] ⟨oz,oz,ZmC hb1 f1_3 e4.2.symm⟩
 ·
  try simp at hb1
  refine Zp (nx (ZE tb hJ [1004] [_,_,.int (x.length:Nat),_,_] [2] [_] rfl ⟨ZX Zs,trivial⟩ ?_))
  exact tRo 0 (hE:=eB (by rw[ZoR,Zpo (by rw[f1_3,Zz oz]) f1_2]))
theorem ZsE (xs:List BA) (s:BA)  :Fn prog J 227 [.rd (Zi xs),.str s] (.bool (decide (s∈xs))):=by
 refine fE Tryz.func227 fun S w0 hS hJ0=>?_
 clear hJ0
 refine ln 0 fun hl1=>?_
 refine qs tb hJ [0,1] [_] U2 ?_
 refine Zd (qs tb hJ [0,1,1000] [_] U3 ?_)
 refine Zc (lp (ι:=Nat) (fun k=>(k≤xs.length)∧(∀ j,j<k→ge xs j≠s)) (fun k=>[(5,.int (k:Nat))]) (fun k=>xs.length-k) [0,1,2] U2 0 (show(0≤xs.length)∧(∀ j,j<0→ge xs j≠s)from by first | trivial | grind) ?_)
 rintro k ⟨f1_1,f1_2⟩
 refine Zd (hqs tb hJ [0,1,2,1003] [_,_,.int (xs.length:Nat),_] [2] U4 rfl ⟨ZX Zs,trivial⟩ ?_)
 refine cj 3 (fun hb1=>?_) fun hb1=>?_
 ·
  try simp at hb1
  refine Za (nx (Zd (Zc (hqs tb hJ [0,1,2,1005] [_,_,.ptr [lS (ge xs k)],_,_,_] [2] U4 rfl ⟨iIx Zf,trivial⟩ ?_))))
  refine cj 3 (fun hb2=>?_) fun hb2=>?_
  ·
   try simp at hb2
   refine qs tb hJ [1000] [_] [_] ?_
   exact tRn 0 (hE:=eB (by grind[Zj]))
  ·
   try simp at hb2
   refine Za (nx (hqp tb hJ [0,1,1002] [_,.int (k+1:Nat),_] [1] U3 rfl ⟨Yf,trivial⟩ ?_))
   exact lpE (k+1) [0,1,2] ⟨by first | omega | (simp;omega) | grind[Zj],by first | omega | (simp;omega) | grind[Zj]⟩
 ·
  try simp at hb1
  refine Zp (nx (qs tb hJ [1000] [_] [_] ?_))
  exact tRn 0 (hE:=eB (by grind[Y5]))
theorem ZsD (t vs:List BA) (hb:t.length≤2000):Fn prog J 207 [.rd (Zi t),.rd (Zi vs)] (.rd (Zi (Qb t vs))):=by
 refine fE Tryz.func207 fun S w0 hS hJ0=>?_
 refine tw Z6 (ln 0 fun hl1=>?_)
 refine ln 1 fun hl2=>?_
 refine qso tb hJ [0,1] [_] U2 ?_
 refine tsq (XA Zf hJ rfl rfl rfl (lb rfl) fun v1=>?_)
 refine snK 1 tb rfl (seK [0,2,3] U3 rfl ?_)
 refine nx (Zd (qso tb hJ [0,1,2,1000] [_] U4 ?_))
 refine Zc (lpo (ι:=Nat×Value×(List BA)) (fun(k,_,out)=>(k≤t.length)∧(out=Qb (t.take k) vs)∧(out.length≤k)) (fun(_,v,out)=>[OB.row v 9 1 (out.map Q3)]) (fun(k,v,_)=>[(6,.int (k:Nat)),(5,.lit v)]) (fun(k,_,_)=>t.length-k) [1,2,3,0] U2 (0,v1,([]:List BA)) ⟨nzl,rfl,Nat.le_refl _⟩ ?_)
 rintro⟨k,v,out⟩ ⟨f1_1,f1_2,f1_3⟩
 refine Zd (ZE tb hJ [0,1,2,3,1003] [_,_,.int (t.length:Nat),_] [2] U5 rfl ⟨ZX Zs,trivial⟩ ?_)
 refine cj 4 (fun hb1=>?_) fun hb1=>?_
 ·
  try simp at hb1
  refine Za (nx (Zd (Zc (ZtH tb hJ [0,1,2,3,1014] (V3 [.ptr [lS (ge t k)],_,.bool (decide ((ge t k)∈vs)),_,_,_,_,.ptr [lS (ge t k)],_,.bool (decide ((ge t k)∈out)),_,_]) [3,5,10,12] U5 rfl ⟨iIx Zf,iFr hS hJ (ZsE hJ vs (ge t k)) Zku,gIx Zf (hk:=fun(hc':((decide ((ge t k)∈vs))==true)=true)=>by(try simp at hc');first | omega | (simp;omega) | grind[Zj]),fun _ _ hk hx hl hc=>ZcZ (ZsE hJ out (ge t k)) Zku rfl (nm hS hk) (hx.1) (Zb (ZaB hS hx (mo 0 rfl) (hl.D 7 21 rfl hc)) (Zb (hl.D 11 25 rfl hc) Zk)) (jo hJ hx),trivial⟩ ?_))))
  refine cj 4 (fun hb2=>?_) fun hb2=>?_
  ·
   try simp at hb2
   refine Ya (snK 3 tb rfl (sy (.ptr [lS (ge t k)]) (fun h=>ZK (i:=(k:Int)) Zf rfl (h.get 1 rfl) (h.get 0 rfl) nnn (ZR (xs:=t) (k:=k) sfz) rfl h.x) ?_))
   refine snK 1 tb rfl (sy (.rd (Zi ([(ge t k)]))) (fun h=>Yw Zf QI rfl (h.get 0 rfl) (Zy hS _ h.keep h.x _ nlr) (jo hJ h.x)) ?_)
   refine Z2 (f:=Q3) (m:=5) (s:=29) out ([(ge t k)]) (fun _=>rfl) Y3 hJ hJ0 rfl rfl rfl (lb rfl) rfl rfl (fun a w h=>(h.get 0 rfl)) sfz sfz fun v2=>?_
   refine snK 1 tb rfl (seK [0,2,8,9,10] U5 rfl ?_)
   refine nx (ln 1 fun hl3=>?_)
   refine YA tb hJ [0,2,3,1002] [_,.int (k+1:Nat),_] [1] U4 rfl ⟨Yf,trivial⟩ ?_
   exact YK (k+1,v2,out++([(ge t k)])) [1,2,3,0] ⟨oz,by rw[Zcr oz,←f1_2];simp_all[ZhF],by simp;omega⟩
  ·
   try simp at hb2
   refine Za (nx (YA tb hJ [0,1,3,1002] [_,.int (k+1:Nat),_] [1] U4 rfl ⟨Yf,trivial⟩ ?_))
   exact YK (k+1,v,out) [0,1,3,2] ⟨oz,by rw[Zcr oz,←f1_2];simp[ZhF];grind,oz⟩
 ·
  try simp at hb1
  refine Zp (nx (qso tb hJ [1001] U2 [_] ?_))
  exact tw (fun h=>ZF hS h (m:=0) (s:=4) rfl) (tRo 0 (hE:=congrArg (fun z=>AV.rd (Zi z)) (show out=(Qb t vs)from by rw[f1_2,Zz oz])))
theorem Zov (pa pb:BA)  :Fn prog J 208 [.str pa,.str pb] (.agg (prC (Qk ⟨pa,pb⟩))):=by
 refine fE Tryz.func208 fun S w0 hS hJ0=>?_
 refine tw Z6 (tsq ?_)
 refine Z9 Xo hJ rfl rfl rfl (lb rfl) fun b1=>?_
 refine seK [0,1,2] U3 rfl (nx (Zd (qso tb hJ [0,1,2,1002] U3 U4 ?_)))
 refine cj 3 (fun hb1=>?_) fun hb1=>?_
 ·
  try simp at hb1
  refine tsq (snK 2 tb rfl (sq (.agg (prC (⟨pb,pa⟩:Pr))) rfl rfl (lb rfl) (fun a _ h=>XP (us:=[a.eval (.tmp 8),a.eval (.tmp 9)]) Zb3 rfl yz (ZJ (h.get 1 rfl) (ZJ (h.get 0 rfl) Yp)) rfl h.x) ?_))
  refine ZD (b:=b1) (off:=0) (es:=U2) (news:=U2) hJ hJ0 YF rfl rfl rfl (lb rfl) rfl (fun a w h=>⟨(h.get 3 rfl),(h.get 0 rfl)⟩) ?_
  exact seK [3] [_] rfl (nx (ZB (fun a w h=>ZfK (m:=0) rfl YI h rfl rfl (show(_:List CD)=[lS ((Qk ⟨pa,pb⟩).a),lS ((Qk ⟨pa,pb⟩).b)]from by(simp[Qk,hb1])<;>rfl))))
 ·
  try simp at hb1
  refine Za (nx (tsq (snK 2 tb rfl (sq (.agg (prC (⟨pa,pb⟩:Pr))) rfl rfl (lb rfl) (fun a _ h=>XP (us:=[a.eval (.tmp 11),a.eval (.tmp 12)]) Zb3 rfl yz (ZJ (h.get 1 rfl) (ZJ (h.get 0 rfl) Yp)) rfl h.x) ?_))))
  refine ZD (b:=b1) (off:=0) (es:=U2) (news:=U2) hJ hJ0 YF rfl rfl rfl (lb rfl) rfl (fun a w h=>⟨(h.get 3 rfl),(h.get 0 rfl)⟩) ?_
  exact seK [3] [_] rfl (nx (ZB (fun a w h=>ZfK (m:=0) rfl YI h rfl rfl (show(_:List CD)=[lS ((Qk ⟨pa,pb⟩).a),lS ((Qk ⟨pa,pb⟩).b)]from by(simp[Qk,hb1])<;>rfl))))
theorem ZlI (l:List Bd) (ap:List Pr) (us:List BA) (hap:ap.length≤100000) (hl:∀ b∈l,b.text.length≤2000):Fn prog J 165 [.rd (ZdH l),.rd (Xa ap),.rd (Zi us)] (.rd (Xa (ZbD l ap us))):=by
 refine fE Tryz.func165 fun S w0 hS hJ0=>?_
 refine tw Z6 (ln 0 fun hl1=>?_)
 refine ln 1 fun hl2=>?_
 refine ln 2 fun hl3=>?_
 refine qso tb hJ [0,1,2] [_] U3 ?_
 refine tsq (XA Zo hJ rfl rfl rfl (lb rfl) fun v1=>?_)
 refine snK 1 tb rfl (seK [0,2,3,4] U4 rfl ?_)
 refine nx (Zd (qso tb hJ [0,1,2,3,1000] [_] U5 ?_))
 refine Zc (lpo (ι:=Nat×Value×(List Pr)) (fun(k,_,out)=>(k≤ap.length)∧(out=(ap.take k).flatMap (rqA l us))∧(out.length≤4000000*k)) (fun(_,v,out)=>[OB.row v 173 2 (out.map prC)]) (fun(k,v,_)=>[(8,.int (k:Nat)),(7,.lit v)]) (fun(k,_,_)=>ap.length-k) [1,2,3,4,0] U3 (0,v1,([]:List Pr)) ⟨nzl,rfl,by simp⟩ ?_)
 rintro⟨k,v,out⟩ ⟨f1_1,f1_2,f1_3⟩
 refine Zd (ZE tb hJ (r5 [1003]) [_,_,.int (ap.length:Nat),_] [2] U6 rfl ⟨ZX ZH,trivial⟩ ?_)
 refine cj 5 (fun hb1=>?_) fun hb1=>?_
 ·
  try simp at hb1
  have ea:=Zj3 (us:=us) (s:=(ge ap k).a) hl
  have eb:=Zj3 (us:=us) (s:=(ge ap k).b) hl
  refine Za (nx (Zd (Zc (Zd (YA tb hJ (r5 [1006,1008,1009]) (V3 [.ptr (prC (ge ap k)),_,_,.rd (Zi (Yt (ZW l) ((ge ap k).a))),_,.rd (Zi (Qb (Yt (ZW l) ((ge ap k).a)) us)),_]) [3,6,8] U8 rfl ⟨iIx Zo,iFo hS hJ (Ze3 hJ l ((ge ap k).a)) ZcE,iFo hS hJ (ZsD hJ (Yt (ZW l) ((ge ap k).a)) us (Zb1 (m:=2000) oz hl _)) Zky,trivial⟩ ?_)))))
  refine kw (sa 7 rfl (show(.rd (Zi (Qb (Yt (ZW l) ((ge ap k).a)) us)):AV)= .rd (Zi (QC l us (ge ap k).a))from by rw[Znb])) (nx (ln 5 fun hl4=>?_))
  refine ln 6 fun hl5=>?_
  refine ln 7 fun hl6=>?_
  refine Zd (YA tb hJ (r5 [7,1006,1008,1009]) (V3 [.ptr (prC (ge ap k)),_,_,.rd (Zi (Yt (ZW l) ((ge ap k).b))),_,.rd (Zi (Qb (Yt (ZW l) ((ge ap k).b)) us)),_]) [3,6,8] U9 rfl ⟨iIx Zo,iFo hS hJ (Ze3 hJ l ((ge ap k).b)) ZcE,iFo hS hJ (ZsD hJ (Yt (ZW l) ((ge ap k).b)) us (Zb1 (m:=2000) oz hl _)) Zky,trivial⟩ ?_)
  refine kw (sa 8 rfl (show(.rd (Zi (Qb (Yt (ZW l) ((ge ap k).b)) us)):AV)= .rd (Zi (QC l us (ge ap k).b))from by rw[Znb])) (nx (ln 6 fun hl7=>?_))
  refine ln 7 fun hl8=>?_
  refine ln 8 fun hl9=>?_
  refine qso tb hJ (r6 [8,1000]) [_] U8 ?_
  refine Zc (lpo (ι:=Nat×Value×(List Pr)) (fun(j,_,out2)=>(j≤(QC l us (ge ap k).a).length)∧(out2=(ap.take k).flatMap (rqA l us)++((QC l us (ge ap k).a).take j).flatMap (rqB l us (ge ap k)))∧(out2.length≤4000000*k+2000*j)) (fun(_,v2,out2)=>[OB.row v2 173 2 (out2.map prC)]) (fun(j,v2,_)=>[(11,.int (j:Nat)),(7,.lit v2)]) (fun(j,_,_)=>(QC l us (ge ap k).a).length-j) [0,1,2,3,5,6,7,4] U6 (0,v,out) ⟨nzl,by simp only[List.take_zero,List.flatMap_nil,List.append_nil];exact f1_2,oz⟩ ?_)
  rintro⟨j,v2,out2⟩ ⟨f2_1,f2_2,f2_3⟩
  refine Zd (ZE tb hJ [0,1,2,3,4,5,6,7,1003] [_,_,.int ((QC l us (ge ap k).a).length:Nat),_] [2] U9 rfl ⟨ZX Zs,trivial⟩ ?_)
  refine cj 8 (fun hb2=>?_) fun hb2=>?_
  ·
   try simp at hb2
   refine Za (nx (Zd (Zc (qso tb hJ [0,1,2,3,4,5,6,7,1000] [_] U9 ?_))))
   refine Zc (lpo (ι:=Nat×Value×(List Pr)) (fun(i,_,out3)=>(i≤(QC l us (ge ap k).b).length)∧(out3=(ap.take k).flatMap (rqA l us)++((QC l us (ge ap k).a).take j).flatMap (rqB l us (ge ap k))++((QC l us (ge ap k).b).take i).map (fun y=>Qk ⟨ge (QC l us (ge ap k).a) j,y⟩))∧(out3.length≤4000000*k+2000*j+i)) (fun(_,v3,out3)=>[OB.row v3 173 2 (out3.map prC)]) (fun(i,v3,_)=>[(12,.int (i:Nat)),(7,.lit v3)]) (fun(i,_,_)=>(QC l us (ge ap k).b).length-i) [0,1,2,3,4,5,6,8,7] U7 (0,v2,out2) ⟨nzl,by simp only[List.take_zero,List.map_nil,List.append_nil];exact f2_2,oz⟩ ?_)
   rintro⟨i,v3,out3⟩ ⟨f3_1,f3_2,f3_3⟩
   refine Zd (ZE tb hJ [0,1,2,3,4,5,6,7,8,1003] [_,_,.int ((QC l us (ge ap k).b).length:Nat),_] [2] U10 rfl ⟨ZX Zs,trivial⟩ ?_)
   refine cj 9 (fun hb3=>?_) fun hb3=>?_
   ·
    try simp at hb3
    refine Za (nx (Zd (Zc (fun a w h=>QK [] (γ:=Value) (fun ix'=>([.lit v3,.rd (Zi (QC l us (ge ap k).a)),.int (j:Nat),.ptr [lS (ge (QC l us (ge ap k).a) j)],.str (ge (QC l us (ge ap k).a) j),.rd (Zi (QC l us (ge ap k).b)),.int (i:Nat),.ptr [lS (ge (QC l us (ge ap k).b) i)],.str (ge (QC l us (ge ap k).b) i),.agg (prC (Qk ⟨(ge (QC l us (ge ap k).a) j),(ge (QC l us (ge ap k).b) i)⟩)),.rd (Xa ([(Qk ⟨(ge (QC l us (ge ap k).a) j),(ge (QC l us (ge ap k).b) i)⟩)])),.any,.any]:List AV).getD ix' .any) (fun _=>true) [(0,fun _=>.rd (ZdH l)),(1,fun _=>.rd (Xa ap)),(2,fun _=>.rd (Zi us)),(8,fun _=>.int (k:Nat)),(9,fun _=>.rd (Zi (QC l us (ge ap k).a))),(10,fun _=>.rd (Zi (QC l us (ge ap k).b))),(11,fun _=>.int (j:Nat)),(12,fun _=>.int (i:Nat)),(7,fun g=>.lit g)] (fun j' g=>match j' with | 0=>[OB.row v3 173 2 (out3.map prC)] | _=>[OB.row g 173 2 ((out3++([(Qk ⟨(ge (QC l us (ge ap k).a) j),(ge (QC l us (ge ap k).b) i)⟩)])).map prC)]) (fun k' g=>match k' with | 0=>g | 1=>g | _=>undef) [11,12] 2 (.slice none 0 0) (fun _=>rfl) h hJ YZ rfl rfl rfl rfl rfl rfl hsb ⟨?_,?_,?_,?_,?_,?_,?_,?_,?_,?_,?_,?_,?_,trivial⟩ ⟨?e13_1_0,?e13_1_1,trivial⟩ ⟨.old 0 0 _,.old 1 1 _,.old 2 2 _,.old 3 8 _,.old 4 9 _,.old 5 10 _,.old 6 11 _,.old 7 12 _,.eff 1 12 7 (fun(g:Value)=>g) rfl rfl (fun _=>rfl) (fun _ _ hx=>Zax (hx.2.1 _ (mo 0 rfl))),trivial⟩ ?n13_1))))
    exact oX rfl fun hx hl=>Z7 rfl (hl.env 8 7 _ rfl rfl) hx
    exact oX rfl fun hx hl=>Z7 rfl (hl.env 4 9 _ rfl rfl) hx
    exact oX rfl fun hx hl=>Z7 rfl (hl.env 6 11 _ rfl rfl) hx
    exact fun _ O' _=>⟨rfl,fun a _ _ hx hl _=>ZK (i:=(j:Int)) Zf rfl (hl.D 1 51 rfl rfl) (hl.D 2 52 rfl rfl) nnn (ZR (xs:=(QC l us (ge ap k).a)) (k:=j) sfz) rfl hx⟩
    exact oX rfl fun hx hl=>ZN QN rfl (hl.D 3 53 rfl rfl) hx
    exact oX rfl fun hx hl=>Z7 rfl (hl.env 5 10 _ rfl rfl) hx
    exact oX rfl fun hx hl=>Z7 rfl (hl.env 7 12 _ rfl rfl) hx
    exact oX rfl fun hx hl=>ZK (i:=(i:Int)) Zf rfl (hl.D 5 55 rfl rfl) (hl.D 6 56 rfl rfl) nnn (ZR (xs:=(QC l us (ge ap k).b)) (k:=i) sfz) rfl hx
    exact oX rfl fun hx hl=>ZN QN rfl (hl.D 7 57 rfl rfl) hx
    exact fun _ O' _=>⟨rfl,fun a _ hk hx hl _=>ZcZ (Zov hJ (ge (QC l us (ge ap k).a) j) (ge (QC l us (ge ap k).b) i)) Zkx rfl (Zy hS _ hk hx) (hx.1) (Zb (hl.D 4 54 rfl rfl) (Zb (hl.D 8 58 rfl rfl) Zk)) (jo hJ hx)⟩
    exact oY rfl fun hk hx hl=>QL Zo Zf5 dz rfl rfl (hl.D 9 59 rfl rfl) (Zy hS _ hk hx _ nlr) (jo hJ hx)
    exact Zr rfl
    exact Zr rfl
    case e13_1_0=>exact⟨_,rfl,rfl,rfl,rfl,fun _ a w hk hx hl _=>ZC (Zac (f:=prC) out3 ([(Qk ⟨(ge (QC l us (ge ap k).a) j),(ge (QC l us (ge ap k).b) i)⟩)]) (fun _=>rfl) ZbC hJ hJ0 rfl hk hx (hl.D 0 50 rfl rfl).lit (hl.D 10 60 rfl rfl) (by simp;omega) (by simp;omega)) fun v w' hp=>⟨v,rfl,fun k' hk'=>absurd hk' (Nat.not_lt_zero _),fun _=>rfl,hp⟩⟩
    case e13_1_1=>exact⟨_,rfl,rfl,rfl,rfl,fun g _ w hk hx _ hs=>ZC (ZaH (.inl rfl) (hs 0 11 _ 61 oz rfl rfl rfl) hk hx) fun v w' hp=>⟨g,rfl,fun _ _=>rfl,fun _=>hp.1,hp.2⟩⟩
    clear a w h
    intro v2
    dsimp only[List.map]
    refine nx (ln 4 fun hl10=>?_)
    refine ln 5 fun hl11=>?_
    refine YA tb hJ [0,1,2,3,4,5,6,8,1002] [_,.int (i+1:Nat),_] [1] U9 rfl ⟨Yf,trivial⟩ ?_
    exact YK (i+1,v2,out3++([(Qk ⟨(ge (QC l us (ge ap k).a) j),(ge (QC l us (ge ap k).b) i)⟩)])) [0,1,2,3,4,5,6,8,7] ⟨oz,by rw[ZaE oz,←List.append_assoc,←f3_2],by simp;omega⟩
   ·
    try simp at hb3
    refine Zp (nx (YA tb hJ (r6 [8,1002]) [_,.int (j+1:Nat),_] [1] U8 rfl ⟨Yf,trivial⟩ ?_))
    exact YK (j+1,v3,out3) (r6 [7,6]) ⟨oz,by rw[ZeJ oz,←List.append_assoc,←f2_2,f3_2,Zz (xs:=(QC l us (ge ap k).b)) oz,←f2_2];rfl,oz⟩
  ·
   try simp at hb2
   refine Zp (nx (YA tb hJ [0,1,2,7,1002] [_,.int (k+1:Nat),_] [1] U5 rfl ⟨Yf,trivial⟩ ?_))
   exact YK (k+1,v2,out2) [0,1,2,4,3] ⟨oz,by rw[ZeJ oz,←f1_2,f2_2,Zz (xs:=(QC l us (ge ap k).a)) oz,←f1_2];rfl,oz⟩
 ·
  try simp at hb1
  refine Zp (nx (qso tb hJ [1001] U2 [_] ?_))
  exact tw (fun h=>ZF hS h (m:=0) (s:=6) rfl) (tRo 0 (hE:=congrArg (fun z=>AV.rd (Xa z)) (show out=(ZbD l ap us)from by rw[f1_2,Zz oz,ZmD])))
theorem Zow (wd:List Pr) (x:Pr)  :Fn prog J 166 [.rd (Xa wd),.agg (prC x)] (.bool (decide (x∈wd.map Qk))):=by
 refine fE Tryz.func166 fun S w0 hS hJ0=>?_
 refine tw Z6 (ln 0 fun hl1=>?_)
 refine ZE tb hJ [0,1000] [.ptr (prC x),_] [0] U2 rfl ⟨iBo hS hJ,trivial⟩ ?_
 refine Zd (qso tb hJ [0,1,1000] [_] U3 ?_)
 refine Zc (lpo (ι:=Nat) (fun k=>(k≤wd.length)∧(∀ j,j<k→¬ Qk (ge wd j)=x)) (fun _=>[]) (fun k=>[(5,.int (k:Nat))]) (fun k=>wd.length-k) [0,1,2] U2 0 ⟨nzl,fun j hj=>by omega⟩ ?_)
 rintro k ⟨f1_1,f1_2⟩
 refine Zd (ZE tb hJ [0,1,2,1003] [_,_,.int (wd.length:Nat),_] [2] U4 rfl ⟨ZX ZH,trivial⟩ ?_)
 refine cj 3 (fun hb1=>?_) fun hb1=>?_
 ·
  try simp at hb1
  refine Za (nx (Zd (Zc (ZE tb hJ [0,1,2,1012] [_,_,.ptr (prC (ge wd k)),_,_,_,_,.ptr (prC (ge wd k)),_,_,.agg (prC (Qk ⟨((ge wd k).a),((ge wd k).b)⟩)),_,.bool (decide ((Qk ⟨((ge wd k).a),((ge wd k).b)⟩).a=x.a)&&decide ((Qk ⟨((ge wd k).a),((ge wd k).b)⟩).b=x.b))] [2,7,10,12] U4 rfl ⟨iIx Zo,iIx Zo,iFo hS hJ (Zov hJ ((ge wd k).a) ((ge wd k).b)) Zkx,fun _ _ _ hx hl _=>ZmH ZfX rfl (hl.D 10 22 rfl rfl) (hl.D 11 23 rfl rfl) hx,trivial⟩ ?_))))
  refine cj 3 (fun hb2=>?_) fun hb2=>?_
  ·
   try simp at hb2
   refine qso tb hJ [1000] [_] [_] ?_
   exact tRo 0 (hE:=eB (by rw[decide_eq_true (Ztg hb1 (prEq_iff.1 (by simpa [Zfe]using hb2)))]))
  ·
   try simp at hb2
   refine Za (nx (YA tb hJ [0,1,1002] [_,.int (k+1:Nat),_] [1] U3 rfl ⟨Yf,trivial⟩ ?_))
   exact YK (k+1) [0,1,2] ⟨oz,ZG f1_2 (fun e=>by simp[e]at hb2)⟩
 ·
  try simp at hb1
  refine Zp (nx (qso tb hJ [1000] [_] [_] ?_))
  exact tRo 0 (hE:=eB (by rw[decide_eq_false (ZpG fun j hj=>f1_2 j oz)]))
theorem ZoC (l:List Bd) (ap:List Pr) (us:List BA) (wd:List Pr) (hap:ap.length≤100000) (hl:∀ b∈l,b.text.length≤2000):Fn prog J 114 [.rd (ZdH l),.rd (Xa ap),.rd (Zi us),.rd (Xa wd)] (.tup [.agg (prC (Zd2 l ap us wd)),.bool (Zfr l ap us wd)]):=by
 refine fE Tryz.func114 fun S w0 hS hJ0=>?_
 refine tw Z6 (ln 0 fun hl1=>?_)
 refine ln 1 fun hl2=>?_
 refine ln 2 fun hl3=>?_
 refine ln 3 fun hl4=>?_
 refine tsq (Z9 Xo hJ rfl rfl rfl (lb rfl) fun b1=>?_)
 refine snK 1 tb rfl (seK [1,2,3,4,5] U5 rfl ?_)
 refine nx (ZE tb hJ [0,4,1003,1004] (V3 [.rd (Xa (ZbD l ap us)),_]) [3] U4 rfl ⟨iFo hS hJ (ZlI hJ l ap us sfz sfz) Zre,trivial⟩ ?_)
 refine ln 2 fun hl5=>?_
 refine Zd (qso tb hJ [0,1,3,1000] [_] U4 ?_)
 refine Zc (lpo (ι:=Nat) (fun k=>(k≤(ZbD l ap us).length)∧(∀ j,j<k→Ze6 wd (ge (ZbD l ap us) j)=false)) (fun _=>[OB.var b1 [lS (⟨#[]⟩:BA),lS (⟨#[]⟩:BA)]]) (fun k=>[(11,.int (k:Nat))]) (fun k=>(ZbD l ap us).length-k) [0,1,2,3] U3 0 ⟨nzl,fun j hj=>by omega⟩ ?_)
 rintro k ⟨f1_1,f1_2⟩
 refine Zd (ZE tb hJ [0,1,2,3,1003] [_,_,.int ((ZbD l ap us).length:Nat),_] [2] U5 rfl ⟨ZX ZH,trivial⟩ ?_)
 refine cj 4 (fun hb1=>?_) fun hb1=>?_
 ·
  try simp at hb1
  refine Za (nx (Zd (Zc (ZE tb hJ [0,1,2,3,1019] [_,_,.ptr (prC (ge (ZbD l ap us) k)),_,_,_,_,.ptr (prC (ge (ZbD l ap us) k)),_,_,_,_,_,_,_,.ptr (prC (ge (ZbD l ap us) k)),_,.bool (decide ((ge (ZbD l ap us) k)∈wd.map Qk)),_,_] [2,7,15,17] U5 rfl ⟨iIx Zo,iIx Zo,gIx Zo (hk:=fun(hc':((decide (((ge (ZbD l ap us) k).a)=((ge (ZbD l ap us) k).b)))==false)=true)=>by(try simp at hc');first | omega | (simp;omega) | grind[Zj]),iFo hS hJ (Zow hJ wd (ge (ZbD l ap us) k)) Zrd,trivial⟩ ?_))))
  refine cj 4 (fun hb2=>?_) fun hb2=>?_
  ·
   have e3:Zjk l ap us wd=some (ge (ZbD l ap us) k):=brk_at hb1 f1_2 (by rw[←hb2,Ze6,Bool.or_comm])
   refine tsq (snK 2 tb rfl (sy (.ptr (prC (ge (ZbD l ap us) k))) (fun h=>ZK (i:=(k:Int)) Zo rfl (h.get 1 rfl) (h.get 0 rfl) nnn (ZR (xs:=(ZbD l ap us)) (k:=k) sfz) rfl h.x) ?_))
   refine snK 1 tb rfl (ZD (b:=b1) (off:=0) (es:=U2) (news:=U2) hJ hJ0 YF rfl rfl rfl (lb rfl) rfl (fun a w h=>⟨(h.get 4 rfl),(h.get 0 rfl)⟩) ?_)
   refine snK 1 tb rfl (seK [0,5] U2 rfl ?_)
   exact nx (ZB (fun a w h=>QP (m:=1) (q:=0) rfl YI h rfl rfl (show(_:List CD)=[lS ((Zd2 l ap us wd).a),lS ((Zd2 l ap us wd).b)]from by(simp[Zd2, *])<;>rfl) rfl (eB (by simp[Zfr, *]))))
  ·
   have e4:Ze6 wd (ge (ZbD l ap us) k)=false:=by rw[←hb2,Ze6,Bool.or_comm]
   refine Za (nx (YA tb hJ [0,1,2,1002] [_,.int (k+1:Nat),_] [1] U4 rfl ⟨Yf,trivial⟩ ?_))
   exact YK (k+1) [0,1,2,3] ⟨oz,ZG f1_2 e4⟩
 ·
  try simp at hb1
  have e5:Zjk l ap us wd=none:=ZuK fun j hj=>f1_2 j oz
  refine Zp (nx (tsq (sy (.agg (prC (⟨⟨#[]⟩,⟨#[]⟩⟩:Pr))) (fun h=>XL (ps:=[]) (us:=[.string ⟨#[]⟩,.string ⟨#[]⟩]) Zf2 rfl yz ZlV rfl (Q0 (.lit _ nzl) (Q0 (.lit _ nzl) Yp)) h.x) ?_)))
  refine ZD (b:=b1) (off:=0) (es:=U2) (news:=U2) hJ hJ0 YF rfl rfl rfl (lb rfl) rfl (fun a w h=>⟨(h.get 1 rfl),(h.get 0 rfl)⟩) ?_
  refine snK 1 tb rfl (seK [0,2] U2 rfl ?_)
  exact nx (ZB (fun a w h=>QP (m:=1) (q:=0) rfl YI h rfl rfl (show(_:List CD)=[lS ((Zd2 l ap us wd).a),lS ((Zd2 l ap us wd).b)]from by(simp[Zd2, *])<;>rfl) rfl (eB (by simp[Zfr, *]))))
end
end Go.Proofs.YtaigaoflehfdcaaGreatDoor
namespace Go.Proofs.YtaigaoflehfdcaaGreatDoor
open Go.RowKit
section
variable {n:Rn} {N:Nat} {P:Program} {J X:WP} {S S' S'':Nat→Prop} {O:List OB} {w0:World} {env:List (Nat×AV)} {Q:Exit→Act→WP}
variable {o:Oper} {a:Act} {w:World} {t e u:TypeId} {x y:Operand}
theorem ZkN {c d:Int} {v:Value} (h:Rel S w (.agg [.lit (.int .i64 c),.lit (.int .i64 d)]) v):v= .agg #[.int .i64 c,.int .i64 d]:=by
 simp only[Rel]at h
 obtain⟨us,rfl,hr⟩:=h
 match us,hr with
 | [p,q],hr=>
  obtain rfl:=hr.1.of_lit
  obtain rfl:=hr.2.1.of_lit
  rfl
def EqVd (P:Program) (t:TypeId):Prop:=∀(a b c d:Int) (w:World) (x y:Operand),(eqGuard .eql t x y (.agg #[.int .i64 a,.int .i64 b]) (.agg #[.int .i64 c,.int .i64 d])).run P w= .ok () w∧(eqGuard .neq t x y (.agg #[.int .i64 a,.int .i64 b]) (.agg #[.int .i64 c,.int .i64 d])).run P w= .ok () w∧
 (Op.equal t (.agg #[.int .i64 a,.int .i64 b]) (.agg #[.int .i64 c,.int .i64 d])).run P w= .ok (decide (a=c)&&decide (b=d)) w
theorem r_eqlV {c d c' d':Int} (ht:EqVd P t) (hop:o.op= .binOp .eql t x y u) (h1:Rel S w (.agg [.lit (.int .i64 c),.lit (.int .i64 d)]) (a.eval x)) (h2:Rel S w (.agg [.lit (.int .i64 c'),.lit (.int .i64 d')]) (a.eval y)) (hx:X w):
 Yr n P o a w (YQ S X (.bool (decide (c=c')&&decide (d=d'))) w):=by
 obtain⟨g1,_,g3⟩:=ht c d c' d' w x y
 refine ZA (v:=.bool (decide (c=c')&&decide (d=d'))) ?_ (Rel.of_lit _) hx
 rw[execOp,hop]
 simp only[ZkN h1,ZkN h2,Sem.run_bind,g1,Result.andThen_ok,binOp,g3]
 rfl
end
set_option maxHeartbeats 8000000
set_option maxRecDepth 100000
section
variable {J:WP} (hJ:Stab J)
include hJ
theorem c_HypR (f:Fr) (s:BA)  :Fn Tryz.prog J 48 [.agg (frC f),.str s] (.tup [.agg (hyC ((X0 f s).getD default)),.bool ((X0 f s).isSome)]):=by
 refine fE Tryz.func48 fun S w0 hS hJ0=>?_
 refine tw Z6 (tsq ?_)
 refine sy (.ptr (frC f)) (fun h=>Zfk rfl (h.get 0 rfl) (Zy hS _ h.keep h.x _ nlr) (jo hJ h.x)) ?_
 refine Z9 YM hJ rfl rfl rfl (lb rfl) fun b1=>?_
 refine snK 1 tb rfl (seK [1,2,4] U3 rfl ?_)
 refine nx (Zd (qso tb hJ [0,1,2,1000] [_] U4 ?_))
 refine Zc (lpo (ι:=Nat) (fun k=>(k≤f.hyps.length)∧(∀ j,j<k→¬ (ge f.hyps j).label=s)) (fun _=>[OB.var b1 [lS (⟨#[]⟩:BA),lB false,Zi ([]:List BA)]]) (fun k=>[(6,.int (k:Nat))]) (fun k=>f.hyps.length-k) [0,1,2,3] U3 0 ⟨nzl,fun j hj=>by omega⟩ ?_)
 rintro k ⟨f1_1,f1_2⟩
 refine Zd (ZE tb hJ [0,1,2,3,1002,1004] (V3 [.int (f.hyps.length:Nat),_]) [3] U6 rfl ⟨ZX Zx,trivial⟩ ?_)
 refine ln 4 fun hl1=>?_
 refine cj 5 (fun hb1=>?_) fun hb1=>?_
 ·
  try simp at hb1
  refine Za (nx (Zd (Zc (ZE tb hJ [0,1,2,3,1007] (V3 [.ptr (hyC (ge f.hyps k)),_,_,_,_]) [3] U5 rfl ⟨iIx Zq,trivial⟩ ?_))))
  refine cj 4 (fun hb2=>?_) fun hb2=>?_
  ·
   try simp at hb2
   have e3:X0 f s=some (ge f.hyps k):=ZeB (k:=0) oz (fun i hi=>by omega) hb1 f1_2 hb2
   refine tsq (snK 3 tb rfl (sy (.ptr (hyC (ge f.hyps k))) (fun h=>ZK (i:=(k:Int)) Zq rfl (h.get 1 rfl) (h.get 0 rfl) nnn (ZR (xs:=f.hyps) (k:=k) sfz) rfl h.x) ?_))
   refine snK 1 tb rfl (ZD (b:=b1) (off:=0) (es:=U3) (news:=U3) hJ hJ0 YO rfl rfl rfl (lb rfl) rfl (fun a w h=>⟨(h.get 5 rfl),(h.get 0 rfl)⟩) ?_)
   refine snK 1 tb rfl (seK [0,6] U2 rfl ?_)
   exact nx (ZB (fun a w h=>QP (m:=1) (q:=0) rfl Qz h rfl rfl (show(_:List CD)=[lS (((X0 f s).getD default).label),lB (((X0 f s).getD default).floating),Zi (((X0 f s).getD default).text)]from by(rw[e3];rfl)<;>rfl) rfl (eB (by rw[e3];rfl))))
  ·
   try simp at hb2
   refine Za (nx (YA tb hJ [0,1,2,1002] [_,.int (k+1:Nat),_] [1] U4 rfl ⟨Yf,trivial⟩ ?_))
   exact YK (k+1) [0,1,2,3] ⟨oz,ZG f1_2 hb2⟩
 ·
  try simp at hb1
  have h0_:∀ i,i<1→∀ h∈ZcR f.hyps f.dummies i,¬ h.label=s:=fun i hi h hh=>by obtain rfl:i=0:=oz;obtain⟨j,hj,rfl⟩:=Y5 (show h∈f.hyps from hh);exact f1_2 j oz
  refine Zp (nx (Zd (qso tb hJ [0,1,2,1000] [_] U4 ?_)))
  refine Zc (lpo (ι:=Nat) (fun q=>(q≤f.dummies.length)∧(∀ j,j<q→¬ (ge f.dummies j).label=s)) (fun _=>[OB.var b1 [lS (⟨#[]⟩:BA),lB false,Zi ([]:List BA)]]) (fun q=>[(7,.int (q:Nat))]) (fun q=>f.dummies.length-q) [0,1,2,3] U3 0 ⟨nzl,fun j hj=>by omega⟩ ?_)
  rintro q ⟨f2_1,f2_2⟩
  refine Zd (ZE tb hJ [0,1,2,3,1002,1004] (V3 [.int (f.dummies.length:Nat),_]) [3] U6 rfl ⟨ZX Zx,trivial⟩ ?_)
  refine ln 4 fun hl2=>?_
  refine cj 5 (fun hb3=>?_) fun hb3=>?_
  ·
   try simp at hb3
   refine Za (nx (Zd (Zc (ZE tb hJ [0,1,2,3,1007] (V3 [.ptr (hyC (ge f.dummies q)),_,_,_,_]) [3] U5 rfl ⟨iIx Zq,trivial⟩ ?_))))
   refine cj 4 (fun hb4=>?_) fun hb4=>?_
   ·
    try simp at hb4
    have e3:X0 f s=some (ge f.dummies q):=ZeB (k:=1) oz h0_ hb3 f2_2 hb4
    refine tsq (snK 3 tb rfl (sy (.ptr (hyC (ge f.dummies q))) (fun h=>ZK (i:=(q:Int)) Zq rfl (h.get 1 rfl) (h.get 0 rfl) nnn (ZR (xs:=f.dummies) (k:=q) sfz) rfl h.x) ?_))
    refine snK 1 tb rfl (ZD (b:=b1) (off:=0) (es:=U3) (news:=U3) hJ hJ0 YO rfl rfl rfl (lb rfl) rfl (fun a w h=>⟨(h.get 5 rfl),(h.get 0 rfl)⟩) ?_)
    refine snK 1 tb rfl (seK [0,6] U2 rfl ?_)
    exact nx (ZB (fun a w h=>QP (m:=1) (q:=0) rfl Qz h rfl rfl (show(_:List CD)=[lS (((X0 f s).getD default).label),lB (((X0 f s).getD default).floating),Zi (((X0 f s).getD default).text)]from by(rw[e3];rfl)<;>rfl) rfl (eB (by rw[e3];rfl))))
   ·
    try simp at hb4
    refine Za (nx (YA tb hJ [0,1,2,1002] [_,.int (q+1:Nat),_] [1] U4 rfl ⟨Yf,trivial⟩ ?_))
    exact YK (q+1) [0,1,2,3] ⟨oz,ZG f2_2 hb4⟩
  ·
   try simp at hb3
   have e3:X0 f s=none:=ZeC fun i hi h hh=>by(rcases Nat.lt_or_ge i 1 with h9 | h9);exact h0_ i h9 h hh;obtain rfl:i=1:=oz;obtain⟨j,hj,rfl⟩:=Y5 (show h∈f.dummies from hh);exact f2_2 j oz
   refine Zp (nx (tsq (sy (.agg (hyC (⟨⟨#[]⟩,false,[]⟩:Hy))) (fun h=>XL (ps:=[]) (us:=[.string ⟨#[]⟩,.bool false,.slice none 0 0]) Zia rfl yz ZlV rfl (Q0 (.lit _ nzl) (Q0 (.lit _ True.intro) (Q0 (.nil _ _ nzl) Yp))) h.x) ?_)))
   refine ZD (b:=b1) (off:=0) (es:=U3) (news:=U3) hJ hJ0 YO rfl rfl rfl (lb rfl) rfl (fun a w h=>⟨(h.get 1 rfl),(h.get 0 rfl)⟩) ?_
   refine snK 1 tb rfl (seK [0,2] U2 rfl ?_)
   exact nx (ZB (fun a w h=>QP (m:=1) (q:=0) rfl Qz h rfl rfl (show(_:List CD)=[lS (((X0 f s).getD default).label),lB (((X0 f s).getD default).floating),Zi (((X0 f s).getD default).text)]from by(rw[e3];rfl)<;>rfl) rfl (eB (by rw[e3];rfl))))
theorem ZrV (d:Db) (i:Nat) (s:BA) (hi:i≤d.frames.length):Fn Tryz.prog J 49 [.agg (dbC d),.int (i:Nat),.str s] (.int (Yq d i s)):=by
 refine fE Tryz.func49 fun S w0 hS hJ0=>?_
 clear hJ0
 refine hqs tb hJ [1,2,1000] [.ptr (dbC d),_] [0] U3 rfl ⟨iBs hS hJ,trivial⟩ ?_
 refine Zd (qs tb hJ [0,1,2,1000] [_] U4 ?_)
 refine Zc (lp (ι:=Nat) (fun k=>(k≤i)∧(∀ j,j<k→¬ (ge d.frames j).label=s)) (fun k=>[(7,.int (k:Nat))]) (fun k=>i-k) [0,1,2,3] U3 0 ⟨nzl,fun j hj=>by omega⟩ ?_)
 rintro k ⟨f1_1,f1_2⟩
 refine Zd (qs tb hJ [0,1,2,3,1002] U3 U5 ?_)
 refine cj 4 (fun hb1=>?_) fun hb1=>?_
 ·
  try simp at hb1
  refine Za (nx (Zd (Zc (hqs tb hJ [0,1,2,3,1001,1007] (V3 [.ptr (frC (ge d.frames k)),_,_,_,_]) [3] U6 rfl ⟨iIx Z5,trivial⟩ ?_))))
  refine ln 4 fun hl1=>?_
  refine cj 5 (fun hb2=>?_) fun hb2=>?_
  ·
   try simp at hb2
   refine qs tb hJ [1001] U2 [_] ?_
   exact tRn 0 (hE:=eI (by first | exact(Ze8 hi hb1 f1_2 hb2).symm | exact(Zdd fun j hj=>f1_2 j oz).symm))
  ·
   try simp at hb2
   refine Za (nx (hqp tb hJ [0,1,2,1002] [_,.int (k+1:Nat),_] [1] U4 rfl ⟨Yf,trivial⟩ ?_))
   exact lpE (k+1) [0,1,2,3] ⟨oz,ZG f1_2 hb2⟩
 ·
  try simp at hb1
  refine Zp (nx (qs tb hJ [1000] [_] [_] ?_))
  exact tRn 0 (hE:=eI (by first | exact(Ze8 hi hb1 f1_2 hb2).symm | exact(Zdd fun j hj=>f1_2 j oz).symm))
theorem c_UseR (d:Db) (i q:Nat) (es:List (List BA)) (hi:i<d.frames.length) (hq:q<d.frames.length) (hes:es.length=(ge d.frames q).hyps.length) (het:∀ t∈es,1≤t.length∧t.length≤2000) (hf:∀ h∈(ge d.frames q).hyps,h.floating=true→h.text.length=2) (hap:(ge d.frames q).apart.length≤100000) (hh:(ge d.frames q).hyps.length≤2000):Fn Tryz.prog J 74 [.agg (dbC d),.int (i:Nat),.int (q:Nat),.rd (YT es)] (.tup [.rd (Zi ((QZ d.vars (ge d.frames i).wide (ge d.frames q) es).1)),.int ((QZ d.vars (ge d.frames i).wide (ge d.frames q) es).2)]):=by
 refine fE Tryz.func74 fun S w0 hS hJ0=>?_
 refine tw Z6 (ln 3 fun hl1=>?_)
 refine ZE tb hJ [1,2,3,1000] [.ptr (dbC d),_,_] [0] U4 rfl ⟨iBo hS hJ,trivial⟩ ?_
 refine tsq (snK 3 tb rfl (sy (.ptr (frC (ge d.frames q))) (fun h=>ZK (i:=(q:Int)) Z5 rfl (h.get 1 rfl) (h.get 0 rfl) nnn (ZR (xs:=d.frames) (k:=q) sfz) rfl h.x) ?_))
 refine snK 1 tb rfl (Qn (cs:=frC (ge d.frames q)) Zf7 rfl rfl rfl (lb rfl) rfl rfl rfl dz (m:=0) rfl rfl (fun a w h=>Zy hS _ h.keep h.x _ nlr) (fun a w h w' hk'=>YL hJ _ _ hk' h.x) ?_)
 refine seK [0,4,6,8,9] U5 rfl (nx (ln 1 fun hl2=>?_))
 refine tsq (XA Xi hJ rfl rfl rfl (lb rfl) fun v1=>?_)
 refine snK 1 tb rfl (seK [0,2,4,5,6] U5 rfl ?_)
 refine nx (Zd (qso tb hJ (r5 [1000]) [_] U6 ?_))
 refine Zc (lpo (ι:=Nat×Value×(List Bd)) (fun(k,_,bs)=>(k≤(ge d.frames q).hyps.length)∧(bs=Y4 (ge d.frames q).hyps es 0 k)∧(∀ j,j<k→Zgs (ge d.frames q).hyps es 0 j=true)) (fun(_,wv,bs)=>[OB.row wv 169 2 (bs.map bdC)]) (fun(k,wv,_)=>[(12,.int (k:Nat)),(11,.lit wv)]) (fun(k,_,_)=>(ge d.frames q).hyps.length-k) [1,2,3,4,5,0] U4 (0,v1,([]:List Bd)) ⟨nzl,rfl,fun j hj=>by omega⟩ ?_)
 rintro⟨k,wv,bs⟩ ⟨f1_1,f1_2,f1_3⟩
 refine Zd (ZE tb hJ (r6 [1002,1004]) (V3 [.int (((ge d.frames q).hyps).length:Nat),_]) [3] U8 rfl ⟨ZX Zx,trivial⟩ ?_)
 refine ln 6 fun hl3=>?_
 refine cj 7 (fun hb1=>?_) fun hb1=>?_
 ·
  try simp at hb1
  refine Za (nx (Zd (Zc (Zd (ZE tb hJ (r6 [1006]) (V3 [.ptr (hyC (ge ((ge d.frames q).hyps) k)),_,_,_]) [3] U7 rfl ⟨iIx Zq,trivial⟩ ?_)))))
  refine cj 6 (fun hb2=>?_) fun hb2=>?_
  ·
   try simp at hb2
   refine Zp (nx (YA tb hJ [0,1,2,3,5,1002] [_,.int (k+1:Nat),_] [1] U6 rfl ⟨Yf,trivial⟩ ?_))
   exact YK (k+1,wv,bs) [0,1,2,3,5,4] ⟨oz,by rw[ZcN,←f1_2];simp[ZoT,hb2],ZG f1_3 (by simp[Zgs,hb2])⟩
  ·
   try simp at hb2
   have e3:(ge (ge d.frames q).hyps k).text.length=2:=hf _ (Zj oz) (by simpa using hb2)
   have e4:=het _ (Zj (xs:=es) (k:=k) oz)
   refine Za (nx (Zd (ZE tb hJ (r6 [1003,1022]) [_,_,.ptr [Zi (ge es k)],_,.int ((ge es k).length:Nat),_,_,_,_,.ptr [Zi (ge es k)],_,.ptr [lS (ge (ge es k) 0)],_,_,_,_,.ptr (hyC (ge ((ge d.frames q).hyps) k)),_,_,.ptr [lS (ge ((ge ((ge d.frames q).hyps) k).text) 0)],_,_,_] [2,4,9,11,16,19] U8 rfl ⟨iIx ZO,ZX Zs,gIx ZO (hk:=fun(hc':((decide ((((ge es k).length:Nat):Int)=(0:Int)))==false)=true)=>by(try simp at hc');first | omega | (simp;omega) | grind[Zj]),gIx (k:=0) Zf (hk:=fun(hc':((decide ((((ge es k).length:Nat):Int)=(0:Int)))==false)=true)=>by(try simp at hc');first | omega | (simp;omega) | grind[Zj]),gIx Zq (hk:=fun(hc':((decide ((((ge es k).length:Nat):Int)=(0:Int)))==false)=true)=>by(try simp at hc');first | omega | (simp;omega) | grind[Zj]),gIx (k:=0) Zf (hk:=fun(hc':((decide ((((ge es k).length:Nat):Int)=(0:Int)))==false)=true)=>by(try simp at hc');first | omega | (simp;omega) | grind[Zj]),trivial⟩ ?_)))
   refine ln 6 fun hl4=>?_
   refine cj 7 (fun hb3=>?_) fun hb3=>?_
   ·
    have e5:Zgs (ge d.frames q).hyps es 0 k=false:=by simp only[Zgs,Nat.zero_add,Bool.or_eq_false_iff,Bool.not_eq_false',decide_eq_false_iff_not];exact⟨by simpa using hb2,fun e=>by simp[e]at hb3;have:=e4.1;simp[hb3]at this⟩
    have eU:(QZ d.vars (ge d.frames i).wide (ge d.frames q) es)=([],24):=ux_24 oz e5
    refine qso tb hJ [1000,1001] U2 U2 ?_
    exact tw (fun h=>Ym h (m:=0) (s:=8) rfl) (ZB (fun a w h=>Yh (m:=0) (k:=1) rfl (ZM h) rfl rfl (congrArg (fun z=>AV.rd (Zi z)) (show([]:List BA)=((QZ d.vars (ge d.frames i).wide (ge d.frames q) es).1)from by first | (rw[eU];done) | (rw[eU,if_neg (by simp[e9])]))) (eI (by first | (rw[eU];done) | (rw[eU,if_neg (by simp[e9])])))))
   ·
    have e5:Zgs (ge d.frames q).hyps es 0 k=true:=by simp only[Bool.or_eq_false_iff,Bool.not_eq_false',decide_eq_true_eq]at hb3;simp[Zgs,hb3.2]
    refine Za (nx (fun a w h=>QK [] (γ:=Value) (fun ix'=>([.lit wv,.ptr [Xl ((ge d.frames q).hyps),Xa ((ge d.frames q).apart),Zi ((ge d.frames q).text),Xl ((ge d.frames q).dummies),Xa ((ge d.frames q).wide),Zi ((ge d.frames q).proof)],.rd (Xl ((ge d.frames q).hyps)),.int (k:Nat),.ptr (hyC (ge ((ge d.frames q).hyps) k)),.ptr [Zi ((ge ((ge d.frames q).hyps) k).text)],.rd (Zi ((ge ((ge d.frames q).hyps) k).text)),.ptr [lS (ge ((ge ((ge d.frames q).hyps) k).text) 1)],.str (ge ((ge ((ge d.frames q).hyps) k).text) 1),.rd (YT es),.int (k:Nat),.ptr [Zi (ge es k)],.rd (Zi (ge es k)),.rd (Zi ((ge es k).drop 1)),.agg (bdC (⟨(ge ((ge ((ge d.frames q).hyps) k).text) 1),(ge es k).drop 1⟩:Bd)),.rd (ZdH ([(⟨(ge ((ge ((ge d.frames q).hyps) k).text) 1),(ge es k).drop 1⟩:Bd)])),.any,.any]:List AV).getD ix' .any) (fun _=>true) [(10,fun _=>.ptr (frC (ge d.frames q))),(1,fun _=>.int (i:Nat)),(3,fun _=>.rd (YT es)),(4,fun _=>.ptr (dbC d)),(12,fun _=>.int (k:Nat)),(11,fun g=>.lit g)] (fun j' g=>match j' with | 0=>[OB.row wv 169 2 (bs.map bdC)] | _=>[OB.row g 169 2 ((bs++([(⟨(ge ((ge ((ge d.frames q).hyps) k).text) 1),(ge es k).drop 1⟩:Bd)])).map bdC)]) (fun k' g=>match k' with | 0=>g | 1=>g | _=>undef) [16,17] 2 (.slice none 0 0) (fun _=>rfl) h hJ YZ rfl rfl rfl rfl rfl rfl hsb ⟨?_,?_,?_,?_,?_,?_,?_,?_,?_,?_,?_,?_,?_,?_,?_,?_,?_,?_,trivial⟩ ⟨?e9_1_0,?e9_1_1,trivial⟩ ⟨.old 0 10 _,.old 1 1 _,.old 2 3 _,.old 3 4 _,.old 4 12 _,.eff 1 17 11 (fun(g:Value)=>g) rfl rfl (fun _=>rfl) (fun _ _ hx=>Zax (hx.2.1 _ (mo 0 rfl))),trivial⟩ ?n9_1))
    exact oX rfl fun hx hl=>Z7 rfl (hl.env 5 11 _ rfl rfl) hx
    exact oX rfl fun hx hl=>Z4 Zc8 rfl (hl.env 0 10 _ rfl rfl) hx
    exact oX rfl fun hx hl=>ZN ZhD rfl (hl.D 1 62 rfl rfl) hx
    exact oX rfl fun hx hl=>Z7 rfl (hl.env 4 12 _ rfl rfl) hx
    exact oX rfl fun hx hl=>ZK (i:=(k:Int)) Zq rfl (hl.D 2 63 rfl rfl) (hl.D 3 64 rfl rfl) nnn (ZR (xs:=(ge d.frames q).hyps) (k:=k) sfz) rfl hx
    exact oX rfl fun hx hl=>Z4 QF rfl (hl.D 4 65 rfl rfl) hx
    exact oX rfl fun hx hl=>ZN Qu rfl (hl.D 5 66 rfl rfl) hx
    exact oX rfl fun hx hl=>ZK (i:=((1:Nat):Int)) Zf rfl (hl.D 6 67 rfl rfl) (Rel.of_lit (.int .i64 1)) nnn (ZR (xs:=(ge ((ge d.frames q).hyps) k).text) (k:=1) sfz) rfl hx
    exact oX rfl fun hx hl=>ZN QN rfl (hl.D 7 68 rfl rfl) hx
    exact oX rfl fun hx hl=>Z7 rfl (hl.env 2 3 _ rfl rfl) hx
    exact oX rfl fun hx hl=>Z7 rfl (hl.env 4 12 _ rfl rfl) hx
    exact oX rfl fun hx hl=>ZK (i:=(k:Int)) ZO rfl (hl.D 9 70 rfl rfl) (hl.D 10 71 rfl rfl) nnn (ZR (xs:=es) (k:=k) sfz) rfl hx
    exact oX rfl fun hx hl=>ZN Qu rfl (hl.D 11 72 rfl rfl) hx
    exact oX rfl fun hx hl=>Xw (ys:=(ge es k).drop 1) (lo:=1) (hi:=(ge es k).length) (by rw[List.take_length]) Zf (fun _=>rfl) rfl (hl.D 12 73 rfl rfl) (Rel.of_lit (.int .i64 1)) rfl sfz sfz hx
    exact fun _ O' _=>⟨rfl,fun a _ _ hx hl _=>XP (us:=[a.eval (.tmp 69),a.eval (.tmp 74)]) Ze4 rfl yz (ZJ (hl.D 8 69 rfl rfl) (ZJ (hl.D 13 74 rfl rfl) Yp)) rfl hx⟩
    exact oY rfl fun hk hx hl=>QL Xi Zjt dz rfl rfl (hl.D 14 75 rfl rfl) (Zy hS _ hk hx _ nlr) (jo hJ hx)
    exact Zr rfl
    exact Zr rfl
    case e9_1_0=>exact⟨_,rfl,rfl,rfl,rfl,fun _ _ w hk hx hl _=>ZC (Zac (f:=bdC) bs ([(⟨(ge ((ge ((ge d.frames q).hyps) k).text) 1),(ge es k).drop 1⟩:Bd)]) (fun _=>rfl) Ze7 hJ hJ0 rfl hk hx (hl.D 0 61 rfl rfl).lit (hl.D 15 76 rfl rfl) (by have:=Zd3 (ge d.frames q).hyps es 0 k;rw[f1_2];simp;omega) (by have:=Zd3 (ge d.frames q).hyps es 0 k;rw[f1_2];simp;omega)) fun v w' hp=>⟨v,rfl,fun k' hk'=>absurd hk' (Nat.not_lt_zero _),fun _=>rfl,hp⟩⟩
    case e9_1_1=>exact⟨_,rfl,rfl,rfl,rfl,fun g _ w hk hx _ hs=>ZC (ZaH (.inl rfl) (hs 0 16 _ 77 oz rfl rfl rfl) hk hx) fun v w' hp=>⟨g,rfl,fun _ _=>rfl,fun _=>hp.1,hp.2⟩⟩
    clear a w h
    intro v2
    dsimp only[List.map]
    refine nx (YA tb hJ [0,1,2,3,5,1002] [_,.int (k+1:Nat),_] [1] U6 rfl ⟨Yf,trivial⟩ ?_)
    exact YK (k+1,v2,bs++([(⟨(ge ((ge ((ge d.frames q).hyps) k).text) 1),(ge es k).drop 1⟩:Bd)])) [0,1,2,3,5,4] ⟨oz,by rw[ZcN,←f1_2];simp[ZoT,hb2],ZG f1_3 e5⟩
 ·
  try simp at hb1
  have e6:∀ j,j< (ge d.frames q).hyps.length→Zgs (ge d.frames q).hyps es 0 j=true:=fun j hj=>f1_3 j oz
  refine Zp (nx (Zd (tw (fun h=>ZF hS h (m:=5) (s:=11) rfl) (tw (sa 0 rfl (congrArg (fun z'=>AV.rd (ZdH z')) (show bs=(Y4 (ge d.frames q).hyps es 0 (ge d.frames q).hyps.length)from by rw[f1_2,show k=(ge d.frames q).hyps.length by omega]))) ?_))))
  refine qso tb hJ (r5 [1000]) [_] U6 ?_
  refine ln 0 fun hl5=>?_
  refine Zc (lpo (ι:=Nat) (fun j=>(j≤(ge d.frames q).hyps.length)∧(∀ i',i'<j→Zj6 (ge d.frames q).hyps es 0 (Y4 (ge d.frames q).hyps es 0 (ge d.frames q).hyps.length) i'=true)) (fun _=>[]) (fun j=>[(13,.int (j:Nat))]) (fun j=>(ge d.frames q).hyps.length-j) (r6 []) U5 0 ⟨nzl,fun j hj=>by omega⟩ ?_)
  rintro j ⟨f2_1,f2_2⟩
  refine Zd (ZE tb hJ (r6 [1004]) (V3 [.int (((ge d.frames q).hyps).length:Nat),_]) [3] U7 rfl ⟨ZX Zx,trivial⟩ ?_)
  refine cj 6 (fun hb4=>?_) fun hb4=>?_
  ·
   try simp at hb4
   refine Za (nx (Zd (Zc (ZE tb hJ (r6 [1021]) (V3 [.ptr (hyC (ge ((ge d.frames q).hyps) j)),_,_,_,_,_,_,_,.ptr (hyC (ge ((ge d.frames q).hyps) j)),_,_,_,_,_,.ptr [Zi (ge es j)],_,.bool (ZoR ((ge ((ge d.frames q).hyps) j).text) (Y4 (ge d.frames q).hyps es 0 (ge d.frames q).hyps.length) (ge es j)),_,_]) [3,11,17,19] U7 rfl ⟨iIx Zq,gIx Zq (hk:=fun(hc':((!((ge ((ge d.frames q).hyps) j).floating))==true)=true)=>by(try simp at hc');first | omega | (simp;omega) | grind[Zj]),gIx ZO (hk:=fun(hc':((!((ge ((ge d.frames q).hyps) j).floating))==true)=true)=>by(try simp at hc');first | omega | (simp;omega) | grind[Zj]),iFo hS hJ (ZuG hJ ((ge ((ge d.frames q).hyps) j).text) (Y4 (ge d.frames q).hyps es 0 (ge d.frames q).hyps.length) (ge es j)) ZrC,trivial⟩ ?_))))
   refine cj 6 (fun hb5=>?_) fun hb5=>?_
   ·
    have e7:Zj6 (ge d.frames q).hyps es 0 (Y4 (ge d.frames q).hyps es 0 (ge d.frames q).hyps.length) j=false:=by simp only[Zj6,Nat.zero_add];simpa using hb5
    have eU:(QZ d.vars (ge d.frames i).wide (ge d.frames q) es)=([],25):=ux_25 e6 oz e7
    refine qso tb hJ [1000,1001] U2 U2 ?_
    exact tw (fun h=>Ym h (m:=0) (s:=8) rfl) (ZB (fun a w h=>Yh (m:=0) (k:=1) rfl (ZM h) rfl rfl (congrArg (fun z=>AV.rd (Zi z)) (show([]:List BA)=((QZ d.vars (ge d.frames i).wide (ge d.frames q) es).1)from by first | (rw[eU];done) | (rw[eU,if_neg (by simp[e9])]))) (eI (by first | (rw[eU];done) | (rw[eU,if_neg (by simp[e9])])))))
   ·
    refine Za (nx (YA tb hJ (r5 [1002]) [_,.int (j+1:Nat),_] [1] U6 rfl ⟨Yf,trivial⟩ ?_))
    exact YK (j+1) (r6 []) ⟨oz,ZG f2_2 (by cases h9:(ge (ge d.frames q).hyps j).floating<;>simp_all[Zj6])⟩
  ·
   try simp at hb4
   have e8:∀ j,j< (ge d.frames q).hyps.length→Zj6 (ge d.frames q).hyps es 0 (Y4 (ge d.frames q).hyps es 0 (ge d.frames q).hyps.length) j=true:=fun j hj=>f2_2 j oz
   refine Zp (nx (ZE tb hJ [0,1,2,4,1001,1005,1007,1008] (V3 [.tup [.rd (Zi (if ZaR (ZW (Y4 (ge d.frames q).hyps es 0 (ge d.frames q).hyps.length)) ((ge d.frames q).text) 2000 then Xm (ZW (Y4 (ge d.frames q).hyps es 0 (ge d.frames q).hyps.length)) ((ge d.frames q).text)else [])),.int (if ZaR (ZW (Y4 (ge d.frames q).hyps es 0 (ge d.frames q).hyps.length)) ((ge d.frames q).text) 2000 then 0 else 15)],_,_,_,_,_]) [3] U8 rfl ⟨iFo hS hJ (ZlL hJ ((ge d.frames q).text) (Y4 (ge d.frames q).hyps es 0 (ge d.frames q).hyps.length) 2000 sfz (ZcM (fun t ht=>(het t ht).2) oz)) ZrB,trivial⟩ ?_))
   refine ln 4 fun hl6=>?_
   refine ln 5 fun hl7=>?_
   refine Zd (qso tb hJ [0,1,2,3,6,7,1001] U2 U7 ?_)
   refine cj 6 (fun hb6=>?_) fun hb6=>?_
   ·
    try simp at hb6
    have e9:ZaR (ZW (Y4 (ge d.frames q).hyps es 0 (ge d.frames q).hyps.length)) (ge d.frames q).text 2000=false:=by cases h9:ZaR (ZW (Y4 (ge d.frames q).hyps es 0 (ge d.frames q).hyps.length)) (ge d.frames q).text 2000<;>simp_all
    have eU:(QZ d.vars (ge d.frames i).wide (ge d.frames q) es)=([],15):=ux_15 e6 e8 e9
    refine qso tb hJ [1001,1002] U3 U2 ?_
    exact tw (fun h=>Ym h (m:=0) (s:=8) rfl) (ZB (fun a w h=>Yh (m:=0) (k:=1) rfl (ZM h) rfl rfl (congrArg (fun z=>AV.rd (Zi z)) (show([]:List BA)=((QZ d.vars (ge d.frames i).wide (ge d.frames q) es).1)from by first | (rw[eU];done) | (rw[eU,if_neg (by simp[e9])]))) (eI (by first | (rw[eU];done) | (rw[eU,if_neg (by simp[e9])])))))
   ·
    try simp at hb6
    have e9:ZaR (ZW (Y4 (ge d.frames q).hyps es 0 (ge d.frames q).hyps.length)) (ge d.frames q).text 2000=true:=by cases h9:ZaR (ZW (Y4 (ge d.frames q).hyps es 0 (ge d.frames q).hyps.length)) (ge d.frames q).text 2000<;>simp_all
    refine tw (sa 4 rfl (show(.rd (Zi (if ZaR (ZW (Y4 (ge d.frames q).hyps es 0 (ge d.frames q).hyps.length)) ((ge d.frames q).text) 2000 then Xm (ZW (Y4 (ge d.frames q).hyps es 0 (ge d.frames q).hyps.length)) ((ge d.frames q).text)else [])):AV)= .rd (Zi (Xm (ZW (Y4 (ge d.frames q).hyps es 0 (ge d.frames q).hyps.length)) (ge d.frames q).text))from by rw[if_pos e9])) (Za (nx (ln 4 fun hl8=>?_)))
    refine Zd (Zd (fun a w h=>Xj (γ:=Nat) (fun ix'=>([.rd (ZdH (Y4 (ge d.frames q).hyps es 0 (ge d.frames q).hyps.length)),.ptr [Xa ((ge d.frames q).apart),Zi ((ge d.frames q).text),Xl ((ge d.frames q).dummies),Xa ((ge d.frames q).wide),Zi ((ge d.frames q).proof)],.rd (Xa ((ge d.frames q).apart)),.ptr [Zi d.vars,Zg1 d.frames],.rd (Zi d.vars),.ptr [Zg1 d.frames],.rd (Zg1 d.frames),.int (i:Nat),.ptr (frC (ge d.frames i)),.ptr [Xa ((ge d.frames i).wide),Zi ((ge d.frames i).proof)],.rd (Xa ((ge d.frames i).wide)),.tup [.agg (prC (Zd2 (Y4 (ge d.frames q).hyps es 0 (ge d.frames q).hyps.length) ((ge d.frames q).apart) d.vars ((ge d.frames i).wide))),.bool (Zfr (Y4 (ge d.frames q).hyps es 0 (ge d.frames q).hyps.length) ((ge d.frames q).apart) d.vars ((ge d.frames i).wide))],.tup [.agg (prC (Zd2 (Y4 (ge d.frames q).hyps es 0 (ge d.frames q).hyps.length) ((ge d.frames q).apart) d.vars ((ge d.frames i).wide))),.bool (Zfr (Y4 (ge d.frames q).hyps es 0 (ge d.frames q).hyps.length) ((ge d.frames q).apart) d.vars ((ge d.frames i).wide))],.agg (prC (Zd2 (Y4 (ge d.frames q).hyps es 0 (ge d.frames q).hyps.length) ((ge d.frames q).apart) d.vars ((ge d.frames i).wide))),.bool (Zfr (Y4 (ge d.frames q).hyps es 0 (ge d.frames q).hyps.length) ((ge d.frames q).apart) d.vars ((ge d.frames i).wide)),.any,.any,.bool (Zfr (Y4 (ge d.frames q).hyps es 0 (ge d.frames q).hyps.length) ((ge d.frames q).apart) d.vars ((ge d.frames i).wide))]:List AV).getD ix' .any) (fun _=>true) [(14,fun _=>.rd (Zi (Xm (ZW (Y4 (ge d.frames q).hyps es 0 (ge d.frames q).hyps.length)) (ge d.frames q).text))),(17,fun _=>.bool (Zfr (Y4 (ge d.frames q).hyps es 0 (ge d.frames q).hyps.length) ((ge d.frames q).apart) d.vars ((ge d.frames i).wide)))] (fun j' g=>match j' with | 0=>[] | 1=>[OB.var g [lS (⟨#[]⟩:BA),lS (⟨#[]⟩:BA)]] | _=>[OB.var g (prC (Zd2 (Y4 (ge d.frames q).hyps es 0 (ge d.frames q).hyps.length) ((ge d.frames q).apart) d.vars ((ge d.frames i).wide)))]) (fun k' g=>match k' with | 0=>(.pointer (some ⟨g,0,none⟩)) | _=>undef) [15,16] 2 0 (fun _=>rfl) h hJ YZ rfl rfl rfl rfl rfl rfl hsb ⟨?_,?_,?_,?_,?_,?_,?_,?_,?_,?_,?_,?_,?_,?_,?_,?_,?_,?_,trivial⟩ ⟨?e18_2_0,?e18_2_1,trivial⟩ ⟨.old 4 14 _,.new 17 17 _,trivial⟩ ?n18_2))
    exact oX rfl fun hx hl=>Z7 rfl (hl.env 0 11 _ rfl rfl) hx
    exact oX rfl fun hx hl=>Z4 ZfR rfl (hl.env 1 10 _ rfl rfl) hx
    exact oX rfl fun hx hl=>ZN Zj1 rfl (hl.D 1 119 rfl rfl) hx
    exact oX rfl fun hx hl=>Z4 ZfT rfl (hl.env 3 4 _ rfl rfl) hx
    exact oX rfl fun hx hl=>ZN Qu rfl (hl.D 3 121 rfl rfl) hx
    exact oX rfl fun hx hl=>Z4 QG rfl (hl.env 3 4 _ rfl rfl) hx
    exact oX rfl fun hx hl=>ZN ZfI rfl (hl.D 5 123 rfl rfl) hx
    exact oX rfl fun hx hl=>Z7 rfl (hl.env 2 1 _ rfl rfl) hx
    exact oX rfl fun hx hl=>ZK (i:=(i:Int)) Z5 rfl (hl.D 6 124 rfl rfl) (hl.D 7 125 rfl rfl) nnn (ZR (xs:=d.frames) (k:=i) sfz) rfl hx
    exact oX rfl fun hx hl=>Z4 ZfQ rfl (hl.D 8 126 rfl rfl) hx
    exact oX rfl fun hx hl=>ZN Zj1 rfl (hl.D 9 127 rfl rfl) hx
    exact oY rfl fun hk hx hl=>ZcZ (ZoC hJ (Y4 (ge d.frames q).hyps es 0 (ge d.frames q).hyps.length) ((ge d.frames q).apart) d.vars ((ge d.frames i).wide) (by exact hap) (ZcM (fun t ht=>(het t ht).2) oz)) ZrA rfl (Zy hS _ hk hx) (hx.1) (Zb (hl.D 0 118 rfl rfl) (Zb (hl.D 2 120 rfl rfl) (Zb (hl.D 4 122 rfl rfl) (Zb (hl.D 10 128 rfl rfl) Zk)))) (jo hJ hx)
    exact oX rfl fun hx hl=>Z7 rfl (hl.D 11 129 rfl rfl) hx
    exact oX rfl fun hx hl=>YD rfl (hl.D 12 117 rfl rfl) rfl hx
    exact oX rfl fun hx hl=>YD rfl (hl.D 12 117 rfl rfl) rfl hx
    exact Zr rfl
    exact Zr rfl
    exact oX rfl fun hx hl=>Xk rfl (hl.D 14 131 rfl rfl) hx
    case e18_2_0=>exact⟨_,rfl,rfl,rfl,rfl,fun g _ w hk hx _ _=>ZC (Zbh Xo hJ rfl hk hx) fun v w' ⟨g',hv,hp⟩=>⟨g',rfl,fun k' hk'=>absurd hk' (Nat.not_lt_zero _),fun _=>hv,hp⟩⟩
    case e18_2_1=>exact⟨_,rfl,rfl,rfl,rfl,fun g a w hk hx hl hs=>(by obtain⟨us2,hv2,hr3⟩:=Zaz (hl.D 13 130 rfl rfl);exact ZC (X8 (S':=S) (off:=0) (news:=U2) (es:=U2) (us:=us2) hJ hJ0 YF rfl hk hx (Zdm (hs 0 15 _ 16 oz rfl rfl rfl)) (by rw[hv2];rfl) hr3 (lb rfl) rfl) fun v w' hp=>⟨g,rfl,fun _ _=>rfl,fun e=>(by cases e),hp⟩)⟩
    clear a w h
    intro b3
    dsimp only[List.map]
    refine kw YB (nx (ln 0 fun hl9=>?_))
    refine qso tb hJ [0,1000] [_] U2 ?_
    refine cj 1 (fun hb7=>?_) fun hb7=>?_
    ·
     try simp at hb7
     have eU:(QZ d.vars (ge d.frames i).wide (ge d.frames q) es)=([],26):=ux_26 e6 e8 e9 hb7
     refine qso tb hJ [1000,1001] U2 U2 ?_
     exact tw (fun h=>Ym h (m:=0) (s:=8) rfl) (ZB (fun a w h=>Yh (m:=0) (k:=1) rfl (ZM h) rfl rfl (congrArg (fun z=>AV.rd (Zi z)) (show([]:List BA)=((QZ d.vars (ge d.frames i).wide (ge d.frames q) es).1)from by first | (rw[eU];done) | (rw[eU,if_neg (by simp[e9])]))) (eI (by first | (rw[eU];done) | (rw[eU,if_neg (by simp[e9])])))))
    ·
     try simp at hb7
     have eU:(QZ d.vars (ge d.frames i).wide (ge d.frames q) es)=(Xm (ZW (Y4 (ge d.frames q).hyps es 0 (ge d.frames q).hyps.length)) (ge d.frames q).text,0):=ux_ok e6 e8 e9 hb7
     refine Za (nx (qso tb hJ [1001,1002] U3 U2 ?_))
     exact ZB (fun a w h=>Yh (m:=0) (k:=1) rfl (ZM h) rfl rfl (congrArg (fun z=>AV.rd (Zi z)) (show(Xm (ZW (Y4 (ge d.frames q).hyps es 0 (ge d.frames q).hyps.length)) (ge d.frames q).text)=((QZ d.vars (ge d.frames i).wide (ge d.frames q) es).1)from by first | (rw[eU];done) | (rw[eU,if_neg (by simp[e9])]))) (eI (by first | (rw[eU];done) | (rw[eU,if_neg (by simp[e9])]))))
end
end Go.Proofs.YtaigaoflehfdcaaGreatDoor
namespace Go.Proofs.YtaigaoflehfdcaaGreatDoor
def szP (ss:List Stp) (k j:Nat):Int:=((ge ss k).args.take j).foldl (XD (Yc ss k)) 1
section
variable {ss:List Stp} {k j n:Nat}
theorem Zjn (out:List Int) (x a:Int):XD out x a=min 1000000000 (x+ge out a.toNat):=by
 unfold XD ge
 show(if x+out.getD a.toNat 0<1000000000 then x+out.getD a.toNat 0 else 1000000000)=min 1000000000 (x+out.getD a.toNat 0)
 split<;>omega
theorem ZjB (hj:j< (ge ss k).args.length):szP ss k (j+1)=min 1000000000 (szP ss k j+ge (Yc ss k) (ge (ge ss k).args j).toNat):=by
 rw[szP,Z1 hj,List.foldl_append,←Zjn];rfl
theorem Zdj (hk:k<ss.length):Yc ss (k+1)=Yc ss k++[szP ss k (ge ss k).args.length]:=by
 rw[Yc,szP,List.take_length,YS hk]
 simp[hk]
theorem Zha:0≤szP ss k j∧szP ss k j≤1000000000:=Zbv _ (Xv ss k) _ _ oz
theorem Zhk (h:j<k):0≤ge (Yc ss k) j∧ge (Yc ss k) j≤1000000000:=Xv ss k _ (Zj (by rw[Z0];exact h))
def szF (ss:List Stp) (k n:Nat):List Int:=Yc ss k++List.replicate (n-k) 0
theorem ZsW (ss:List Stp) (n:Nat):szF ss n n=Yc ss n:=by simp[szF]
theorem Ziq (h:k≤n):(szF ss k n).length=n:=by rw[szF,List.length_append,Z0,List.length_replicate];omega
theorem ZsV (h:j<k):ge (szF ss k n) j=ge (Yc ss k) j:=ZtK (by rw[Z0];exact h)
def szG (ss:List Stp) (k n:Nat) (x:Int):List Int:=(szF ss k n).set k x
theorem Zip (h:k≤n) {x:Int}:(szG ss k n x).length=n:=by rw[szG,List.length_set,Ziq h]
theorem szG_at (h:k<n) {x:Int}:ge (szG ss k n x) k=x:=by
 rw[YS (by rw[Zip oz];exact h)]
 simp[szG]
theorem ZsU (h:j<k) (hn:k<n) {x:Int}:ge (szG ss k n x) j=ge (Yc ss k) j:=by
 rw[←ZsV (n:=n) h,YS (by rw[Zip oz];omega),YS (by rw[Ziq oz];omega)]
 simp only[szG]
 rw[List.getElem_set_ne oz]
theorem ZsT {x y:Int}:(szG ss k n x).set k y=szG ss k n y:=by rw[szG,szG,List.set_set]
theorem Zpc (hk:k<ss.length) (hn:k<n):szG ss k n (szP ss k (ge ss k).args.length)=szF ss (k+1) n:=by
 rw[szG,szF,szF,Zdj hk,List.set_append_right _ _ (by rw[Z0];omega),Z0,Nat.sub_self,List.append_assoc]
 congr 1
 obtain⟨m,hm⟩:∃ m,n-k=m+1:=⟨n-k-1,oz⟩
 rw[hm,List.replicate_succ,List.set_cons_zero,show n-(k+1)=m by omega]
 rfl
end
theorem Zsw {ss:List Stp} {k:Nat} (h:40< (ge ss k).args.length):fsE ss k=4:=if_pos h
theorem Zsx {ss:List Stp} {k:Nat} (h:¬ 40< (ge ss k).args.length) (hb:((ge ss k).args.any (XX k))=true):fsE ss k=3:=(if_neg h).trans (if_pos hb)
theorem fs_ok {ss:List Stp} {k:Nat} (h:¬ 40< (ge ss k).args.length) (hb:((ge ss k).args.any (XX k))=false):fsE ss k=0:=(if_neg h).trans (if_neg (by simp[hb]))
theorem ZuM {ss:List Stp} {k q:Nat} (hq:q< (ge ss k).args.length) (h:XX k (ge (ge ss k).args q)=true):((ge ss k).args.any (XX k))=true:=List.any_eq_true.2 ⟨_,Zj hq,h⟩
theorem ZrZ {ss:List Stp} {k:Nat} (h:∀ q,q< (ge ss k).args.length→XX k (ge (ge ss k).args q)=false):((ge ss k).args.any (XX k))=false:=List.any_eq_false.2 fun x hx=>by
 obtain⟨q,hq,rfl⟩:=Y5 hx
 simp[h q hq]
theorem Zcq {ss:List Stp} (hok:Okay ss) {k j:Nat} (hk:k<ss.length) (hj:j< (ge ss k).args.length):0≤ge (ge ss k).args j∧ge (ge ss k).args j< (k:Int):=by
 rw[YS hk]at hj ⊢
 exact(hok.2.2 k hk).2 _ (Zj hj)
theorem Zj2 {ss:List Stp} (hok:Okay ss) {k:Nat} (hk:k<ss.length):(ge ss k).args.length≤40:=by
 rw[YS hk];exact(hok.2.2 k hk).1
def flK (ss:List Stp) (i j m:Nat):List Stp×List Int:=flats (((ge ss i).args.take j).map fun a=>treeAt ss a.toNat) m
def tzK (ss:List Stp) (i j:Nat):Nat:=tsizes (((ge ss i).args.take j).map fun a=>treeAt ss a.toNat)
section
variable {ss:List Stp} {i j m:Nat}
theorem ZdV (ss:List Stp) (i m:Nat):flK ss i 0 m=([],[]):=by simp[flK,flats]
theorem Zgx:(flK ss i j m).1.length=tzK ss i j:=flats_length _ _
theorem ZnX (hj:j≤(ge ss i).args.length):(flK ss i j m).2.length=j:=by rw[flK,QV,List.length_map,List.length_take];omega
theorem Zkk (hj:j< (ge ss i).args.length):flK ss i (j+1) m=((flK ss i j m).1++flat (treeAt ss (ge (ge ss i).args j).toNat) (m+tzK ss i j),(flK ss i j m).2++[((m+tzK ss i j+tsize (treeAt ss (ge (ge ss i).args j).toNat):Nat):Int)-1]):=by
 rw[flK,Z1 hj,List.map_append,List.map_singleton,Zc9,flats_length];rfl
theorem Zjx (hj:j< (ge ss i).args.length):tzK ss i (j+1)=tzK ss i j+tsize (treeAt ss (ge (ge ss i).args j).toNat):=by
 rw[tzK,Z1 hj,List.map_append,List.map_singleton,X3];rfl
theorem Zsa:tzK ss i j≤tzK ss i (ge ss i).args.length:=by
 have h:=X3 (((ge ss i).args.take j).map fun a=>treeAt ss a.toNat) (((ge ss i).args.drop j).map fun a=>treeAt ss a.toNat)
 rw[←List.map_append,List.take_append_drop]at h
 rw[tzK,tzK,List.take_length,h]
 omega
theorem Zmf (hok:Okay ss) (hi:i<ss.length):tsize (treeAt ss i)=tzK ss i (ge ss i).args.length+1∧flat (treeAt ss i) m=(flK ss i (ge ss i).args.length m).1++[⟨(ge ss i).label,(flK ss i (ge ss i).args.length m).2⟩]:=by
 rw[hok.treeAt hi,YS hi]
 simp only[tsize,flat,tzK,flK]
 rw[YS hi,List.take_length]
 exact⟨rfl,rfl⟩
end
def Zby (ss:List Stp) (most:Int):Int:=if most<ge (Xb ss) (ss.length-1)then 15 else 0
theorem Zgz {ss:List Stp} (hok:Okay ss) {most:Int} (h0:0≤most) (hm:most≤2000) (h:¬ most<ge (Xb ss) (ss.length-1)):((tsize (Zav ss):Nat):Int)≤most:=by
 have h2:ge (Xb ss) (ss.length-1)=_:=ZbS hok
 rw[h2]at h
 omega
theorem Zqv (ss:List Stp):(ZL ss).length=tsize (Zav ss):=flat_length _ _
theorem Zn3 {ss:List Stp} {most:Int} (h:¬ Zby ss most=0):Zby ss most=15:=by
 unfold Zby at h ⊢
 split at h
 · rw[if_pos (by assumption)]
 · exact absurd rfl h
theorem Zsz {ss:List Stp} (hok:Okay ss) (h:Zby ss 2000=0):(ZL ss).length≤2000:=by
 have h2:=Zgz hok (most:=2000) oz oz (fun h3=>by rw[Zby,if_pos h3]at h;cases h)
 rw[Zqv]
 omega
def ZdE (d:Db) (z:Int) (ss:List Stp):List BA×Int:=
 if Zaq d z ss=0 then(if Zby ss 2000=0 then((ZL ss).map Stp.label,0)else([],15))else([],Zaq d z ss)
section
variable {d:Db} {z:Int} {ss:List Stp}
theorem Zns (h:¬ Zaq d z ss=0):ZdE d z ss=([],Zaq d z ss):=if_neg h
theorem Znr (h:Zaq d z ss=0) (h2:¬ Zby ss 2000=0):ZdE d z ss=([],15):=(if_pos h).trans (if_neg h2)
theorem Zsv (h:Zaq d z ss=0) (h2:Zby ss 2000=0):ZdE d z ss=((ZL ss).map Stp.label,0):=(if_pos h).trans (if_pos h2)
theorem ZgE (h:Zaq d z ss=0):XY d z=0∧X1 ss=0:=by
 unfold Zaq at h
 split at h
 · exact⟨by assumption,h⟩
 · exact absurd h (by assumption)
theorem Zb0 {α β:Type} [Inhabited α] {f:α→β} {l:List α} {k:Nat} (h:k<l.length):(l.take (k+1)).map f=(l.take k).map f++[f (ge l k)]:=by
 rw[Z1 h,List.map_append];rfl
end
end Go.Proofs.YtaigaoflehfdcaaGreatDoor
namespace Go.Proofs.YtaigaoflehfdcaaGreatDoor
open Go.RowKit
section
variable {n:Rn} {P:Program} {X:WP} {S S' S'':Nat→Prop}
theorem r_min {o:Oper} {a:Act} {w:World} {x y:Operand} {i j:Int} {t u:TypeId} (hop:o.op= .call { callee:=.builtin .min,args:= #[x,y],argTypes:= #[t,u] }) (h1:Rel S' w (.int i) (a.eval x)) (h2:Rel S'' w (.int j) (a.eval y)) (hx:X w):Yr n P o a w (YQ S X (.int (min i j)) w):=by
 refine ZA (v:=.int .i64 (min i j)) ?_ (Rel.of_lit _) hx
 have hrun:=run_min_int2 (P:=P) w #[t,u] o.type .i64 .i64 i j
 have hm:(if j<i then j else i)=min i j:=by split<;>omega
 rw[hm]at hrun
 simp[execOp,hop,resolve,invoke,builtin,h1.lit,h2.lit,hrun,Result.andThen]
variable {S:Nat→Prop} {d:Db}
def ZoO (P:Program) (t:TypeId):Prop:=∀(x y z:Value) (i:Int),P.built t [(0,.agg #[x,y,z]),(1,.int .i64 i)]=some #[x,y,z,.int .i64 i,.slice none 0 0]
theorem ZmJ {o:Oper} {a:Act} {w:World} {x y:Operand} {t:TypeId} {i:Int} (ht:ZoO P t) (hop:o.op= .build t #[(0,x),(1,y)]) (h:Rel S w (.agg (dbC d)) (a.eval x)) (h2:Rel S w (.int i) (a.eval y)) (hx:X w):
 Yr n P o a w (YQ S X (.agg (dbC d++[.lit (.int .i64 i),.lit (.slice none 0 0)])) w):=by
 simp only[Rel]at h
 obtain⟨us,hv,hr⟩:=h
 have hi:=h2.lit
 match us,hr with
 | [u1,u2,u3],hr=>
  refine ZA (v:=.agg #[u1,u2,u3,.int .i64 i,.slice none 0 0]) ?_ (by simp only[Rel];exact⟨[u1,u2,u3,.int .i64 i,.slice none 0 0],rfl,hr.append (ds:=[.lit (.int .i64 i),.lit (Value.slice none 0 0)]) (us:=[.int .i64 i,.slice none 0 0]) ⟨.lit _ True.intro,.lit _ True.intro,trivial⟩⟩) hx
  have hrun:=run_build (P:=P) w t #[(0,a.eval x),(1,a.eval y)] #[u1,u2,u3,.int .i64 i,.slice none 0 0] (by rw[hv,hi];exact ht u1 u2 u3 _)
  rw[execOp,hop]
  simp only[List.map_toArray,List.map_cons,List.map_nil,Sem.run_bind,hrun]
  rfl
end
theorem Za9 {J:WP} {S:Nat→Prop} {N:Nat} {P:Program} {w0:World} {O:List OB} {env:List (Nat×AV)} {fn:Func} {a:Act} {w:World} {b:Nat} {cs cs':List CD} {t:TypeId} {d m q u x z k:Nat} {r1 r2 r3 r4:AV} (hr:fn.results= #[.tmp x,.cell d t,.tmp u]) (h1:XZ P t k) (h:So J S w0 N (OB.var b cs::O) env a w) (he:env[m]?=some (d,.at b 0)) (hl:cs.length=k) (hE:cs=cs') (he1:env[z]?=some (x,r1)) (hE1:r1=r2) (he2:env[q]?=some (u,r3)) (hE2:r3=r4):
 bodyPost P fn (fun e w'=>∃ v,e= .returned v∧Rel S w' (.tup [r2,.agg cs',r4]) v∧Keeps All w0 w'∧J w') .ret a w:=by
 subst hE
 subst hE1
 subst hE2
 obtain⟨h0,us,e,hb,hrd⟩:=h.x.2.1 (OB.var b cs) yz
 have hd:a.tmps.getD d undef= .pointer (some ⟨b,0,none⟩):=(h.get m he).lit
 have hrun:=YR (P:=P) b 0 w us 0 #[] fun j u hj=>by rw[Nat.zero_add];simp[World.cell?,hb,hj]
 rw[show us.length=k by rw[hrd.length,hl]]at hrun
 have hd':a.tmps[d]?.getD undef= .pointer (some ⟨b,0,none⟩):=by rw[←Array.getD_eq_getD_getElem?];exact hd
 refine⟨h.defs,.tuple #[a.tmps.getD x undef,.agg us.toArray,a.tmps.getD u undef],by simp[results,hr,hd',asAddr,Sem.run_bind,loadVar,loadCells,h1.1 w,h1.2 w,hrun],_,rfl,?_,h.keep,h.x.1⟩
 have h2:=(h.get q he2).sub (T:=S) fun _ _ hk=>hk.1
 have h3:=(h.get z he1).sub (T:=S) fun _ _ hk=>hk.1
 simp only[Rel,RelL]
 exact⟨_,rfl,_,_,rfl,h3,_,_,rfl,⟨us,rfl,hrd.sub fun _ _ hk=>hk.1⟩,_,_,rfl,h2,rfl⟩
end Go.Proofs.YtaigaoflehfdcaaGreatDoor
set_option maxHeartbeats 8000000
set_option maxRecDepth 100000
namespace Go.Proofs.YtaigaoflehfdcaaGreatDoor
open Go.Proofs.Tryz (prog)
open Go.RowKit
theorem Qj:Yz prog 28 0 0:=fun b off w=>by kernel_rfl
theorem ZfH:QA prog 26:=fun w=>by kernel_rfl
theorem Ye:prog.underlying 26=some (.slice 69):=by kernel_rfl
theorem ZZ:YE prog 26 69 2:=⟨by kernel_rfl,fun w=>by kernel_rfl⟩
theorem Zc7:Yz prog 69 1 1:=fun b off w=>by kernel_rfl
theorem Zm6:QA prog 67:=fun w=>by kernel_rfl
theorem ZaK:XZ prog 28 1:=⟨fun w=>by kernel_rfl,fun w=>by kernel_rfl⟩
theorem Zos:Zl prog 38:=Zt Tryz.func38 rfl rfl
theorem ZoA {J:WP} (hJ:Stab J) (ss:List Stp)  :Fn prog J 38 [.agg (pfC ss)] (.int (X1 ss)):=by
 refine fE Tryz.func38 fun S w0 hS hJ0=>?_
 clear hJ0
 refine hqs tb hJ [1000] [.ptr (pfC ss),_] [0] [_] rfl ⟨iBs hS hJ,trivial⟩ ?_
 refine Zd (hqs tb hJ [0,1001,1009] [_,_,.int (ss.length:Nat),_,_,_,_,.int (ss.length:Nat),_,_] [2,7] [_,_,_] rfl ⟨ZX Ye,ZX Ye,trivial⟩ ?_)
 refine ln 1 fun hl1=>?_
 refine cj 2 (fun hb1=>?_) fun hb1=>?_
 ·
  have eU:X1 ss=4:=ZhV (by simp only[Bool.or_eq_true,decide_eq_true_eq]at hb1;omega)
  refine qs tb hJ [1000] [_] [_] ?_
  exact tRn 0 (hE:=eI (by rw[eU]))
 ·
  have hn:¬ (ss.length<1∨2000<ss.length):=by simp only[Bool.or_eq_false_iff,decide_eq_false_iff_not]at hb1;omega
  refine Za (nx (Zd (qs tb hJ [0,1000] [_] [_,_] ?_)))
  refine Zc (lp (ι:=Nat) (fun k=>(k≤ss.length)∧(∀ j,j<k→fsE ss j=0)) (fun k=>[(3,.int (k:Nat))]) (fun k=>ss.length-k) [0,1] [_] 0 ⟨nzl,fun j hj=>by omega⟩ ?_)
  rintro k ⟨f1_1,f1_2⟩
  refine Zd (hqs tb hJ [0,1,1004] [_,_,_,.int (ss.length:Nat),_] [3] [_,_,_] rfl ⟨ZX Ye,trivial⟩ ?_)
  refine cj 2 (fun hb2=>?_) fun hb2=>?_
  ·
   try simp at hb2
   refine Za (nx (Zd (Zc (Zd (hqs tb hJ [0,1,1005,1007] [_,_,_,.ptr (spC (ge ss k)),_,_,.int (((ge ss k).args).length:Nat),_] [3,6] [_,_,_,_] rfl ⟨iIx ZZ,ZX YV,trivial⟩ ?_)))))
   refine ln 2 fun hl2=>?_
   refine cj 3 (fun hb3=>?_) fun hb3=>?_
   ·
    try simp at hb3
    have eU:X1 ss=4:=by have e9:=Zsw (ss:=ss) (k:=k) oz;rw[ZdU hn oz f1_2 (by rw[e9];decide),e9]
    refine qs tb hJ [1000] [_] [_] ?_
    exact tRn 0 (hE:=eI (by rw[eU]))
   ·
    try simp at hb3
    refine Za (nx (qs tb hJ [0,1,1000] [_] [_,_,_] ?_))
    refine Zc (lp (ι:=Nat) (fun q=>(q≤(ge ss k).args.length)∧(∀ j,j<q→XX k (ge (ge ss k).args j)=false)) (fun q=>[(4,.int (q:Nat))]) (fun q=>(ge ss k).args.length-q) [0,1,2] [_,_] 0 ⟨nzl,fun j hj=>by omega⟩ ?_)
    rintro q ⟨f2_1,f2_2⟩
    refine Zd (hqs tb hJ [0,1,2,1008] [_,_,_,_,.ptr (spC (ge ss k)),_,_,.int (((ge ss k).args).length:Nat),_] [4,7] [_,_,_,_] rfl ⟨iIx ZZ,ZX YV,trivial⟩ ?_)
    refine cj 3 (fun hb4=>?_) fun hb4=>?_
    ·
     try simp at hb4
     refine Za (nx (Zd (Zc (hqs tb hJ [0,1,2,1022] [_,_,_,.ptr (spC (ge ss k)),_,_,_,.ptr [.lit (.int .i64 ((ge ((ge ss k).args) q)))],_,_,_,_,_,_,.ptr (spC (ge ss k)),_,_,_,.ptr [.lit (.int .i64 ((ge ((ge ss k).args) q)))],_,_,_,_] [3,7,14,18] [_,_,_,_] rfl ⟨iIx ZZ,iIx ZP,gIx ZZ (hk:=fun(hc':(((decide ((ge ((ge ss k).args) q)< (0:Int)))==false))=true)=>by(try simp at hc');first | omega | (simp;omega) | grind[Zj]),gIx ZP (hk:=fun(hc':(((decide ((ge ((ge ss k).args) q)< (0:Int)))==false))=true)=>by(try simp at hc');first | omega | (simp;omega) | grind[Zj]),trivial⟩ ?_))))
     refine cj 3 (fun hb5=>?_) fun hb5=>?_
     ·
      have eU:X1 ss=3:=by have e9:=Zsx (ss:=ss) (k:=k) oz (ZuM oz hb5);rw[ZdU hn oz f1_2 (by rw[e9];decide),e9]
      refine qs tb hJ [1000] [_] [_] ?_
      exact tRn 0 (hE:=eI (by rw[eU]))
     ·
      refine Za (nx (hqp tb hJ [0,1,1002] [_,.int (q+1:Nat),_] [1] [_,_,_] rfl ⟨Yf,trivial⟩ ?_))
      exact lpE (q+1) [0,1,2] ⟨oz,ZG f2_2 hb5⟩
    ·
     try simp at hb4
     have eF:=fs_ok (ss:=ss) (k:=k) oz (ZrZ fun j hj=>f2_2 j oz)
     refine Zp (nx (hqp tb hJ [0,1002] [_,.int (k+1:Nat),_] [1] [_,_] rfl ⟨Yf,trivial⟩ ?_))
     exact lpE (k+1) [0,1] ⟨oz,ZG f1_2 eF⟩
  ·
   try simp at hb2
   have eU:X1 ss=0:=ZhW hn fun j hj=>f1_2 j oz
   refine Zp (nx (qs tb hJ [1000] [_] [_] ?_))
   exact tRn 0 (hE:=eI (by rw[eU]))
theorem ZgL {J:WP} (hJ:Stab J) (d:Db) (z:Int) (ss:List Stp) (hw:∀ i,i<d.frames.length→(ge d.frames i).wide.length*32≤140737488351232):Fn prog J 10 [.agg (dbC d),.int z,.agg (pfC ss)] (.int (Zaq d z ss)):=by
 refine fE Tryz.func10 fun S w0 hS hJ0=>?_
 clear hJ0
 refine hqs tb hJ [1,1000,1001] [.ptr (dbC d),.ptr (pfC ss),_] [0,1] [_,_,_] rfl ⟨iBs hS hJ,iBs hS hJ,trivial⟩ ?_
 refine Zd (hqs tb hJ [0,1,2,1002] [_,.int (ZbN d),_] [1] [_,_,_,_] rfl ⟨iFn hS hJ (ZuH hJ d (by exact hw)) Zur,trivial⟩ ?_)
 refine qs tb hJ [0,1,2,3,1001] [_,_] [_,_,_,_,_] ?_
 refine cj 4 (fun hb1=>?_) fun hb1=>?_
 ·
  try simp at hb1
  have e3:XY d z=ZbN d:=by rw[XY,if_pos (by simpa using hb1)]
  have eU:Zaq d z ss=ZbN d:=by rw[Zaq,e3,if_neg (by simpa using hb1)]
  refine qs tb hJ [1001] [_,_] [_] ?_
  exact tRn 0 (hE:=eI (by rw[eU]))
 ·
  try simp at hb1
  refine Za (nx (Zd (hqs tb hJ [2,1008] [_,_,_,_,_,_,.int (d.frames.length:Nat),_,_] [6] [_,_] rfl ⟨ZX XS,trivial⟩ ?_)))
  refine cj 1 (fun hb2=>?_) fun hb2=>?_
  ·
   have e3:XY d z=5:=by rw[XY,if_neg (by simpa using hb1),if_pos (by simpa using hb2)]
   have eU:Zaq d z ss=5:=by rw[Zaq,e3];rfl
   refine qs tb hJ [1000] [_] [_] ?_
   exact tRn 0 (hE:=eI (by rw[eU]))
  ·
   have e3:XY d z=0:=by rw[XY,if_neg (by simpa using hb1),if_neg (by simpa using hb2)]
   have eU:Zaq d z ss=X1 ss:=by rw[Zaq,if_pos e3]
   refine Za (nx (hqs tb hJ [1002] [_,.int (X1 ss),_] [1] [_] rfl ⟨iFn hS hJ (ZoA hJ ss) Zos,trivial⟩ ?_))
   exact tRn 0 (hE:=eI (by rw[eU]))
theorem ZrN {J:WP} (hJ:Stab J) (ss:List Stp) (hok:Okay ss):Fn prog J 68 [.agg (pfC ss)] (.rd (Qx (Xb ss))):=by
 refine fE Tryz.func68 fun S w0 hS hJ0=>?_
 refine tw Z6 ?_
 have hl0:=hok.1
 have hl1:=hok.2.1
 refine ZE tb hJ [1000] [.ptr (pfC ss),_] [0] [_] rfl ⟨iBo hS hJ,trivial⟩ ?_
 refine tsq (XA ZP hJ rfl rfl rfl (lb rfl) fun v1=>?_)
 refine snK 1 tb rfl (seK [0,2] [_,_] rfl ?_)
 refine nx (Zd (qso tb hJ [0,1,1000] [_] [_,_,_] ?_))
 refine Zc (lpo (ι:=Nat×Value×(List Int)) (fun(k,_,out)=>(k≤ss.length)∧(out=Yc ss k)) (fun(_,v,out)=>[OB.row v 3 1 (out.map ZdT)]) (fun(k,v,_)=>[(4,.int (k:Nat)),(3,.lit v)]) (fun(k,_,_)=>ss.length-k) [1,2,0] [_] (0,v1,([]:List Int)) ⟨nzl,rfl⟩ ?_)
 rintro⟨k,v,out⟩ ⟨f1_1,f1_2⟩
 refine Zd (ZE tb hJ [0,1,2,1002,1004] [_,_,_,.int (ss.length:Nat),_] [3] [_,_,_,_,_] rfl ⟨ZX Ye,trivial⟩ ?_)
 refine ln 3 fun hl1=>?_
 refine cj 4 (fun hb1=>?_) fun hb1=>?_
 ·
  try simp at hb1
  refine Za (nx (Zd (Zc (qso tb hJ [0,1,2,1000] [_] [_,_,_,_] ?_))))
  refine Zd (qso tb hJ [0,1,2,3,1000] [_] [_,_,_,_,_] ?_)
  refine Zc (lpo (ι:=Nat×Int) (fun(q,z)=>(q≤(ge ss k).args.length)∧(z=szP ss k q)) (fun(_,_)=>[OB.row v 3 1 (out.map ZdT)]) (fun(q,z)=>[(6,.int (q:Nat)),(5,.int z)]) (fun(q,_)=>(ge ss k).args.length-q) [0,1,2,4,3] [_,_,_] (0,1) ⟨nzl,rfl⟩ ?_)
  rintro⟨q,z⟩ ⟨f2_1,f2_2⟩
  refine Zd (ZE tb hJ [0,1,2,3,4,1006,1008] [_,_,_,_,.ptr (spC (ge ss k)),_,_,.int (((ge ss k).args).length:Nat),_] [4,7] [_,_,_,_,_,_,_] rfl ⟨iIx ZZ,ZX YV,trivial⟩ ?_)
  refine ln 5 fun hl2=>?_
  refine cj 6 (fun hb2=>?_) fun hb2=>?_
  ·
   try simp at hb2
   have e4:=Zcq hok (k:=k) (j:=q) oz oz
   have e5:out.length=k:=by rw[f1_2,Z0]
   have e6:=Zhk (ss:=ss) (k:=k) (j:=(ge (ge ss k).args q).toNat) oz
   rw[←f1_2]at e6
   have e7:=Zha (ss:=ss) (k:=k) (j:=q)
   rw[←f2_2]at e7
   refine Za (nx (Zd (Zc (YA tb hJ [0,1,2,3,1015] [_,_,_,_,_,.ptr (spC (ge ss k)),_,_,_,.ptr [.lit (.int .i64 ((ge ((ge ss k).args) q)))],_,.lit (XG v ((((ge ((ge ss k).args) q)).toNat)*1)),.int ((ge out (((ge ((ge ss k).args) q)).toNat))),.int (z+(ge out (((ge ((ge ss k).args) q)).toNat))),.int ((min (1000000000:Int) (z+(ge out (((ge ((ge ss k).args) q)).toNat))))),_] [5,9,11,12,13,14] [_,_,_,_,_] rfl ⟨iIx ZZ,iIx ZP,fun _ _ _ hx hl _=>YC (i:=(ge ((ge ss k).args) q)) ZP rfl (Zu hx (mo 0 rfl)) (hl.D 1 27 rfl rfl) (hl.D 10 36 rfl rfl) (by first | omega | (simp;omega) | grind[Zj]) (by rw[List.length_map];exact(by first | omega | (simp;omega) | grind[Zj])) hx,fun _ _ _ hx hl _=>XU (i:=((ge ((ge ss k).args) q)).toNat) ZiF rfl (Zu hx (mo 0 rfl)) (hl.D 11 37 rfl rfl) (QJ (xs:=out) (k:=((ge ((ge ss k).args) q)).toNat) (by first | omega | (simp;omega) | grind[Zj])) hx,Yf,fun _ w _ hx hl _=>r_min rfl (Rel.of_lit (S:=fun _=>True) (w:=w) (Go.Value.int Go.IntKind.i64 1000000000)) (hl.D 13 39 rfl rfl) hx,trivial⟩ ?_))))
   refine nx (YA tb hJ [0,1,2,4,1002] [_,.int (q+1:Nat),_] [1] [_,_,_,_,_] rfl ⟨Yf,trivial⟩ ?_)
   exact YK (q+1,(min (1000000000:Int) (z+(ge out (((ge ((ge ss k).args) q)).toNat))))) [0,1,2,4,3] ⟨oz,by rw[ZjB oz,←f2_2,←f1_2]⟩
  ·
   try simp at hb2
   have e5:out.length=k:=by rw[f1_2,Z0]
   refine Zp (nx (Ya (snK 2 tb rfl (sy (.rd (Qx ([z]))) (fun h=>Yw ZP ZlY rfl (h.get 0 rfl) (Zy hS _ h.keep h.x _ nlr) (jo hJ h.x)) ?_))))
   refine Z2 (f:=ZdT) (m:=2) (s:=41) out ([z]) (fun _=>rfl) ZgT hJ hJ0 rfl rfl rfl (lb rfl) rfl rfl (fun a w h=>(h.get 0 rfl)) (by simp;omega) (by simp;omega) fun v2=>?_
   refine snK 1 tb rfl (seK [0,2,5,6] [_,_,_,_] rfl ?_)
   refine nx (ln 1 fun hl3=>?_)
   refine YA tb hJ [0,2,1002] [_,.int (k+1:Nat),_] [1] [_,_,_] rfl ⟨Yf,trivial⟩ ?_
   exact YK (k+1,v2,out++([z])) [1,2,0] ⟨oz,by rw[Zdj oz,←f1_2,f2_2,show q=(ge ss k).args.length by omega]⟩
 ·
  try simp at hb1
  refine Zp (nx (qso tb hJ [1001] [_,_] [_] ?_))
  exact tw (fun h=>ZF hS h (m:=0) (s:=2) rfl) (tRo 0 (hE:=congrArg (fun z=>AV.rd (Qx z)) (show out=(Xb ss)from by rw[f1_2,show k=ss.length by omega];rfl)))
theorem Zon:Zl prog 69:=Zt Tryz.func69 rfl rfl
theorem ZfP:Yz prog 69 0 0:=fun b off w=>by kernel_rfl
theorem ZlM:ZbO prog 69 2:=⟨#[.string ⟨#[]⟩,.slice none 0 0],rfl,fun i=>(#[(0,1),(1,1)]:Array (Nat×Nat))[i]?,fun j hj=>by rcases j with _ | _ | j<;>first | rfl | omega,fun parts=>by kernel_rfl⟩
theorem ZlX:ZdI prog 69:=⟨.agg #[.string ⟨#[]⟩,.slice none 0 0],fun w=>by kernel_rfl⟩
theorem Zih:Zjs prog 26 69 2 40:=ZuR (.agg #[.string ⟨#[]⟩,.slice none 0 0]) (by kernel_rfl) (by kernel_rfl) rfl dz (fun w=>by kernel_rfl)
theorem Zd9:Zjp prog 28 [.sl []]:=⟨(.agg #[.slice none 0 0]),fun w=>by kernel_rfl,fun S w=>(show RdL S w [.sl []] [.slice none 0 0]from⟨.nil _ _ nzl,trivial⟩)⟩
theorem Zuc:Zl prog 68:=Zt Tryz.func68 rfl rfl
theorem Ze5:Zf4 prog 28 [.slice none 0 0]:=⟨fun i=>(#[(0,1)]:Array (Nat×Nat))[i]?,fun j hj=>by rcases j with _ | j<;>first | rfl | (simp at hj;omega) | simp at hj,fun parts=>by kernel_rfl⟩
theorem Za0:Qd prog 28 1:=fun w=>by kernel_rfl
theorem ZlN:ZbO prog 28 1:=⟨#[.slice none 0 0],rfl,fun i=>(#[(0,1)]:Array (Nat×Nat))[i]?,fun j hj=>by rcases j with _ | j<;>first | rfl | omega,fun parts=>by kernel_rfl⟩
theorem Zjb:Zl prog 10:=Zt Tryz.func10 rfl rfl
theorem Zup:Zl prog 40:=Zt Tryz.func40 rfl rfl
theorem Zjw:ZsJ prog 28 1:=⟨(#[.slice none 0 0]),rfl,by kernel_rfl⟩
theorem ZrP {J:WP} (hJ:Stab J) (ss:List Stp) (z:Int) (u:Value) (xs:List Stp) (hok:Okay ss) (hz:0≤z) (hz1:z< (ss.length:Int)) (hb:xs.length+tsize (treeAt ss z.toNat)≤100000) (ih:∀(z':Int) (u':Value) (xs':List Stp),z'<z→0≤z'→xs'.length+tsize (treeAt ss z'.toNat)≤100000→FnM (ι:=Value) prog J 69 [] [.agg (pfC ss),.int (z'),.lit (u')] [OB.row u' 69 2 ((xs').map spC)] (fun i'=>.lit (i')) (fun i'=>[OB.row i' 69 2 ((xs'++flat (treeAt ss z'.toNat) xs'.length).map spC)])):FnM (ι:=Value) prog J 69 [] [.agg (pfC ss),.int z,.lit u] [OB.row u 69 2 (xs.map spC)] (fun i'=>.lit (i')) (fun i'=>[OB.row i' 69 2 ((xs++flat (treeAt ss z.toNat) xs.length).map spC)]):=by
 refine fEM Tryz.func69 fun S w0 R hS hJ0 hH=>?_
 refine Xq (B:=So J S w0 50 (OB.row u 69 2 (xs.map spC)::R) [(0,.agg (pfC ss)),(1,.int z),(2,.lit u)]) ?_ fun a w h=>h
 have hi:z.toNat<ss.length:=by omega
 have hf:=Zj2 hok hi
 obtain⟨et,ef⟩:=Zmf (m:=xs.length) hok hi
 refine ZE tb hJ [1,2,1000] [.ptr (pfC ss),_] [0] [_,_,_] rfl ⟨iBo hS hJ,trivial⟩ ?_
 refine tsq (XA ZP hJ rfl rfl rfl (lb rfl) fun v1=>?_)
 refine snK 1 tb rfl (seK [0,2,3,4] [_,_,_,_] rfl ?_)
 refine nx (Zd (qso tb hJ [0,1,2,3,1000] [_] [_,_,_,_,_] ?_))
 refine Zc (lpo (ι:=Nat×Value×(List Stp)×Value×(List Int)) (fun(q,_,ys,_,nums)=>(q≤(ge ss z.toNat).args.length)∧(ys=xs++(flK ss z.toNat q xs.length).1)∧(nums=(flK ss z.toNat q xs.length).2)) (fun(_,wv,ys,av,nums)=>(OB.row av 3 1 (nums.map ZdT)::OB.row wv 69 2 (ys.map spC)::R)) (fun(q,wv,_,av,_)=>[(8,.int (q:Nat)),(2,.lit wv),(7,.lit av)]) (fun(q,_,_,_,_)=>(ge ss z.toNat).args.length-q) [1,3,4,2,0] [_,_] (0,u,xs,v1,([]:List Int)) ⟨nzl,by rw[ZdV,List.append_nil],by rw[ZdV]⟩ ?_)
 rintro⟨q,wv,ys,av,nums⟩ ⟨f1_1,f1_2,f1_3⟩
 refine Zd (ZE tb hJ [0,1,2,3,4,1002,1006,1008] [_,_,_,_,.ptr (spC (ge ss z.toNat)),_,_,.int (((ge ss z.toNat).args).length:Nat),_] [4,7] [_,_,_,_,_,_,_,_] rfl ⟨iIz ZZ,ZX YV,trivial⟩ ?_)
 refine ln 5 fun hl1=>?_
 refine ln 6 fun hl2=>?_
 refine cj 7 (fun hb1=>?_) fun hb1=>?_
 ·
  try simp at hb1
  have e4:=Zcq hok hi (j:=q) oz
  have e5:=Zjx (ss:=ss) (i:=z.toNat) (j:=q) oz
  have e6:=Zsa (ss:=ss) (i:=z.toNat) (j:=q+1)
  have e7:ys.length=xs.length+tzK ss z.toNat q:=by rw[f1_2,List.length_append,Zgx]
  have e8:=Zkk (ss:=ss) (i:=z.toNat) (j:=q) (m:=xs.length) oz
  have e9:nums.length=q:=by rw[f1_3,ZnX oz]
  refine Za (nx (Zd (Zc (Zd (tw pm1 (fun a w h=>QK [] (γ:=Value) (fun ix'=>([.agg (pfC ss),.ptr (pfC ss),.rd (Zak ss),.int z,.ptr (spC (ge ss z.toNat)),.ptr [Qx ((ge ss z.toNat).args)],.rd (Qx ((ge ss z.toNat).args)),.int (q:Nat),.ptr [.lit (.int .i64 ((ge ((ge ss z.toNat).args) q)))],.int ((ge ((ge ss z.toNat).args) q)),.lit wv,.any,.any]:List AV).getD ix' .any) (fun _=>true) [(1,fun _=>.int z),(3,fun _=>.ptr (pfC ss)),(8,fun _=>.int (q:Nat)),(7,fun _=>.lit av),(2,fun g=>.lit g)] (fun j' g=>match j' with | 0=>(OB.row wv 69 2 (ys.map spC)::OB.row av 3 1 (nums.map ZdT)::R) | _=>(OB.row g 69 2 (((ys++flat (treeAt ss ((ge ((ge ss z.toNat).args) q)).toNat) ys.length)).map spC)::OB.row av 3 1 (nums.map ZdT)::R)) (fun k' g=>match k' with | 0=>g | 1=>g | _=>undef) [11,12] 2 (.slice none 0 0) (fun _=>rfl) h hJ YZ rfl rfl rfl rfl rfl rfl (fun j' g hj p hp=>by cases hp) ⟨?_,?_,?_,?_,?_,?_,?_,?_,?_,?_,?_,?_,?_,trivial⟩ ⟨?e5_1_0,?e5_1_1,trivial⟩ ⟨.old 0 1 _,.old 1 3 _,.old 2 8 _,.old 4 7 _,.eff 1 12 2 (fun g=>g) rfl rfl (fun _=>rfl) (fun _ _ hx=>Zax (hx.2.1 _ (mo 0 rfl))),trivial⟩ ?n5_1))))))
  exact oX rfl fun hx hl=>ZcY ZaK rfl (hl.env 1 3 _ rfl rfl) nlr hx
  exact oX rfl fun hx hl=>Z4 Qj rfl (hl.env 1 3 _ rfl rfl) hx
  exact oX rfl fun hx hl=>ZN ZfH rfl (hl.D 1 22 rfl rfl) hx
  exact oX rfl fun hx hl=>Z7 rfl (hl.env 0 1 _ rfl rfl) hx
  exact oX rfl fun hx hl=>ZK (i:=z) ZZ rfl (hl.D 2 23 rfl rfl) (hl.D 3 24 rfl rfl) (by first | omega | (simp;omega) | grind[Zj]) (Zei (xs:=ss) (i:=z) (by first | omega | (simp;omega) | grind[Zj]) (by first | omega | (simp;omega) | grind[Zj])) rfl hx
  exact oX rfl fun hx hl=>Z4 Zc7 rfl (hl.D 4 25 rfl rfl) hx
  exact oX rfl fun hx hl=>ZN Zm6 rfl (hl.D 5 26 rfl rfl) hx
  exact oX rfl fun hx hl=>Z7 rfl (hl.env 2 8 _ rfl rfl) hx
  exact oX rfl fun hx hl=>ZK (i:=((q:Nat):Int)) ZP rfl (hl.D 6 27 rfl rfl) (hl.D 7 28 rfl rfl) nnn (ZR (xs:=(ge ss z.toNat).args) (k:=q) (by first | omega | (simp;omega) | grind[Zj])) rfl hx
  exact oX rfl fun hx hl=>ZN ZiF rfl (hl.D 8 29 rfl rfl) hx
  exact oX rfl fun hx hl=>Z7 rfl (hl.env 3 2 _ rfl rfl) hx
  exact Zr rfl
  exact Zr rfl
  case e5_1_0=>exact⟨_,rfl,rfl,rfl,rfl,fun _ _ w hk hx hl _=>ZC (d_fn (O:=[OB.row wv 69 2 (ys.map spC)]) (R:=(OB.row av 3 1 (nums.map ZdT)::R)) (ih  (z':=((ge ((ge ss z.toNat).args) q))) (u':=wv) (xs':=ys) oz (by exact e4.1) oz) Zon rfl hS hJ0 ZI hk hx (Zb (hl.D 0 21 rfl rfl) (Zb (hl.D 9 30 rfl rfl) (Zb (hl.D 10 31 rfl rfl) Zk)))) fun v w' ⟨i,hp,hv⟩=>⟨i,rfl,fun k' hk'=>absurd hk' (Nat.not_lt_zero _),fun _=>hv.lit,hp⟩⟩
  case e5_1_1=>exact⟨_,rfl,rfl,rfl,rfl,fun g _ w hk hx _ hs=>ZC (ZaH (.inl rfl) (hs 0 11 _ 32 oz rfl rfl rfl) hk hx) fun v w' hp=>⟨g,rfl,fun _ _=>rfl,fun _=>hp.1,hp.2⟩⟩
  clear a w h
  intro z2
  dsimp only[List.map]
  refine nx (Ya (snK 2 tb rfl (sy (.int (((ys++flat (treeAt ss ((ge ((ge ss z.toNat).args) q)).toNat) ys.length)).length:Nat)) (fun h=>Zbq (by rw[List.length_map]) Ye rfl (Zu h.x (mo 0 rfl)) (h.get 0 rfl) h.x) ?_)))
  refine sy (.int (((((ys++flat (treeAt ss ((ge ((ge ss z.toNat).args) q)).toNat) ys.length)).length:Nat):Int)-(1:Int))) (fun h=>Zpt (i:=((((ys++flat (treeAt ss ((ge ((ge ss z.toNat).args) q)).toNat) ys.length)).length:Nat):Int)) (j:=(1:Int)) rfl (h.get 0 rfl) (Rel.of_lit (Go.Value.int Go.IntKind.i64 1)) (by rw[List.length_append,flat_length];omega) (by rw[List.length_append,flat_length];omega) h.x) ?_
  refine sy (.rd (Qx ([((((ys++flat (treeAt ss ((ge ((ge ss z.toNat).args) q)).toNat) ys.length)).length:Nat):Int)-(1:Int)]))) (fun h=>Yw ZP ZlY rfl (h.get 0 rfl) (Zy hS _ h.keep h.x _ nlr) (jo hJ h.x)) ?_
  refine kw pm1 (Z2 (f:=ZdT) (m:=4) (s:=33) nums ([((((ys++flat (treeAt ss ((ge ((ge ss z.toNat).args) q)).toNat) ys.length)).length:Nat):Int)-(1:Int)]) (fun _=>rfl) ZgT hJ hJ0 rfl rfl rfl (lb rfl) rfl rfl (fun a w h=>(h.get 0 rfl)) (by simp;omega) (by simp;omega) fun v3=>?_)
  refine snK 1 tb rfl (seK [0,2,7,8,9,10] [_,_,_,_,_,_] rfl ?_)
  refine nx (ln 1 fun hl3=>?_)
  refine YA tb hJ [0,2,3,5,1002] [_,.int (q+1:Nat),_] [1] [_,_,_,_,_] rfl ⟨Yf,trivial⟩ ?_
  exact YK (q+1,z2,(ys++flat (treeAt ss ((ge ((ge ss z.toNat).args) q)).toNat) ys.length),v3,nums++([((((ys++flat (treeAt ss ((ge ((ge ss z.toNat).args) q)).toNat) ys.length)).length:Nat):Int)-(1:Int)])) [1,2,4,3,0] ⟨oz,by rw[e8,f1_2,←List.append_assoc,←f1_2,e7],by rw[e8,←f1_3,List.length_append,e7,flat_length]⟩
 ·
  try simp at hb1
  have e1:q=(ge ss z.toNat).args.length:=by omega
  have e7:ys.length=xs.length+tzK ss z.toNat q:=by rw[f1_2,List.length_append,Zgx]
  subst e1
  refine Zp (nx (tw (fun h=>ZF hS h (m:=4) (s:=7) rfl) (tsq ?_)))
  refine snK 4 tb rfl (sy (.ptr (spC (ge ss z.toNat))) (fun h=>ZK (i:=z) ZZ rfl (h.get 1 rfl) (h.get 0 rfl) (by first | omega | (simp;omega) | grind[Zj]) (Zei (xs:=ss) (i:=z) (by first | omega | (simp;omega) | grind[Zj]) (by first | omega | (simp;omega) | grind[Zj])) rfl h.x) ?_)
  refine snK 3 tb rfl (sq (.agg (spC ((⟨(ge ss z.toNat).label,nums⟩:Stp)))) rfl rfl (lb rfl) (fun a _ h=>XP (us:=[a.eval (Go.Operand.tmp 45),a.eval (Go.Operand.tmp 46)]) ZlM rfl yz (ZJ (h.get 1 rfl) (ZJ (h.get 0 rfl) Yp)) rfl h.x) ?_)
  refine sy (.rd (Zak ([(⟨(ge ss z.toNat).label,nums⟩:Stp)]))) (fun h=>QL ZZ ZlX dz rfl rfl (h.get 0 rfl) (Zy hS _ h.keep h.x _ nlr) (jo hJ h.x)) ?_
  refine Z2 (f:=spC) (m:=9) (s:=39) ys ([(⟨(ge ss z.toNat).label,nums⟩:Stp)]) (fun _=>rfl) Zih hJ hJ0 rfl rfl rfl (lb rfl) rfl rfl (fun a w h=>(h.get 0 rfl)) (by simp;omega) (by simp;omega) fun v4=>?_
  refine snK 1 tb rfl (seK [0,2,4,12] [_,_,_,_] rfl ?_)
  refine nx (ln 1 fun hl4=>?_)
  refine ln 2 fun hl5=>?_
  exact tw (ob0 (congrArg (fun z'=>OB.row v4 69 2 ((z').map spC)) (show(ys++([(⟨(ge ss z.toNat).label,nums⟩:Stp)]))=((xs++flat (treeAt ss z.toNat) xs.length))from by rw[ef,←List.append_assoc,←f1_2,f1_3]))) (ZB (fun a w h=>Yl  (m:=0) v4 rfl h rfl rfl))
theorem ZuE {J:WP} (hJ:Stab J) (ss:List Stp) (hok:Okay ss):∀(m:Nat) (z':Int) (u':Value) (xs':List Stp),z'.toNat=m→0≤z'→z'< (ss.length:Int)→xs'.length+tsize (treeAt ss z'.toNat)≤100000→FnM (ι:=Value) prog J 69 [] [.agg (pfC ss),.int (z'),.lit (u')] [OB.row u' 69 2 ((xs').map spC)] (fun i'=>.lit (i')) (fun i'=>[OB.row i' 69 2 ((xs'++flat (treeAt ss z'.toNat) xs'.length).map spC)]):=by
 intro m
 induction m using Nat.strongRecOn with
 | ind m ih=>
  intro z u xs hm h0 h1 hb
  exact ZrP hJ ss z u xs hok h0 h1 hb fun z' u' xs' hlt h0' hb'=>ih z'.toNat oz z' u' xs' rfl h0' oz hb'
theorem ZrO {J:WP} (hJ:Stab J) (ss:List Stp) (z':Int) (u':Value) (xs':List Stp) (hok:Okay ss) (h0:0≤z') (h1:z'< (ss.length:Int)) (hb:xs'.length+tsize (treeAt ss z'.toNat)≤100000):FnM (ι:=Value) prog J 69 [] [.agg (pfC ss),.int (z'),.lit (u')] [OB.row u' 69 2 ((xs').map spC)] (fun i'=>.lit (i')) (fun i'=>[OB.row i' 69 2 ((xs'++flat (treeAt ss z'.toNat) xs'.length).map spC)]):=ZuE hJ ss hok _ z' u' xs' rfl h0 h1 hb
theorem ZoB {J:WP} (hJ:Stab J) (ss:List Stp) (most:Int) (hok:Okay ss) (hm0:1≤most) (hm1:most≤2000):Fn prog J 40 [.agg (pfC ss),.int most] (.tup [.agg (pfC (if Zby ss most=0 then ZL ss else [])),.int (Zby ss most)]):=by
 refine fE Tryz.func40 fun S w0 hS hJ0=>?_
 refine tw Z6 ?_
 have hl0:=hok.1
 have hl1:=hok.2.1
 refine tsq (sy (.ptr (pfC ss)) (fun h=>Zfk rfl (h.get 0 rfl) (Zy hS _ h.keep h.x _ nlr) (jo hJ h.x)) ?_)
 refine Z9 Zd9 hJ rfl rfl rfl (lb rfl) fun b1=>?_
 refine snK 1 tb rfl (seK [1,2,4] [_,_,_] rfl ?_)
 refine nx (Zd (ZE tb hJ [0,1,2,1002] [_,.int (X1 ss),_] [1] [_,_,_,_] rfl ⟨iFo hS hJ (ZoA hJ ss) Zos,trivial⟩ ?_))
 refine qso tb hJ [0,1,2,3,1001] [_,_] [_,_,_,_,_] ?_
 refine cj 4 (fun hb1=>?_) fun hb1=>?_
 ·
  exact False.elim (by rw[(Xy ss).2 hok]at hb1;simp at hb1)
 ·
  refine Za (nx (Zd (qso tb hJ [0,1,2,1001] [_,_] [_,_,_,_] ?_)))
  refine cj 3 (fun hb2=>?_) fun hb2=>?_
  ·
   try simp at hb2
   exact False.elim oz
  ·
   try simp at hb2
   refine Za (nx (ZE tb hJ [0,1,2,1001,1003,1008] [_,.rd (Qx (Xb ss)),_,_,.int (ss.length:Nat),.int (ss.length-1:Nat),.ptr [.lit (.int .i64 ((ge (Xb ss) (ss.length-1))))],_,_] [1,4,5,6] [_,_,_,_,_,_] rfl ⟨iFo hS hJ (ZrN hJ ss (by exact hok)) Zuc,ZX Ye,fun _ _ _ hx hl _=>Zej (i:=ss.length) (j:=1) rfl (hl.D 4 21 rfl rfl) (Rel.of_lit (Go.Value.int Go.IntKind.i64 1)) (by first | omega | (simp;omega) | grind[Zj]) (by first | omega | (simp;omega) | grind[Zj]) hx,iIx ZP (hk:=by have h9:(Xb ss).length=ss.length:=Z0 _ _;omega),trivial⟩ ?_))
   refine ln 3 fun hl1=>?_
   refine ln 4 fun hl2=>?_
   refine Zd (qso tb hJ [0,1,1006] [_,_,_,_,_,_,_] [_,_,_] ?_)
   refine cj 2 (fun hb3=>?_) fun hb3=>?_
   ·
    have eU:Zby ss most=15:=if_pos (by first | omega | (simp only[Bool.or_eq_true,decide_eq_true_eq]at hb3;omega))
    refine tsq (sy (.agg (pfC ([]:List Stp))) (fun h=>XL (ps:=[]) (us:=[.slice none 0 0]) Ze5 rfl yz ZlV rfl (Q0 (.nil _ _ nzl) Yp) h.x) ?_)
    refine ZD (b:=b1) (off:=0) (es:=[_]) (news:=[_]) hJ hJ0 Za0 rfl rfl rfl (lb rfl) rfl (fun a w h=>⟨(h.get 1 rfl),(h.get 0 rfl)⟩) ?_
    refine snK 1 tb rfl (seK [0,2] [_,_] rfl ?_)
    exact nx (ZB (fun a w h=>QP (m:=1) (q:=0) rfl ZaK h rfl rfl (show(_:List CD)=[Zak (if Zby ss most=0 then ZL ss else [])]from by(first | (rw[if_neg (by rw[eU];decide)];done) | (rw[if_pos eU];rfl))<;>rfl) rfl (eI (by rw[eU]))))
   ·
    have eN:¬ most<ge (Xb ss) (ss.length-1):=by first | omega | (simp only[Bool.or_eq_false_iff,decide_eq_false_iff_not]at hb3;omega)
    have eU:Zby ss most=0:=if_neg eN
    have eb:=Zgz hok oz oz eN
    have eb2:tsize (treeAt ss (ss.length-1))≤2000:=by change ((tsize (treeAt ss (ss.length-1)):Nat):Int)≤most at eb;omega
    refine Za (nx (tw (YJ 69 2 hJ) (tsq ?_)))
    refine snK 3 tb rfl (sy (.int (ss.length:Nat)) (fun h=>Zel Ye rfl (h.get 0 rfl) h.x) ?_)
    refine sy (.int (ss.length-1:Nat)) (fun h=>Zej (i:=ss.length) (j:=1) rfl (h.get 0 rfl) (Rel.of_lit (Go.Value.int Go.IntKind.i64 1)) (by first | omega | (simp;omega) | grind[Zj]) (by first | omega | (simp;omega) | grind[Zj]) h.x) ?_
    refine ZaZ (O:=[OB.row (.slice none 0 0) 69 2 (([]:List Stp).map spC)]) (R:=[OB.var b1 [Zak ([]:List Stp)]]) (ZrO hJ ss (z':=(((ss.length-1:Nat):Int))) (u':=(.slice none 0 0)) (xs':=([]:List Stp)) (by exact hok) oz oz (by simp only[List.length_nil,Int.toNat_natCast];omega)) Zon rfl rfl rfl (lb rfl) hS hJ0 ZI (fun a w h=>(Zb (h.get 4 rfl) (Zb (h.get 0 rfl) (Zb (Rel.of_lit (Go.Value.slice none 0 0)) Zk)))) fun z2=>?_
    refine sq (.agg [.lit z2]) rfl rfl (lb rfl) (fun a _ h=>XP (us:=[a.eval (Go.Operand.tmp 38)]) ZlN rfl yz (ZJ (h.get 0 rfl) Yp) rfl h.x) ?_
    refine kw pm1 (ZD (b:=b1) (off:=0) (es:=[_]) (news:=[_]) hJ hJ0 Za0 rfl rfl rfl (lb rfl) rfl (fun a w h=>⟨(h.get 7 rfl),(h.get 0 rfl)⟩) ?_)
    refine snK 1 tb rfl (seK [0,8] [_,_] rfl ?_)
    refine nx (tw pm1 (tw (fun h=>Zaw (j:=0) (cs':=[Zak ((([]:List Stp)++flat (treeAt ss (((ss.length-1:Nat):Int)).toNat) ([]:List Stp).length))]) hS rfl rfl h) ?_))
    exact ZB (fun a w h=>QP (m:=1) (q:=0) rfl ZaK h rfl rfl (show(_:List CD)=[Zak (if Zby ss most=0 then ZL ss else [])]from by(first | (rw[if_neg (by rw[eU];decide)];done) | (rw[if_pos eU];rfl))<;>rfl) rfl (eI (by rw[eU])))
theorem Zoy {J:WP} (hJ:Stab J) (d:Db) (z:Int) (ss:List Stp) (hw:∀ i,i<d.frames.length→(ge d.frames i).wide.length*32≤140737488351232):Fn prog J 12 [.agg (dbC d),.int z,.agg (pfC ss)] (.tup [.rd (Zi ((ZdE d z ss).1)),.int ((ZdE d z ss).2)]):=by
 refine fE Tryz.func12 fun S w0 hS hJ0=>?_
 refine tw Z6 (ZE tb hJ [1,1000,1001] [.ptr (dbC d),.ptr (pfC ss),_,_] [0,1] [_,_,_] rfl ⟨iBo hS hJ,iBo hS hJ,trivial⟩ ?_)
 refine Zd (ZE tb hJ [2,1004] [_,_,_,.int (Zaq d z ss),_] [3] [_,_] rfl ⟨iFo hS hJ (ZgL hJ d z ss (by exact hw)) Zjb,trivial⟩ ?_)
 refine qso tb hJ [0,1,1001] [_,_] [_,_,_] ?_
 refine cj 2 (fun hb1=>?_) fun hb1=>?_
 ·
  try simp at hb1
  have eU:=Zns (d:=d) (z:=z) (ss:=ss) (by simpa using hb1)
  refine qso tb hJ [1001,1002] [_,_,_] [_,_] ?_
  exact tw (fun h=>Ym h (m:=0) (s:=6) rfl) (ZB (fun a w h=>Yh (m:=0) (k:=1) rfl (ZM h) rfl rfl (congrArg (fun z=>AV.rd (Zi z)) (show([]:List BA)=((ZdE d z ss).1)from by first | (rw[eU];done) | (rw[eU,eV];done) | (rw[eU,f1_2,Zz oz]))) (eI (by first | (rw[eU];done) | (rw[eU,eV];done) | (rw[eU,f1_2,Zz oz])))))
 ·
  try simp at hb1
  have e0:Zaq d z ss=0:=by simpa using hb1
  obtain⟨ha,hf⟩:=ZgE e0
  have hok:=(Xy ss).1 hf
  refine Za (nx (tsq (snK 1 tb rfl (sy (.tup [.agg (pfC (((if Zby ss (2000:Int)=0 then ZL ss else [])))),.int (Zby ss (2000:Int))]) (fun h=>ZcZ (ZoB hJ ss (2000:Int) (by exact hok) oz oz) Zup rfl (Zy hS _ h.keep h.x) (h.x.1) (Zb (h.get 0 rfl) (Zb (Rel.of_lit (Go.Value.int Go.IntKind.i64 2000)) Zk)) (jo hJ h.x)) ?_))))
  refine snK 3 tb rfl (Qn (cs:=pfC (((if Zby ss (2000:Int)=0 then ZL ss else [])))) Zjw rfl rfl rfl (lb rfl) rfl rfl rfl dz (m:=1) rfl rfl (fun a w h=>Zy hS _ h.keep h.x _ nlr) (fun a w h w' hk'=>YL hJ _ _ hk' h.x) ?_)
  refine snK 1 tb rfl (seK [0,1] [_,_] rfl ?_)
  refine nx (Zd (qso tb hJ [0,1,1001] [_,_] [_,_,_] ?_))
  refine cj 2 (fun hb2=>?_) fun hb2=>?_
  ·
   try simp at hb2
   have eU:=Znr (d:=d) e0 (show ¬ Zby ss 2000=0 by simpa using hb2)
   have eV:=Zn3 (ss:=ss) (most:=2000) (show ¬ Zby ss 2000=0 by simpa using hb2)
   refine qso tb hJ [1001,1002] [_,_,_] [_,_] ?_
   exact tw (fun h=>Ym h (m:=0) (s:=6) rfl) (ZB (fun a w h=>Yh (m:=0) (k:=1) rfl (ZM h) rfl rfl (congrArg (fun z=>AV.rd (Zi z)) (show([]:List BA)=((ZdE d z ss).1)from by first | (rw[eU];done) | (rw[eU,eV];done) | (rw[eU,f1_2,Zz oz]))) (eI (by first | (rw[eU];done) | (rw[eU,eV];done) | (rw[eU,f1_2,Zz oz])))))
  ·
   try simp at hb2
   have e1:Zby ss 2000=0:=by simpa using hb2
   have eU:=Zsv (d:=d) e0 e1
   have hxl:(ZL ss).length≤2000:=Zsz hok e1
   refine tw (sa 1 rfl (show(.ptr (pfC (((if Zby ss (2000:Int)=0 then ZL ss else [])))):AV)= .ptr (pfC (ZL ss))from by rw[if_pos e1])) (Za (nx (tsq ?_)))
   refine XA Zf hJ rfl rfl rfl (lb rfl) fun v1=>?_
   refine snK 1 tb rfl (seK [0,3] [_,_] rfl ?_)
   refine nx (Zd (qso tb hJ [0,1,1000] [_] [_,_,_] ?_))
   refine Zc (lpo (ι:=Nat×Value×(List BA)) (fun(k,_,out)=>(k≤(ZL ss).length)∧(out=((ZL ss).take k).map Stp.label)) (fun(_,v,out)=>[OB.row v 9 1 (out.map Q3)]) (fun(k,v,_)=>[(12,.int (k:Nat)),(11,.lit v)]) (fun(k,_,_)=>(ZL ss).length-k) [1,2,0] [_] (0,v1,([]:List BA)) ⟨nzl,rfl⟩ ?_)
   rintro⟨k,v,out⟩ ⟨f1_1,f1_2⟩
   refine Zd (ZE tb hJ [0,1,2,1002,1004] [_,_,_,.int ((ZL ss).length:Nat),_] [3] [_,_,_,_,_] rfl ⟨ZX Ye,trivial⟩ ?_)
   refine ln 3 fun hl1=>?_
   refine cj 4 (fun hb3=>?_) fun hb3=>?_
   ·
    try simp at hb3
    refine Za (nx (Zd (Zc (Ya (snK 4 tb rfl (sy (.ptr (spC ((ge (ZL ss) k)))) (fun h=>ZK (i:=((k:Nat):Int)) ZZ rfl (h.get 1 rfl) (h.get 0 rfl) nnn (ZR (xs:=(ZL ss)) (k:=k) (by first | omega | (simp;omega) | grind[Zj])) rfl h.x) ?_))))))
    refine snK 2 tb rfl (sy (.rd (Zi ([((ge (ZL ss) k)).label]))) (fun h=>Yw Zf QI rfl (h.get 0 rfl) (Zy hS _ h.keep h.x _ nlr) (jo hJ h.x)) ?_)
    refine Z2 (f:=Q3) (m:=7) (s:=36) out ([((ge (ZL ss) k)).label]) (fun _=>rfl) Y3 hJ hJ0 rfl rfl rfl (lb rfl) rfl rfl (fun a w h=>(h.get 0 rfl)) (by rw[f1_2];simp;omega) (by rw[f1_2];simp;omega) fun v2=>?_
    refine snK 1 tb rfl (seK [0,2,10,11] [_,_,_,_] rfl ?_)
    refine nx (ln 1 fun hl2=>?_)
    refine YA tb hJ [0,2,1002] [_,.int (k+1:Nat),_] [1] [_,_,_] rfl ⟨Yf,trivial⟩ ?_
    exact YK (k+1,v2,out++([((ge (ZL ss) k)).label])) [1,2,0] ⟨oz,by rw[Zb0 oz,←f1_2]⟩
   ·
    try simp at hb3
    refine Zp (nx (qso tb hJ [1001,1002] [_,_,_] [_,_] ?_))
    exact tw (fun h=>ZF hS h (m:=0) (s:=6) rfl) (ZB (fun a w h=>Yh (m:=0) (k:=1) rfl (ZM h) rfl rfl (congrArg (fun z=>AV.rd (Zi z)) (show out=((ZdE d z ss).1)from by first | (rw[eU];done) | (rw[eU,eV];done) | (rw[eU,f1_2,Zz oz]))) (eI (by first | (rw[eU];done) | (rw[eU,eV];done) | (rw[eU,f1_2,Zz oz])))))
theorem Zuf:Zl prog 64:=Zt Tryz.func64 rfl rfl
theorem Zr4:XZ prog 69 2:=⟨fun w=>by kernel_rfl,fun w=>by kernel_rfl⟩
theorem Zbj:Zjp prog 69 [.lit (.string ⟨#[]⟩),.sl []]:=⟨(.agg #[.string ⟨#[]⟩,.slice none 0 0]),fun w=>by kernel_rfl,fun S w=>(show RdL S w [.lit (.string ⟨#[]⟩),.sl []] [.string ⟨#[]⟩,.slice none 0 0]from⟨.lit _ nzl,.nil _ _ nzl,trivial⟩)⟩
theorem Zci:Qd prog 69 2:=fun w=>by kernel_rfl
theorem Zug:Zl prog 63:=Zt Tryz.func63 rfl rfl
theorem Zut:Zl prog 35:=Zt Tryz.func35 rfl rfl
theorem Zus:Zl prog 36:=Zt Tryz.func36 rfl rfl
theorem Zlm:ZuU prog 67 3 8 (.int .i64 0):=makeT (by kernel_rfl) (by kernel_rfl) rfl True.intro
theorem Ztl {J:WP} (hJ:Stab J) (y:Int) (k:Nat)  :Fn prog J 64 [.int y,.ptr [.lit (.int .i64 (((k:Nat):Int)))]] (.bool (XX (k:Int) y)):=by
 refine fE Tryz.func64 fun S w0 hS hJ0=>?_
 clear hJ0
 refine qs tb hJ [0,1] [_] [_,_] ?_
 refine qs tb hJ [1007] [_,_,_,_,_,_,_,_] [_] ?_
 exact tRn 0 (hE:=eB (rfl))
theorem p_form {J:WP} (hJ:Stab J) (ss:List Stp)  :Fn prog J 36 [.agg (pfC ss)] (.int (X1 ss)):=by
 refine fE Tryz.func36 fun S w0 hS hJ0=>?_
 refine tw Z6 (ZE tb hJ [1000] [.ptr (pfC ss),_] [0] [_] rfl ⟨iBo hS hJ,trivial⟩ ?_)
 refine Zd (ZE tb hJ [0,1001,1009] [_,_,.int (ss.length:Nat),_,_,_,_,.int (ss.length:Nat),_,_] [2,7] [_,_,_] rfl ⟨ZX Ye,ZX Ye,trivial⟩ ?_)
 refine ln 1 fun hl1=>?_
 refine cj 2 (fun hb1=>?_) fun hb1=>?_
 ·
  have eU:X1 ss=4:=ZhV (by simp only[Bool.or_eq_true,decide_eq_true_eq]at hb1;omega)
  refine qso tb hJ [1000] [_] [_] ?_
  exact tRo 0 (hE:=eI (by rw[eU]))
 ·
  have hn:¬ (ss.length<1∨2000<ss.length):=by simp only[Bool.or_eq_false_iff,decide_eq_false_iff_not]at hb1;omega
  refine Za (nx (Zd (ZE tb hJ [1001,1002,1003] [_,_,.int (ss.length:Nat),_] [2] [_,_,_] rfl ⟨ZX Ye,trivial⟩ ?_)))
  refine Zc (lpo (ι:=Nat) (fun k=>(k≤ss.length)∧(∀ j,j<k→fsE ss j=0)) (fun _=>[]) (fun k=>[(18,.int (k:Nat))]) (fun k=>ss.length-k) [0,1,2] [_,_] 0 ⟨nzl,fun j hj=>by omega⟩ ?_)
  rintro k ⟨f1_1,f1_2⟩
  refine qso tb hJ [0,1,2,1000] [_] [_,_,_,_] ?_
  refine cjS 3 (fun hb2=>?_) fun hb2=>?_
  ·
   try simp at hb2
   refine Za (nx (Zd (Zc (tsq (snK 1 tb rfl (sy (.ptr (spC (ge ss k))) (fun h=>ZK (i:=((k:Nat):Int)) ZZ rfl (h.get 1 rfl) (h.get 3 rfl) nnn (ZR (xs:=ss) (k:=k) (by first | omega | (simp;omega) | grind[Zj])) rfl h.x) ?_))))))
   refine snK 1 tb rfl (Z9 Zo3 hJ rfl rfl rfl (lb rfl) fun b1=>?_)
   refine Z9 Zbj hJ rfl rfl rfl (lb rfl) fun b2=>?_
   refine kw pm1 (Y2 (b:=b1) (off:=0) (es:=[_]) hJ hJ0 Zge rfl rfl rfl (lb rfl) rfl (fun a w h=>⟨(h.get 1 rfl),(h.get 4 rfl)⟩) ?_)
   refine kw pm1 (ZD (b:=b2) (off:=0) (es:=[_,_]) (news:=[_,_]) hJ hJ0 Zci rfl rfl rfl (lb rfl) rfl (fun a w h=>⟨(h.get 0 rfl),(h.get 2 rfl)⟩) ?_)
   refine kw pm1 (kw (fun h=>Yn hS h (m:=1) (s:=3) rfl) ?_)
   refine kw (fun h=>Yn hS h (m:=1) (s:=4) rfl) (seK [0,1,5,6,7] [_,_,_,_,_] rfl ?_)
   refine nx (Zd (ZE tb hJ [0,1,2,3,4,1001,1003] [_,_,.int (((ge ss k).args).length:Nat),_] [2] [_,_,_,_,_,_,_] rfl ⟨ZX YV,trivial⟩ ?_))
   refine ln 5 fun hl2=>?_
   refine cj 6 (fun hb3=>?_) fun hb3=>?_
   ·
    try simp at hb3
    have eU:X1 ss=4:=by have e9:=Zsw (ss:=ss) (k:=k) oz;rw[ZdU hn oz f1_2 (by rw[e9];decide),e9]
    refine qso tb hJ [1000] [_] [_] ?_
    exact tRo 0 (hE:=eI (by rw[eU]))
   ·
    try simp at hb3
    refine Za (nx (ZE tb hJ [2,3,4,1003] [_,_,.fn 64 [.ptr [.lit (.int .i64 (((k:Nat):Int)))]],.bool (((ge ss k).args).any (XX (k:Int)))] [2,3] [_,_,_,_] rfl ⟨fun _ _ _ hx hl _=>XV (caps:=[(Go.Operand.tmp 3)]) rfl (Zb (hl.env 1 3 _ rfl rfl) Zk) hx,fun _ _ hk hx hl _=>Y6 (Zeq hJ ((ge ss k).args) 64 [.ptr [.lit (.int .i64 (((k:Nat):Int)))]] [] (XX (k:Int)) (fun q'=>(Ztl hJ q' k).rr) (Zuf)) Zug rfl (Zy hS _ hk hx) (hx.1) ZI (Zb (hl.D 1 28 rfl rfl) (Zb (hl.D 2 29 rfl rfl) Zk)) (jo hJ hx),trivial⟩ ?_))
    refine cj 3 (fun hb4=>?_) fun hb4=>?_
    ·
     have eU:X1 ss=3:=by have e9:=Zsx (ss:=ss) (k:=k) oz (hb4);rw[ZdU hn oz f1_2 (by rw[e9];decide),e9]
     refine qso tb hJ [1000] [_] [_] ?_
     exact tRo 0 (hE:=eI (by rw[eU]))
    ·
     have eF:=fs_ok (ss:=ss) (k:=k) oz hb4
     refine Za (nx (YA tb hJ [0,1,1001] [.int (k+1:Nat),_] [0] [_,_,_] rfl ⟨Yf,trivial⟩ ?_))
     exact YK (k+1) [0,1,2] ⟨oz,ZG f1_2 eF⟩
  ·
   try simp at hb2
   have eU:X1 ss=0:=ZhW hn fun j hj=>f1_2 j oz
   refine Zp (nx (qso tb hJ [1000] [_] [_] ?_))
   exact tRo 0 (hE:=eI (by rw[eU]))
theorem ZpL {J:WP} (hJ:Stab J) (d:Db) (z:Int) (hw:∀ f∈d.frames,f.wide.length*32≤140737488351232) (hG:Zas J):Fn prog J 35 [.agg (dbC d),.int z] (.int (XY d z)):=by
 refine fE Tryz.func35 fun S w0 hS hJ0=>?_
 clear hJ0
 refine hqs tb hJ [1,1000] [.ptr (dbC d),_] [0] [_,_] rfl ⟨iBs hS hJ,trivial⟩ ?_
 refine Zd (hqs tb hJ [0,1,1002] [_,.int (ZbN d),_] [1] [_,_,_] rfl ⟨iFn hS hJ (Ztr hJ d (by exact hw) (by exact hG)) Zuh,trivial⟩ ?_)
 refine qs tb hJ [0,1,2,1001] [_,_] [_,_,_,_] ?_
 refine cj 3 (fun hb1=>?_) fun hb1=>?_
 ·
  try simp at hb1
  have e3:XY d z=ZbN d:=by rw[XY,if_pos (by simpa using hb1)]
  refine qs tb hJ [1001] [_,_] [_] ?_
  exact tRn 0 (hE:=eI (by rw[e3]))
 ·
  try simp at hb1
  refine Za (nx (Zd (hqs tb hJ [1008] [_,_,_,_,_,_,.int (d.frames.length:Nat),_,_] [6] [_] rfl ⟨ZX XS,trivial⟩ ?_)))
  refine cj 0 (fun hb2=>?_) fun hb2=>?_
  ·
   have e3:XY d z=5:=by rw[XY,if_neg (by simpa using hb1),if_pos (by simpa using hb2)]
   refine qs tb hJ [1000] [_] [_] ?_
   exact tRn 0 (hE:=eI (by rw[e3]))
  ·
   have e3:XY d z=0:=by rw[XY,if_neg (by simpa using hb1),if_neg (by simpa using hb2)]
   refine Za (nx (qs tb hJ [1000] [_] [_] ?_))
   exact tRn 0 (hE:=eI (by rw[e3]))
theorem Zgn {J:WP} (hJ:Stab J) (d:Db) (z:Int) (ss:List Stp) (hw:∀ f∈d.frames,f.wide.length*32≤140737488351232) (hG:Zas J):Fn prog J 9 [.agg (dbC d),.int z,.agg (pfC ss)] (.int (Zaq d z ss)):=by
 refine fE Tryz.func9 fun S w0 hS hJ0=>?_
 clear hJ0
 refine hqs tb hJ [1,1000,1001] [.ptr (dbC d),.ptr (pfC ss),_] [0,1] [_,_,_] rfl ⟨iBs hS hJ,iBs hS hJ,trivial⟩ ?_
 refine Zd (hqs tb hJ [2,1003] [_,_,.int (XY d z),_] [2] [_,_] rfl ⟨iFn hS hJ (ZpL hJ d z (by exact hw) (by exact hG)) Zut,trivial⟩ ?_)
 refine qs tb hJ [0,1,1001] [_,_] [_,_,_] ?_
 refine cj 2 (fun hb1=>?_) fun hb1=>?_
 ·
  try simp at hb1
  have eU:Zaq d z ss=XY d z:=if_neg (by simpa using hb1)
  refine qs tb hJ [1001] [_,_] [_] ?_
  exact tRn 0 (hE:=eI (by rw[eU]))
 ·
  try simp at hb1
  have eU:Zaq d z ss=X1 ss:=if_pos (by simpa using hb1)
  refine Za (nx (hqs tb hJ [1002] [_,.int (X1 ss),_] [1] [_] rfl ⟨iFn hS hJ (p_form hJ ss) Zus,trivial⟩ ?_))
  exact tRn 0 (hE:=eI (by rw[eU]))
theorem Ztj {J:WP} (hJ:Stab J) (ss:List Stp) (hok:Okay ss):Fn prog J 61 [.agg (pfC ss)] (.rd (Qx (Xb ss))):=by
 refine fE Tryz.func61 fun S w0 hS hJ0=>?_
 refine tw Z6 ?_
 have hl0:=hok.1
 have hl1:=hok.2.1
 refine ZE tb hJ [1000] [.ptr (pfC ss),_] [0] [_] rfl ⟨iBo hS hJ,trivial⟩ ?_
 refine tsq (snK 2 tb rfl (sy (.int (ss.length:Nat)) (fun h=>Zel Ye rfl (h.get 0 rfl) h.x) ?_))
 refine Zk2 (f:=ZdT) (k:=ss.length) (0:Int) Zlm rfl hJ rfl rfl rfl (lb rfl) (fun a w h=>⟨(h.get 0 rfl),(h.get 0 rfl)⟩) (by first | omega | (simp;omega) | grind[Zj]) (by first | omega | (simp;omega) | grind[Zj]) fun v1=>?_
 refine snK 1 tb rfl (seK [0,3,5] [_,_,_] rfl ?_)
 refine nx (ln 1 fun hl1=>?_)
 refine Zd (ZE tb hJ [0,1001,1002,1003] [_,_,.int (ss.length:Nat),_] [2] [_,_,_,_] rfl ⟨ZX Ye,trivial⟩ ?_)
 refine Zc (lpo (ι:=Nat×Value×(List Int)) (fun(k,_,out)=>(k≤ss.length)∧(out=szF ss k ss.length)) (fun(_,vo,out)=>[OB.row vo 3 1 (out.map ZdT)]) (fun(k,vo,_)=>[(15,.int (k:Nat)),(3,.lit vo)]) (fun(k,_,_)=>ss.length-k) [1,2,3,0] [_,_] (0,v1,List.replicate ss.length (0:Int)) ⟨nzl,rfl⟩ ?_)
 rintro⟨k,vo,out⟩ ⟨f1_1,f1_2⟩
 refine qso tb hJ [0,1,2,3,1000] [_] [_,_,_,_,_] ?_
 refine cjS 4 (fun hb1=>?_) fun hb1=>?_
 ·
  try simp at hb1
  have e5:out.length=ss.length:=by rw[f1_2,Ziq oz]
  refine Za (nx (Zd (Zc (tsq (snK 1 tb rfl (sy (.ptr (spC (ge ss k))) (fun h=>ZK (i:=((k:Nat):Int)) ZZ rfl (h.get 1 rfl) (h.get 3 rfl) nnn (ZR (xs:=ss) (k:=k) (by first | omega | (simp;omega) | grind[Zj])) rfl h.x) ?_))))))
  refine snK 1 tb rfl (Z9 Zbj hJ rfl rfl rfl (lb rfl) fun b2=>?_)
  refine snK 1 tb rfl (ZD (b:=b2) (off:=0) (es:=[_,_]) (news:=[_,_]) hJ hJ0 Zci rfl rfl rfl (lb rfl) rfl (fun a w h=>⟨(h.get 1 rfl),(h.get 2 rfl)⟩) ?_)
  refine kw (fun h=>Yn hS h (m:=1) (s:=5) rfl) (seK [0,1,5,6,7,8] [_,_,_,_,_,_] rfl ?_)
  refine nx (tsq (snK 2 tb rfl (sy (.lit (XG vo (k*1))) (fun h=>YC (i:=((k:Nat):Int)) ZP rfl (Zu h.x (mo 0 rfl)) (h.get 1 rfl) (h.get 0 rfl) nnn (by rw[List.length_map];exact Int.ofNat_lt.2 (by first | omega | (simp;omega) | grind[Zj])) h.x) ?_)))
  refine Zhf (i:=k) hJ hJ0 Zge rfl rfl rfl (by rw[List.length_map];exact(by first | omega | (simp;omega) | grind[Zj])) (fun a w h=>⟨(h.get 0 rfl),(Rel.of_lit (Go.Value.int Go.IntKind.i64 1))⟩) ?_
  rw[show(out.map ZdT).set k [.lit (.int .i64 (1:Int))]=(out.set k (1:Int)).map ZdT from List.map_set.symm]
  refine seK [3,4,5,6,7,8] [_,_,_,_,_,_] rfl (nx (ZE tb hJ [1,2,3,4,5,1001,1002,1003] [_,_,.int (((ge ss k).args).length:Nat),_] [2] [_,_,_,_,_,_,_,_] rfl ⟨ZX YV,trivial⟩ ?_))
  refine ln 5 fun hl2=>?_
  refine Zc (lpo (ι:=Nat×Value×(List Int)) (fun(q,_,ou2)=>(q≤(ge ss k).args.length)∧(ou2=szG ss k ss.length (szP ss k q))) (fun(_,vp,ou2)=>[OB.row vp 3 1 (ou2.map ZdT)]) (fun(q,vp,_)=>[(26,.int (q:Nat)),(3,.lit vp)]) (fun(q,_,_)=>(ge ss k).args.length-q) [0,1,2,3,5,6,7,4] [_,_,_,_,_,_] (0,vo,out.set k (1:Int)) ⟨nzl,by rw[f1_2];rfl⟩ ?_)
  rintro⟨q,vp,ou2⟩ ⟨f2_1,f2_2⟩
  refine qso tb hJ [0,1,2,3,4,5,6,7,1000] [_] [_,_,_,_,_,_,_,_,_] ?_
  refine cjS 8 (fun hb2=>?_) fun hb2=>?_
  ·
   try simp at hb2
   have e4:=Zcq hok (k:=k) (j:=q) oz oz
   have e5:ou2.length=ss.length:=by rw[f2_2,Zip oz]
   have e6:ge ou2 k=szP ss k q:=by rw[f2_2,szG_at oz]
   have e7:ge ou2 (ge (ge ss k).args q).toNat=ge (Yc ss k) (ge (ge ss k).args q).toNat:=by rw[f2_2,ZsU oz oz]
   have e8:=Zhk (ss:=ss) (k:=k) (j:=(ge (ge ss k).args q).toNat) oz
   rw[←e7]at e8
   have e9:=Zha (ss:=ss) (k:=k) (j:=q)
   rw[←e6]at e9
   refine Za (nx (Zd (Zc (ZE tb hJ [0,1,2,3,4,5,6,7,1002] [.ptr [.lit (.int .i64 ((ge ((ge ss k).args) q)))],_,_] [0] [_,_,_,_,_,_,_,_,_] rfl ⟨iIx ZP,trivial⟩ ?_))))
   refine fun a w h=>Xj (γ:=Unit) (fun ix'=>([.lit vp,.int (k:Nat),.lit vp,.int (k:Nat),.lit (XG vp (k*1)),.int (ge ou2 k),.lit vp,.int ((ge ((ge ss k).args) q)),.lit (XG vp ((((ge ((ge ss k).args) q)).toNat)*1)),.int ((ge ou2 (((ge ((ge ss k).args) q)).toNat))),.int ((ge ou2 k)+(ge ou2 (((ge ((ge ss k).args) q)).toNat))),.int ((min (1000000000:Int) ((ge ou2 k)+(ge ou2 (((ge ((ge ss k).args) q)).toNat))))),.lit (XG vp (k*1)),.any]:List AV).getD ix' .any) (fun _=>true) [(4,fun _=>.int (k:Nat)),(13,fun _=>.rd (Zak ss)),(14,fun _=>.int (ss.length:Nat)),(15,fun _=>.int (k:Nat)),(24,fun _=>.rd (Qx ((ge ss k).args))),(25,fun _=>.int (((ge ss k).args).length:Nat)),(26,fun _=>.int (q:Nat)),(3,fun _=>.lit vp)] (fun j' _=>match j' with | 0=>[OB.row vp 3 1 (ou2.map ZdT)] | _=>[OB.row vp 3 1 ((ou2.set k ((min (1000000000:Int) ((ge ou2 k)+(ge ou2 (((ge ((ge ss k).args) q)).toNat)))))).map ZdT)]) (fun _ _=>undef) [13] 0 () (fun _=>rfl) h hJ YZ rfl rfl rfl rfl rfl rfl hsb ⟨?_,?_,?_,?_,?_,?_,?_,?_,?_,?_,?_,?_,?_,?_,trivial⟩ ⟨?e9_1_0,trivial⟩ ⟨.old 0 4 _,.old 1 13 _,.old 2 14 _,.old 3 15 _,.old 4 24 _,.old 5 25 _,.old 6 26 _,.old 7 3 _,trivial⟩ ?n9_1
   exact oX rfl fun hx hl=>Z7 rfl (hl.env 7 3 _ rfl rfl) hx
   exact oX rfl fun hx hl=>Z7 rfl (hl.env 0 4 _ rfl rfl) hx
   exact oX rfl fun hx hl=>Z7 rfl (hl.env 7 3 _ rfl rfl) hx
   exact oX rfl fun hx hl=>Z7 rfl (hl.env 0 4 _ rfl rfl) hx
   exact fun _ O' hO'=>⟨rfl,fun _ _ _ hx hl _=>YC (i:=((k:Nat):Int)) ZP rfl (Zu hx (hO' _ (mo 0 rfl))) (hl.D 2 32 rfl rfl) (hl.D 3 33 rfl rfl) nnn (by rw[List.length_map];exact Int.ofNat_lt.2 (by first | omega | (simp;omega) | grind[Zj])) hx⟩
   exact fun _ O' hO'=>⟨rfl,fun _ _ _ hx hl _=>XU (i:=k) ZiF rfl (Zu hx (hO' _ (mo 0 rfl))) (hl.D 4 34 rfl rfl) (QJ (xs:=ou2) (k:=k) (by first | omega | (simp;omega) | grind[Zj])) hx⟩
   exact oX rfl fun hx hl=>Z7 rfl (hl.env 7 3 _ rfl rfl) hx
   exact oX rfl fun hx hl=>Z7 rfl (hl.env 8 7 _ rfl rfl) hx
   exact fun _ O' hO'=>⟨rfl,fun _ _ _ hx hl _=>YC (i:=(ge ((ge ss k).args) q)) ZP rfl (Zu hx (hO' _ (mo 0 rfl))) (hl.D 6 36 rfl rfl) (hl.D 7 37 rfl rfl) (by first | omega | (simp;omega) | grind[Zj]) (by rw[List.length_map];exact(by first | omega | (simp;omega) | grind[Zj])) hx⟩
   exact fun _ O' hO'=>⟨rfl,fun _ _ _ hx hl _=>XU (i:=((ge ((ge ss k).args) q)).toNat) ZiF rfl (Zu hx (hO' _ (mo 0 rfl))) (hl.D 8 38 rfl rfl) (QJ (xs:=ou2) (k:=((ge ((ge ss k).args) q)).toNat) (by first | omega | (simp;omega) | grind[Zj])) hx⟩
   exact oX rfl fun hx hl=>ZpD (i:=(ge ou2 k)) (j:=(ge ou2 (((ge ((ge ss k).args) q)).toNat))) rfl (hl.D 5 35 rfl rfl) (hl.D 9 39 rfl rfl) (by first | omega | (simp;omega) | grind[Zj]) (by first | omega | (simp;omega) | grind[Zj]) hx
   exact fun _ O' _=>⟨rfl,fun _ w _ hx hl _=>r_min rfl (Rel.of_lit (S:=fun _=>True) (w:=w) (Go.Value.int Go.IntKind.i64 1000000000)) (hl.D 10 40 rfl rfl) hx⟩
   exact fun _ O' hO'=>⟨rfl,fun _ _ _ hx hl _=>YC (i:=((k:Nat):Int)) ZP rfl (Zu hx (hO' _ (mo 0 rfl))) (hl.D 0 30 rfl rfl) (hl.D 1 31 rfl rfl) nnn (by rw[List.length_map];exact Int.ofNat_lt.2 (by first | omega | (simp;omega) | grind[Zj])) hx⟩
   exact Zr rfl
   case e9_1_0=>exact⟨_,rfl,rfl,rfl,rfl,fun g _ w hk hx hl _=>ZC (Zi1 (f:=ZdT) (i:=k) ((min (1000000000:Int) ((ge ou2 k)+(ge ou2 (((ge ((ge ss k).args) q)).toNat))))) rfl hJ hJ0 Zge rfl hk hx (hl.D 12 42 rfl rfl) (hl.D 11 41 rfl rfl) (by first | omega | (simp;omega) | grind[Zj])) fun v w' hp=>⟨g,rfl,fun _ _=>rfl,fun e=>(by cases e),hp⟩⟩
   clear a w h
   intro _
   dsimp only[List.map]
   refine nx (YA tb hJ [0,1,2,3,4,5,7,1001] [.int (q+1:Nat),_] [0] [_,_,_,_,_,_,_,_] rfl ⟨Yf,trivial⟩ ?_)
   exact YK (q+1,vp,ou2.set k ((min (1000000000:Int) ((ge ou2 k)+(ge ou2 (((ge ((ge ss k).args) q)).toNat)))))) [0,1,2,3,4,5,7,6] ⟨oz,by rw[e6,e7,←ZjB oz,f2_2,ZsT]⟩
  ·
   try simp at hb2
   refine Zp (nx (YA tb hJ [1,2,7,1001] [.int (k+1:Nat),_] [0] [_,_,_,_] rfl ⟨Yf,trivial⟩ ?_))
   exact YK (k+1,vp,ou2) [0,1,3,2] ⟨oz,by rw[f2_2,show q=(ge ss k).args.length by omega,Zpc oz oz]⟩
 ·
  try simp at hb1
  refine Zp (nx (qso tb hJ [1001] [_,_] [_] ?_))
  exact tw (fun h=>ZF hS h (m:=0) (s:=2) rfl) (tRo 0 (hE:=congrArg (fun z=>AV.rd (Qx z)) (show out=(Xb ss)from by rw[f1_2,show k=ss.length by omega,ZsW];rfl)))
theorem ZoD:Zf4 prog 69 [.string ⟨#[]⟩,.slice none 0 0]:=⟨fun i=>(#[(0,1),(1,1)]:Array (Nat×Nat))[i]?,fun j hj=>by rcases j with _ | _ | j<;>first | rfl | (simp at hj;omega) | simp at hj,fun parts=>by kernel_rfl⟩
theorem Zm8:QA prog 111:=fun w=>by kernel_rfl
theorem Zoo:Zl prog 67:=Zt Tryz.func67 rfl rfl
theorem Zmu:Qd prog 67 1:=fun w=>by kernel_rfl
theorem Zmy:Qd prog 26 1:=fun w=>by kernel_rfl
theorem Zui:Zl prog 61:=Zt Tryz.func61 rfl rfl
theorem ZkU:Zjp prog 111 [.lit .nilFunc]:=⟨(.nilFunc),fun w=>by kernel_rfl,fun S w=>(show RdL S w [.lit .nilFunc] [.nilFunc]from⟨.lit _ True.intro,trivial⟩)⟩
theorem Zk4:Qd prog 111 1:=fun w=>by kernel_rfl
theorem Zol:Zl prog 9:=Zt Tryz.func9 rfl rfl
theorem Zuq:Zl prog 39:=Zt Tryz.func39 rfl rfl
theorem Zo0:ZsJ prog 69 2:=⟨(#[.string ⟨#[]⟩,.slice none 0 0]),rfl,by kernel_rfl⟩
theorem ZpI {J:WP} (hJ:Stab J) (bp bw bo:Nat) (ss:List Stp) (z:Int) (vo:Value) (xs:List Stp) (hok:Okay ss) (hz:0≤z) (hz1:z< (ss.length:Int)) (hb:xs.length+tsize (treeAt ss z.toNat)≤100000) (ih:∀(z':Int) (vo':Value) (xs':List Stp),z'<z→0≤z'→xs'.length+tsize (treeAt ss z'.toNat)≤100000→FnM (ι:=Value) prog J 67 [] [.int (z'),.at bp 0,.at bw 0,.at bo 0] [OB.var bo [.lit (vo')],OB.row vo' 69 2 ((xs').map spC),OB.var bp [Zak ss],OB.var bw [.lit (.func (.func 67) #[] #[.pointer (some ⟨bp,0,none⟩),.pointer (some ⟨bw,0,none⟩),.pointer (some ⟨bo,0,none⟩)])]] (fun _=>.int (((xs'.length+tsize (treeAt ss z'.toNat):Nat):Int)-1)) (fun i'=>[OB.var bo [.lit (i')],OB.row i' 69 2 ((xs'++flat (treeAt ss z'.toNat) xs'.length).map spC),OB.var bp [Zak ss],OB.var bw [.lit (.func (.func 67) #[] #[.pointer (some ⟨bp,0,none⟩),.pointer (some ⟨bw,0,none⟩),.pointer (some ⟨bo,0,none⟩)])]])):FnM (ι:=Value) prog J 67 [] [.int z,.at bp 0,.at bw 0,.at bo 0] [OB.var bo [.lit vo],OB.row vo 69 2 (xs.map spC),OB.var bp [Zak ss],OB.var bw [.lit (.func (.func 67) #[] #[.pointer (some ⟨bp,0,none⟩),.pointer (some ⟨bw,0,none⟩),.pointer (some ⟨bo,0,none⟩)])]] (fun _=>.int (((xs.length+tsize (treeAt ss z.toNat):Nat):Int)-1)) (fun i'=>[OB.var bo [.lit (i')],OB.row i' 69 2 ((xs++flat (treeAt ss z.toNat) xs.length).map spC),OB.var bp [Zak ss],OB.var bw [.lit (.func (.func 67) #[] #[.pointer (some ⟨bp,0,none⟩),.pointer (some ⟨bw,0,none⟩),.pointer (some ⟨bo,0,none⟩)])]]):=by
 refine fEM Tryz.func67 fun S w0 R hS hJ0 hH=>?_
 refine Xq (B:=So J S w0 46 (OB.var bo [.lit vo]::OB.row vo 69 2 (xs.map spC)::OB.var bp [Zak ss]::OB.var bw [.lit (.func (.func 67) #[] #[.pointer (some ⟨bp,0,none⟩),.pointer (some ⟨bw,0,none⟩),.pointer (some ⟨bo,0,none⟩)])]::R) [(0,.int z),(1,.at bp 0),(2,.at bw 0),(3,.at bo 0)]) ?_ fun a w h=>h
 have hi:z.toNat<ss.length:=by omega
 have hf:=Zj2 hok hi
 obtain⟨et,ef⟩:=Zmf (m:=xs.length) hok hi
 refine qso tb hJ [0,1,2,3] [_] [_,_,_,_] ?_
 refine tsq (sy (.at bp 0) (fun h=>ZV Qj rfl (h.get 1 rfl) h.x) ?_)
 refine sy (.rd (Zak ss)) (fun h=>Yd ZfH rfl (Zu h.x (mo 2 rfl)) (h.get 0 rfl) rfl h.x) ?_
 refine snK 1 tb rfl (sy (.ptr (spC (ge ss z.toNat))) (fun h=>ZK (i:=z) ZZ rfl (h.get 1 rfl) (h.get 0 rfl) (by first | omega | (simp;omega) | grind[Zj]) (Zei (xs:=ss) (i:=z) (by first | omega | (simp;omega) | grind[Zj]) (by first | omega | (simp;omega) | grind[Zj])) rfl h.x) ?_)
 refine snK 2 tb rfl (sq (.agg [.lit (.string ((ge ss z.toNat).label)),.lit (.slice none 0 0)]) rfl rfl (lb rfl) (fun a _ h=>XL (ps:=[(0,a.eval (Go.Operand.tmp 14))]) (us:=[a.eval (Go.Operand.tmp 14),.slice none 0 0]) ZoD rfl yz (all1 (lb rfl) (Rel.oneC (h.get 0 rfl)) ZlV) rfl (ZJ (h.get 0 rfl) (Q0 (.lit _ True.intro) Yp)) h.x) ?_)
 refine Z9 Zbj hJ rfl rfl rfl (lb rfl) fun b1=>?_
 refine ZD (b:=b1) (off:=0) (es:=[_,_]) (news:=[_,_]) hJ hJ0 Zci rfl rfl rfl (lb rfl) rfl (fun a w h=>⟨(h.get 0 rfl),(h.get 1 rfl)⟩) ?_
 refine seK [0,6,8,9,10,11] [_,_,_,_,_,_] rfl (nx (ln 1 fun hl1=>?_))
 refine Zd (tw (YJ 3 1 hJ) (ZE tb hJ [0,4,5,1005,1006,1007] [.at bp 0,.rd (Zak ss),_,.ptr (spC (ge ss z.toNat)),_,_,.int (((ge ss z.toNat).args).length:Nat),_] [0,1,3,6] [_,_,_,_,_,_] rfl ⟨fun _ _ _ hx hl _=>ZV Qj rfl (hl.env 3 1 _ rfl rfl) hx,fun _ _ _ hx hl _=>Yd ZfH rfl (Zu hx (mo 4 rfl)) (hl.D 0 16 rfl rfl) rfl hx,iIz ZZ,ZX YV,trivial⟩ ?_))
 refine ln 3 fun hl2=>?_
 refine Zc (lpo (ι:=Nat×(List Stp)×(List Int)×Value×Value) (fun(q,ys,nums,_,_)=>(q≤(ge ss z.toNat).args.length)∧(ys=xs++(flK ss z.toNat q xs.length).1)∧(nums=(flK ss z.toNat q xs.length).2)) (fun(_,ys,nums,wo,wa)=>(OB.row wa 3 1 (nums.map ZdT)::OB.var b1 [.lit (.string ((ge ss z.toNat).label)),.lit wa]::OB.var bo [.lit wo]::OB.row wo 69 2 (ys.map spC)::OB.var bp [Zak ss]::OB.var bw [.lit (.func (.func 67) #[] #[.pointer (some ⟨bp,0,none⟩),.pointer (some ⟨bw,0,none⟩),.pointer (some ⟨bo,0,none⟩)])]::R)) (fun(q,_,_,_,_)=>[(23,.int (q:Nat))]) (fun(q,_,_,_,_)=>(ge ss z.toNat).args.length-q) [0,1,2,3,4,5] [_,_,_,_,_] (0,xs,[],vo,(.slice none 0 0)) ⟨nzl,by rw[ZdV,List.append_nil],by rw[ZdV]⟩ ?_)
 rintro⟨q,ys,nums,wo,wa⟩ ⟨f1_1,f1_2,f1_3⟩
 refine qso tb hJ [0,1,2,3,4,5,1000] [_] [_,_,_,_,_,_,_] ?_
 refine cjS 6 (fun hb1=>?_) fun hb1=>?_
 ·
  try simp at hb1
  have e4:=Zcq hok hi (j:=q) oz
  have e5:=Zjx (ss:=ss) (i:=z.toNat) (j:=q) oz
  have e6:=Zsa (ss:=ss) (i:=z.toNat) (j:=q+1)
  have e7:ys.length=xs.length+tzK ss z.toNat q:=by rw[f1_2,List.length_append,Zgx]
  have e8:=Zkk (ss:=ss) (i:=z.toNat) (j:=q) (m:=xs.length) oz
  have e9:nums.length=q:=by rw[f1_3,ZnX oz]
  refine Za (nx (Zd (Zc (ZE tb hJ [0,1,2,3,4,5,1002] [.ptr [.lit (.int .i64 ((ge ((ge ss z.toNat).args) q)))],_,_] [0] [_,_,_,_,_,_,_] rfl ⟨iIx ZP,trivial⟩ ?_))))
  refine tw pm1 (tw pm5 ?_)
  refine tw pm5 (tw pm5 ?_)
  refine tw pm5 (fun a w h=>Zpr [OB.var bw [.lit (.func (.func 67) #[] #[.pointer (some ⟨bp,0,none⟩),.pointer (some ⟨bw,0,none⟩),.pointer (some ⟨bo,0,none⟩)])]] (γ:=Value×Value) (fun ix'=>([.at b1 1,.any,.lit (.func (.func 67) #[] #[.pointer (some ⟨bp,0,none⟩),.pointer (some ⟨bw,0,none⟩),.pointer (some ⟨bo,0,none⟩)]),.int ((ge ((ge ss z.toNat).args) q)),.int (((ys.length+tsize (treeAt ss ((ge ((ge ss z.toNat).args) q)).toNat):Nat):Int)-1),.rd (Qx ([((ys.length+tsize (treeAt ss ((ge ((ge ss z.toNat).args) q)).toNat):Nat):Int)-1])),.any,.at b1 1,.any]:List AV).getD ix' .any) (fun _=>true) [(6,fun _=>.at b1 0),(2,fun _=>.at bw 0),(3,fun _=>.at bo 0),(21,fun _=>.rd (Qx ((ge ss z.toNat).args))),(22,fun _=>.int (((ge ss z.toNat).args).length:Nat)),(23,fun _=>.int (q:Nat))] (fun(D:Nat→Bool) (g:Value×Value)=>(if D 1 then [OB.var bo [.lit g.1],OB.row g.1 69 2 ((ys++flat (treeAt ss ((ge ((ge ss z.toNat).args) q)).toNat) ys.length).map spC),OB.var bp [Zak ss],OB.var bw [.lit (.func (.func 67) #[] #[.pointer (some ⟨bp,0,none⟩),.pointer (some ⟨bw,0,none⟩),.pointer (some ⟨bo,0,none⟩)])]]else [OB.var bo [.lit wo],OB.row wo 69 2 (ys.map spC),OB.var bp [Zak ss],OB.var bw [.lit (.func (.func 67) #[] #[.pointer (some ⟨bp,0,none⟩),.pointer (some ⟨bw,0,none⟩),.pointer (some ⟨bo,0,none⟩)])]])++((if D 3 then [OB.var b1 [.lit (.string ((ge ss z.toNat).label)),.lit g.2]]else [OB.var b1 [.lit (.string ((ge ss z.toNat).label)),.lit wa]])++((if D 2 then [OB.row g.2 3 1 ((nums++[((ys.length+tsize (treeAt ss ((ge ((ge ss z.toNat).args) q)).toNat):Nat):Int)-1]).map ZdT)]else [OB.row wa 3 1 (nums.map ZdT)])++R))) (fun k' g=>match k' with | 0=>wa | 1=>.int .i64 (((ys.length+tsize (treeAt ss ((ge ((ge ss z.toNat).args) q)).toNat):Nat):Int)-1) | 2=>g.2 | _=>undef) [1,4,6,8] (undef,undef) (fun _=>rfl) h hJ YZ rfl rfl rfl rfl (fun D g p hp=>by rcases List.mem_singleton.1 hp with rfl;cases D 1<;>simp) ⟨?_,?_,?_,?_,?_,?_,?_,?_,?_,trivial⟩ ⟨?e0,?e1,?e2,?e3,trivial⟩ ⟨.old 0 6 _,.old 1 2 _,.old 2 3 _,.old 3 21 _,.old 4 22 _,.old 5 23 _,trivial⟩ ?n1)
  exact oX rfl fun hx hl=>ZV Zc7 rfl (hl.env 0 6 _ rfl rfl) hx
  exact Zr rfl
  exact fun _ O' hO'=>⟨rfl,fun _ _ _ hx hl _=>Yd Zm8 rfl (Zu hx (hO' _ (mo 0 rfl))) (hl.env 1 2 _ rfl rfl) rfl hx⟩
  exact oX rfl fun hx hl=>Z7 rfl (hl.env 6 8 _ rfl rfl) hx
  exact Zr rfl
  exact oY rfl fun hk hx hl=>Yw ZP ZlY rfl (hl.D 4 31 rfl rfl) (Zy hS _ hk hx _ nlr) (jo hJ hx)
  exact Zr rfl
  exact oX rfl fun hx hl=>ZV Zc7 rfl (hl.env 0 6 _ rfl rfl) hx
  exact Zr rfl
  case e0=>
   refine⟨_,rfl,rfl,rfl,fun D g a w hD hpre hcl hk hx hl hs=>?_⟩
   have d0:=hD
   have d2:D 2=false:=by cases hq:D 2 with | false=>rfl | true=>exact absurd (hcl 2 0 6 1 rfl rfl hq dz) (by simp[d0])
   have d3:D 3=false:=by cases hq:D 3 with | false=>rfl | true=>exact absurd (hcl 3 0 8 1 rfl rfl hq dz) (by simp[d0])
   rcases(Bool.eq_false_or_eq_true (D 1)).symm with d1 | d1
   ·
    simp only[ZlS,d1,d2,d3,if_false,Bool.false_eq_true,List.nil_append,Nat.reduceEqDiff,List.cons_append]at hx hl ⊢
    exact ZC (Yd Zm6 rfl (Zu hx (mo 4 rfl)) (hl.D 0 27 rfl rfl) rfl hx) fun v w' hp=>⟨g,fun _ _=>rfl,fun _=>hp.1.lit,by simp only[List.getD_eq_getElem?_getD,List.getElem?_cons_succ,List.getElem?_cons_zero,Option.getD_some,Rel],Zhd hJ hk hx hp.2.1⟩
   ·
    simp only[ZlS,d1,d2,d3,if_true,if_false,Bool.false_eq_true,List.nil_append,Nat.reduceEqDiff,List.cons_append]at hx hl ⊢
    exact ZC (Yd Zm6 rfl (Zu hx (mo 4 rfl)) (hl.D 0 27 rfl rfl) rfl hx) fun v w' hp=>⟨g,fun _ _=>rfl,fun _=>hp.1.lit,by simp only[List.getD_eq_getElem?_getD,List.getElem?_cons_succ,List.getElem?_cons_zero,Option.getD_some,Rel],Zhd hJ hk hx hp.2.1⟩
  case e1=>
   refine⟨_,rfl,rfl,rfl,fun D g a w hD hpre hcl hk hx hl hs=>?_⟩
   have d1:=hD
   have d2:D 2=false:=by cases hq:D 2 with | false=>rfl | true=>exact absurd (hcl 2 1 6 4 rfl rfl hq dz) (by simp[d1])
   have d3:D 3=false:=by cases hq:D 3 with | false=>rfl | true=>exact absurd (hcl 3 1 8 4 rfl rfl hq dz) (by simp[d1])
   simp only[ZlS,d1,d2,d3,if_false,Bool.false_eq_true,List.nil_append,Nat.reduceEqDiff,List.cons_append]at hx hl ⊢
   exact ZC (ZtX (O:=[OB.var bo [.lit wo],OB.row wo 69 2 (ys.map spC),OB.var bp [Zak ss],OB.var bw [.lit (.func (.func 67) #[] #[.pointer (some ⟨bp,0,none⟩),.pointer (some ⟨bw,0,none⟩),.pointer (some ⟨bo,0,none⟩)])]]) (R:=(OB.var b1 [.lit (.string ((ge ss z.toNat).label)),.lit wa]::OB.row wa 3 1 (nums.map ZdT)::R)) (avs:=[.int ((ge ((ge ss z.toNat).args) q))]) (avc:=[.at bp 0,.at bw 0,.at bo 0]) (cap:=[.pointer (some ⟨bp,0,none⟩),.pointer (some ⟨bw,0,none⟩),.pointer (some ⟨bo,0,none⟩)]) (args:=[(Go.Operand.tmp 30)]) (ih (z':=(ge ((ge ss z.toNat).args) q)) (vo':=wo) (xs':=ys) oz e4.1 oz) Zoo rfl hS hJ0 hH hk hx (hl.D 2 29 rfl rfl).lit (Zb (hl.D 3 30 rfl rfl) Zk) (Zb (Rel.of_lit _) (Zb (Rel.of_lit _) (Zb (Rel.of_lit _) Zk)))) fun v w' ⟨i,hp,hv⟩=>⟨(i,g.2),(fun k' hk'=>by rcases k' with _ | _ | _ | k'<;>first | rfl | simp_all),fun _=>hv.lit,hv,hp⟩
  case e2=>
   refine⟨_,rfl,rfl,rfl,fun D g a w hD hpre hcl hk hx hl hs=>?_⟩
   have d2:=hD
   have d1:D 1=true:=hpre 1 4 rfl dz
   have d0:D 0=true:=hpre 0 1 rfl dz
   have d3:D 3=false:=by cases hq:D 3 with | false=>rfl | true=>exact absurd (hcl 3 2 8 6 rfl rfl hq dz) (by simp[d2])
   simp only[ZlS,d1,d2,d3,if_true,if_false,Bool.false_eq_true,List.nil_append,Nat.reduceEqDiff,List.cons_append]at hx hl ⊢
   exact ZC (Zac (f:=ZdT) nums [((ys.length+tsize (treeAt ss ((ge ((ge ss z.toNat).args) q)).toNat):Nat):Int)-1] (fun _=>rfl) ZgT hJ hJ0 rfl hk (Y1 (Qi (A:=[OB.var bo [.lit g.1],OB.row g.1 69 2 ((ys++flat (treeAt ss ((ge ((ge ss z.toNat).args) q)).toNat) ys.length).map spC),OB.var bp [Zak ss],OB.var bw [.lit (.func (.func 67) #[] #[.pointer (some ⟨bp,0,none⟩),.pointer (some ⟨bw,0,none⟩),.pointer (some ⟨bo,0,none⟩)])],OB.var b1 [.lit (.string ((ge ss z.toNat).label)),.lit wa]])) hx) (hs 0 1 _ 28 d0 rfl rfl rfl) ((hl.D 5 32 rfl rfl).sub fun _ _ hs=>hs.perm (Qi (A:=[OB.var bo [.lit g.1],OB.row g.1 69 2 ((ys++flat (treeAt ss ((ge ((ge ss z.toNat).args) q)).toNat) ys.length).map spC),OB.var bp [Zak ss],OB.var bw [.lit (.func (.func 67) #[] #[.pointer (some ⟨bp,0,none⟩),.pointer (some ⟨bw,0,none⟩),.pointer (some ⟨bo,0,none⟩)])],OB.var b1 [.lit (.string ((ge ss z.toNat).label)),.lit wa]]))) (by simp;omega) (by simp;omega)) fun v w' hp=>⟨(g.1,v),(fun k' hk'=>by rcases k' with _ | _ | _ | k'<;>first | rfl | simp_all),fun _=>rfl,by simp only[List.getD_eq_getElem?_getD,List.getElem?_cons_succ,List.getElem?_cons_zero,Option.getD_some,Rel],Zhc (Qi (A:=[OB.var bo [.lit g.1],OB.row g.1 69 2 ((ys++flat (treeAt ss ((ge ((ge ss z.toNat).args) q)).toNat) ys.length).map spC),OB.var bp [Zak ss],OB.var bw [.lit (.func (.func 67) #[] #[.pointer (some ⟨bp,0,none⟩),.pointer (some ⟨bw,0,none⟩),.pointer (some ⟨bo,0,none⟩)])],OB.var b1 [.lit (.string ((ge ss z.toNat).label)),.lit wa]])).symm (Qi (A:=[OB.var bo [.lit g.1],OB.row g.1 69 2 ((ys++flat (treeAt ss ((ge ((ge ss z.toNat).args) q)).toNat) ys.length).map spC),OB.var bp [Zak ss],OB.var bw [.lit (.func (.func 67) #[] #[.pointer (some ⟨bp,0,none⟩),.pointer (some ⟨bw,0,none⟩),.pointer (some ⟨bo,0,none⟩)])],OB.var b1 [.lit (.string ((ge ss z.toNat).label)),.lit wa]])).symm hp⟩
  case e3=>
   refine⟨_,rfl,rfl,rfl,fun D g a w hD hpre hcl hk hx hl hs=>?_⟩
   have d3:=hD
   have d2:D 2=true:=hpre 2 6 rfl dz
   have d1:D 1=true:=hpre 1 4 rfl dz
   have d0:D 0=true:=hpre 0 1 rfl dz
   simp only[ZlS,d1,d2,d3,if_true,if_false,Bool.false_eq_true,List.nil_append,Nat.reduceEqDiff,List.cons_append]at hx hl ⊢
   exact ZC (ZqA (off:=1) (es:=[_,_]) (c:=.lit g.2) hJ hJ0 Zmu rfl hk (Y1 (Qi (A:=[OB.var bo [.lit g.1],OB.row g.1 69 2 ((ys++flat (treeAt ss ((ge ((ge ss z.toNat).args) q)).toNat) ys.length).map spC),OB.var bp [Zak ss],OB.var bw [.lit (.func (.func 67) #[] #[.pointer (some ⟨bp,0,none⟩),.pointer (some ⟨bw,0,none⟩),.pointer (some ⟨bo,0,none⟩)])]])) hx) (hl.D 7 34 rfl rfl) (by rw[hs 2 6 _ 33 d2 rfl rfl rfl];exact Rel.of_lit _ (Zax (hx.2.1 _ (mo 5 rfl)))) (lb rfl) rfl) fun v w' hp=>⟨g,fun _ _=>rfl,fun e=>(by cases e),by simp only[List.getD_eq_getElem?_getD,List.getElem?_cons_succ,List.getElem?_cons_zero,Option.getD_some,Rel],Zhc (Qi (A:=[OB.var bo [.lit g.1],OB.row g.1 69 2 ((ys++flat (treeAt ss ((ge ((ge ss z.toNat).args) q)).toNat) ys.length).map spC),OB.var bp [Zak ss],OB.var bw [.lit (.func (.func 67) #[] #[.pointer (some ⟨bp,0,none⟩),.pointer (some ⟨bw,0,none⟩),.pointer (some ⟨bo,0,none⟩)])]])).symm (Qi (A:=[OB.var bo [.lit g.1],OB.row g.1 69 2 ((ys++flat (treeAt ss ((ge ((ge ss z.toNat).args) q)).toNat) ys.length).map spC),OB.var bp [Zak ss],OB.var bw [.lit (.func (.func 67) #[] #[.pointer (some ⟨bp,0,none⟩),.pointer (some ⟨bw,0,none⟩),.pointer (some ⟨bo,0,none⟩)])]])).symm hp⟩
  clear a w h
  rintro⟨z2,z3⟩
  dsimp only[List.map]
  refine nx (YA tb hJ [0,1,2,3,4,1001] [.int (q+1:Nat),_] [0] [_,_,_,_,_,_] rfl ⟨Yf,trivial⟩ ?_)
  refine kw pm3 (kw pm3 ?_)
  refine kw pm3 (kw pm3 ?_)
  refine kw pm4 (kw pm5 ?_)
  exact YK (q+1,ys++flat (treeAt ss ((ge ((ge ss z.toNat).args) q)).toNat) ys.length,nums++[((ys.length+tsize (treeAt ss ((ge ((ge ss z.toNat).args) q)).toNat):Nat):Int)-1],z2,z3) [0,1,2,3,4,5] ⟨oz,by rw[e8,f1_2,←List.append_assoc,←f1_2,e7],by rw[e8,←f1_3,e7]⟩
 ·
  try simp at hb1
  have e1:q=(ge ss z.toNat).args.length:=by omega
  have e7:ys.length=xs.length+tzK ss z.toNat q:=by rw[f1_2,List.length_append,Zgx]
  subst e1
  refine Zp (nx (tw pm1 (tw pm1 ?_)))
  refine tw (fun h=>Zaw (j:=1) (cs':=[.lit (.string ((ge ss z.toNat).label)),Qx nums]) hS rfl rfl h) (tsq ?_)
  refine sy (.at bo 0) (fun h=>ZV Qj rfl (h.get 2 rfl) h.x) ?_
  refine sy (.lit wo) (fun h=>Yd ZfH rfl (Zu h.x (mo 1 rfl)) (h.get 0 rfl) rfl h.x) ?_
  refine sy (.agg (spC ((⟨(ge ss z.toNat).label,nums⟩:Stp)))) (fun h=>Q5 (ds:=[.lit (.string ((ge ss z.toNat).label)),Qx nums]) Zr4 rfl (Zu h.x (mo 0 rfl)) (h.get 2 rfl) rfl rfl h.x) ?_
  refine sy (.rd (Zak ([(⟨(ge ss z.toNat).label,nums⟩:Stp)]))) (fun h=>QL ZZ ZlX dz rfl rfl (h.get 0 rfl) (Zy hS _ h.keep h.x _ nlr) (jo hJ h.x)) ?_
  refine kw pm2 (Z2 (f:=spC) (m:=2) (s:=37) ys ([(⟨(ge ss z.toNat).label,nums⟩:Stp)]) (fun _=>rfl) Zih hJ hJ0 rfl rfl rfl (lb rfl) rfl rfl (fun a w h=>(h.get 0 rfl)) (by simp;omega) (by simp;omega) fun v4=>?_)
  refine sy (.at bo 0) (fun h=>ZV Qj rfl (h.get 7 rfl) h.x) ?_
  refine kw pm2 (Y2 (b:=bo) (off:=0) (es:=[_]) hJ hJ0 Zmy rfl rfl rfl (lb rfl) rfl (fun a w h=>⟨(h.get 0 rfl),(h.get 1 rfl)⟩) ?_)
  refine seK [2,8] [_,_] rfl (nx (ln 0 fun hl3=>?_))
  refine ZE tb hJ [1004] [.at bo 0,.lit v4,.int ((ys++([(⟨(ge ss z.toNat).label,nums⟩:Stp)])).length:Nat),.int ((((ys++([(⟨(ge ss z.toNat).label,nums⟩:Stp)])).length:Nat):Int)-(1:Int)),_] [0,1,2,3] [_] rfl ⟨fun _ _ _ hx hl _=>ZV Qj rfl (hl.env 1 3 _ rfl rfl) hx,fun _ _ _ hx hl _=>Yd ZfH rfl (Zu hx (mo 0 rfl)) (hl.D 0 42 rfl rfl) rfl hx,fun _ _ _ hx hl _=>Zbq (by rw[List.length_map]) Ye rfl (Zu hx (mo 1 rfl)) (hl.D 1 43 rfl rfl) hx,ZuY,trivial⟩ ?_
  refine tw pm2 (tw YB ?_)
  exact tw (ob1 (congrArg (fun z'=>OB.row v4 69 2 ((z').map spC)) (show(ys++([(⟨(ge ss z.toNat).label,nums⟩:Stp)]))=((xs++flat (treeAt ss z.toNat) xs.length))from by rw[ef,←List.append_assoc,←f1_2,f1_3]))) (ZB (fun a w h=>Yl  (m:=0) v4 rfl h rfl (eI (by simp;omega))))
theorem Zth {J:WP} (hJ:Stab J) (bp bw bo:Nat) (ss:List Stp) (hok:Okay ss):∀(m:Nat) (z':Int) (vo':Value) (xs':List Stp),z'.toNat=m→0≤z'→z'< (ss.length:Int)→xs'.length+tsize (treeAt ss z'.toNat)≤100000→FnM (ι:=Value) prog J 67 [] [.int (z'),.at bp 0,.at bw 0,.at bo 0] [OB.var bo [.lit (vo')],OB.row vo' 69 2 ((xs').map spC),OB.var bp [Zak ss],OB.var bw [.lit (.func (.func 67) #[] #[.pointer (some ⟨bp,0,none⟩),.pointer (some ⟨bw,0,none⟩),.pointer (some ⟨bo,0,none⟩)])]] (fun _=>.int (((xs'.length+tsize (treeAt ss z'.toNat):Nat):Int)-1)) (fun i'=>[OB.var bo [.lit (i')],OB.row i' 69 2 ((xs'++flat (treeAt ss z'.toNat) xs'.length).map spC),OB.var bp [Zak ss],OB.var bw [.lit (.func (.func 67) #[] #[.pointer (some ⟨bp,0,none⟩),.pointer (some ⟨bw,0,none⟩),.pointer (some ⟨bo,0,none⟩)])]]):=by
 intro m
 induction m using Nat.strongRecOn with
 | ind m ih=>
  intro z u xs hm h0 h1 hb
  exact ZpI hJ bp bw bo ss z u xs hok h0 h1 hb fun z' u' xs' hlt h0' hb'=>ih z'.toNat oz z' u' xs' rfl h0' oz hb'
theorem ZpH {J:WP} (hJ:Stab J) (bp bw bo:Nat) (ss:List Stp) (z':Int) (vo':Value) (xs':List Stp) (hok:Okay ss) (h0:0≤z') (h1:z'< (ss.length:Int)) (hb:xs'.length+tsize (treeAt ss z'.toNat)≤100000):FnM (ι:=Value) prog J 67 [] [.int (z'),.at bp 0,.at bw 0,.at bo 0] [OB.var bo [.lit (vo')],OB.row vo' 69 2 ((xs').map spC),OB.var bp [Zak ss],OB.var bw [.lit (.func (.func 67) #[] #[.pointer (some ⟨bp,0,none⟩),.pointer (some ⟨bw,0,none⟩),.pointer (some ⟨bo,0,none⟩)])]] (fun _=>.int (((xs'.length+tsize (treeAt ss z'.toNat):Nat):Int)-1)) (fun i'=>[OB.var bo [.lit (i')],OB.row i' 69 2 ((xs'++flat (treeAt ss z'.toNat) xs'.length).map spC),OB.var bp [Zak ss],OB.var bw [.lit (.func (.func 67) #[] #[.pointer (some ⟨bp,0,none⟩),.pointer (some ⟨bw,0,none⟩),.pointer (some ⟨bo,0,none⟩)])]]):=Zth hJ bp bw bo ss hok _ z' vo' xs' rfl h0 h1 hb
theorem ZpP {J:WP} (hJ:Stab J) (ss:List Stp) (most:Int) (hok:Okay ss) (hm0:1≤most) (hm1:most≤2000):Fn prog J 39 [.agg (pfC ss),.int most] (.tup [.agg (pfC (if Zby ss most=0 then ZL ss else [])),.int (Zby ss most)]):=by
 refine fE Tryz.func39 fun S w0 hS hJ0=>?_
 refine tw Z6 ?_
 have hl0:=hok.1
 have hl1:=hok.2.1
 refine tsq (Zgd (cs:=[Zak ss]) hJ rfl rfl rfl (lb rfl) (fun a w h=>(h.get 0 rfl)) fun b1=>?_)
 refine Z9 Zd9 hJ rfl rfl rfl (lb rfl) fun b2=>?_
 refine snK 1 tb rfl (seK [1,2,4] [_,_,_] rfl ?_)
 refine nx (ZE tb hJ [0,1,2,1001,1004] [.at b1 0,.rd (Zak ss),.int (ss.length:Nat),.int (ss.length-1:Nat),_] [0,1,2,3] [_,_,_,_,_] rfl ⟨fun _ _ _ hx hl _=>ZV Qj rfl (hl.env 1 2 _ rfl rfl) hx,fun _ _ _ hx hl _=>Yd ZfH rfl (Zu hx (mo 1 rfl)) (hl.D 0 9 rfl rfl) rfl hx,ZX Ye,fun _ _ _ hx hl _=>Zej (i:=ss.length) (j:=1) rfl (hl.D 2 11 rfl rfl) (Rel.of_lit (Go.Value.int Go.IntKind.i64 1)) (by first | omega | (simp;omega) | grind[Zj]) (by first | omega | (simp;omega) | grind[Zj]) hx,trivial⟩ ?_)
 refine ln 3 fun hl1=>?_
 refine Zd (ZE tb hJ [0,1,4,1001,1006] [.agg (pfC ss),.rd (Qx (Xb ss)),_,.ptr [.lit (.int .i64 ((ge (Xb ss) (ss.length-1))))],_,_,_] [0,1,3] [_,_,_,_,_] rfl ⟨fun _ _ _ hx hl _=>Q5 (ds:=[Zak ss]) ZaK rfl (Zu hx (mo 1 rfl)) (hl.env 1 2 _ rfl rfl) rfl rfl hx,iFo hS hJ (Ztj hJ ss (by exact hok)) Zui,iIx ZP (hk:=by have h9:(Xb ss).length=ss.length:=Z0 _ _;omega),trivial⟩ ?_)
 refine ln 3 fun hl2=>?_
 refine cj 4 (fun hb1=>?_) fun hb1=>?_
 ·
  try simp at hb1
  have eU:Zby ss most=15:=if_pos (by first | omega | (simp only[Bool.or_eq_true,decide_eq_true_eq]at hb1;omega))
  refine tsq (sy (.agg (pfC ([]:List Stp))) (fun h=>XL (ps:=[]) (us:=[.slice none 0 0]) Ze5 rfl yz ZlV rfl (Q0 (.nil _ _ nzl) Yp) h.x) ?_)
  refine ZD (b:=b2) (off:=0) (es:=[_]) (news:=[_]) hJ hJ0 Za0 rfl rfl rfl (lb rfl) rfl (fun a w h=>⟨(h.get 1 rfl),(h.get 0 rfl)⟩) ?_
  refine snK 1 tb rfl (seK [0,2] [_,_] rfl ?_)
  exact nx (ZB (fun a w h=>QP (m:=1) (q:=0) rfl ZaK h rfl rfl (show(_:List CD)=[Zak (if Zby ss most=0 then ZL ss else [])]from by(first | (rw[if_neg (by rw[eU];decide)];done) | (rw[if_pos eU];rfl))<;>rfl) rfl (eI (by rw[eU]))))
 ·
  try simp at hb1
  have eN:¬ most<ge (Xb ss) (ss.length-1):=by first | omega | (simp only[Bool.or_eq_false_iff,decide_eq_false_iff_not]at hb1;omega)
  have eU:Zby ss most=0:=if_neg eN
  have eb:=Zgz hok oz oz eN
  have eb2:tsize (treeAt ss (ss.length-1))≤2000:=by change ((tsize (treeAt ss (ss.length-1)):Nat):Int)≤most at eb;omega
  refine Za (nx (tsq (sy (.agg [.lit (.slice none 0 0)]) (fun h=>XL (ps:=[]) (us:=[.slice none 0 0]) Ze5 rfl yz ZlV rfl (Q0 (.lit _ True.intro) Yp) h.x) ?_)))
  refine Z9 Zd9 hJ rfl rfl rfl (lb rfl) fun b3=>?_
  refine ZD (b:=b3) (off:=0) (es:=[_]) (news:=[_]) hJ hJ0 Za0 rfl rfl rfl (lb rfl) rfl (fun a w h=>⟨(h.get 0 rfl),(h.get 1 rfl)⟩) ?_
  refine seK [0,2,3,4] [_,_,_,_] rfl (nx (tw (YJ 69 2 hJ) ?_))
  refine tsq (Z9 ZkU hJ rfl rfl rfl (lb rfl) fun b4=>?_)
  refine seK [0,1,2,3,4] [_,_,_,_,_] rfl (nx (tsq ?_))
  refine sy (.lit (.func (.func 67) #[] #[.pointer (some ⟨b1,0,none⟩),.pointer (some ⟨b4,0,none⟩),.pointer (some ⟨b3,0,none⟩)])) (fun h=>ZmG (caps:=[(Go.Operand.tmp 2),(Go.Operand.tmp 8),(Go.Operand.tmp 7)]) rfl (map_cons (h.get 3 rfl).lit (map_cons (h.get 0 rfl).lit (map_cons (h.get 1 rfl).lit map_nil))) h.x) ?_
  refine Y2 (b:=b4) (off:=0) (es:=[_]) hJ hJ0 Zk4 rfl rfl rfl (lb rfl) rfl (fun a w h=>⟨(h.get 1 rfl),(h.get 0 rfl)⟩) ?_
  refine seK [1,2,3,5] [_,_,_,_] rfl (nx (tsq ?_))
  refine sy (.lit (.func (.func 67) #[] #[.pointer (some ⟨b1,0,none⟩),.pointer (some ⟨b4,0,none⟩),.pointer (some ⟨b3,0,none⟩)])) (fun h=>Yd Zm8 rfl (Zu h.x (mo 0 rfl)) (h.get 0 rfl) rfl h.x) ?_
  refine snK 1 tb rfl (kw pm3 ?_)
  refine kw pm1 (kw pm4 ?_)
  refine kw pm3 (kw pm4 ?_)
  refine sq_fnv (O:=[OB.var b3 [.lit (.slice none 0 0)],OB.row (.slice none 0 0) 69 2 (([]:List Stp).map spC),OB.var b1 [Zak ss],OB.var b4 [.lit (.func (.func 67) #[] #[.pointer (some ⟨b1,0,none⟩),.pointer (some ⟨b4,0,none⟩),.pointer (some ⟨b3,0,none⟩)])]]) (R:=[OB.var b2 [Zak ([]:List Stp)]]) [.int (ss.length-1:Nat)] [.pointer (some ⟨b1,0,none⟩),.pointer (some ⟨b4,0,none⟩),.pointer (some ⟨b3,0,none⟩)] [.at b1 0,.at b4 0,.at b3 0] (ZpH hJ b1 b4 b3 ss (z':=(((ss.length-1:Nat):Int))) (vo':=(.slice none 0 0)) (xs':=([]:List Stp)) (by exact hok) oz oz (by simp only[List.length_nil,Int.toNat_natCast];omega)) Zoo rfl rfl rfl (lb rfl) hS hJ0 ZI (fun a w h=>(h.get 1 rfl).lit) (fun a w h=>(Zb (h.get 0 rfl) Zk)) (fun w=>(Zb (Rel.of_lit (.pointer (some ⟨b1,0,none⟩))) (Zb (Rel.of_lit (.pointer (some ⟨b4,0,none⟩))) (Zb (Rel.of_lit (.pointer (some ⟨b3,0,none⟩))) Zk)))) fun z5=>?_
  refine seK [4,5] [_,_] rfl (nx (tsq ?_))
  refine sy (.agg [.lit z5]) (fun h=>Q5 (ds:=[.lit z5]) ZaK rfl (Zu h.x (mo 0 rfl)) (h.get 0 rfl) rfl rfl h.x) ?_
  refine kw pm4 (ZD (b:=b2) (off:=0) (es:=[_]) (news:=[_]) hJ hJ0 Za0 rfl rfl rfl (lb rfl) rfl (fun a w h=>⟨(h.get 2 rfl),(h.get 0 rfl)⟩) ?_)
  refine snK 1 tb rfl (seK [0,3] [_,_] rfl ?_)
  refine nx (tw pm2 (tw (fun h=>Zaw (j:=0) (cs':=[Zak ((([]:List Stp)++flat (treeAt ss (((ss.length-1:Nat):Int)).toNat) ([]:List Stp).length))]) hS rfl rfl h) ?_))
  exact ZB (fun a w h=>QP (m:=1) (q:=0) rfl ZaK h rfl rfl (show(_:List CD)=[Zak (if Zby ss most=0 then ZL ss else [])]from by(first | (rw[if_neg (by rw[eU];decide)];done) | (rw[if_pos eU];rfl))<;>rfl) rfl (eI (by rw[eU])))
theorem Zm2 {J:WP} (hJ:Stab J) (d:Db) (z:Int) (ss:List Stp) (hw:∀ f∈d.frames,f.wide.length*32≤140737488351232) (hG:Zas J):Fn prog J 11 [.agg (dbC d),.int z,.agg (pfC ss)] (.tup [.rd (Zi ((ZdE d z ss).1)),.int ((ZdE d z ss).2)]):=by
 refine fE Tryz.func11 fun S w0 hS hJ0=>?_
 refine tw Z6 (ZE tb hJ [1,1000,1001] [.ptr (dbC d),.ptr (pfC ss),_,_] [0,1] [_,_,_] rfl ⟨iBo hS hJ,iBo hS hJ,trivial⟩ ?_)
 refine Zd (ZE tb hJ [2,1004] [_,_,_,.int (Zaq d z ss),_] [3] [_,_] rfl ⟨iFo hS hJ (Zgn hJ d z ss (by exact hw) (by exact hG)) Zol,trivial⟩ ?_)
 refine qso tb hJ [0,1,1001] [_,_] [_,_,_] ?_
 refine cj 2 (fun hb1=>?_) fun hb1=>?_
 ·
  try simp at hb1
  have eU:=Zns (d:=d) (z:=z) (ss:=ss) (by simpa using hb1)
  refine qso tb hJ [1001,1002] [_,_,_] [_,_] ?_
  exact tw (fun h=>Ym h (m:=0) (s:=6) rfl) (ZB (fun a w h=>Yh (m:=0) (k:=1) rfl (ZM h) rfl rfl (congrArg (fun z=>AV.rd (Zi z)) (show([]:List BA)=((ZdE d z ss).1)from by first | (rw[eU];done) | (rw[eU,eV];done) | (rw[eU,f1_2,Zz oz]))) (eI (by first | (rw[eU];done) | (rw[eU,eV];done) | (rw[eU,f1_2,Zz oz])))))
 ·
  try simp at hb1
  have e0:Zaq d z ss=0:=by simpa using hb1
  obtain⟨ha,hf⟩:=ZgE e0
  have hok:=(Xy ss).1 hf
  refine Za (nx (tsq (snK 1 tb rfl (sy (.tup [.agg (pfC (((if Zby ss (2000:Int)=0 then ZL ss else [])))),.int (Zby ss (2000:Int))]) (fun h=>ZcZ (ZpP hJ ss (2000:Int) (by exact hok) oz oz) Zuq rfl (Zy hS _ h.keep h.x) (h.x.1) (Zb (h.get 0 rfl) (Zb (Rel.of_lit (Go.Value.int Go.IntKind.i64 2000)) Zk)) (jo hJ h.x)) ?_))))
  refine snK 3 tb rfl (Qn (cs:=pfC (((if Zby ss (2000:Int)=0 then ZL ss else [])))) Zjw rfl rfl rfl (lb rfl) rfl rfl rfl dz (m:=1) rfl rfl (fun a w h=>Zy hS _ h.keep h.x _ nlr) (fun a w h w' hk'=>YL hJ _ _ hk' h.x) ?_)
  refine snK 1 tb rfl (seK [0,1] [_,_] rfl ?_)
  refine nx (Zd (qso tb hJ [0,1,1001] [_,_] [_,_,_] ?_))
  refine cj 2 (fun hb2=>?_) fun hb2=>?_
  ·
   try simp at hb2
   have eU:=Znr (d:=d) e0 (show ¬ Zby ss 2000=0 by simpa using hb2)
   have eV:=Zn3 (ss:=ss) (most:=2000) (show ¬ Zby ss 2000=0 by simpa using hb2)
   refine qso tb hJ [1001,1002] [_,_,_] [_,_] ?_
   exact tw (fun h=>Ym h (m:=0) (s:=6) rfl) (ZB (fun a w h=>Yh (m:=0) (k:=1) rfl (ZM h) rfl rfl (congrArg (fun z=>AV.rd (Zi z)) (show([]:List BA)=((ZdE d z ss).1)from by first | (rw[eU];done) | (rw[eU,eV];done) | (rw[eU,f1_2,Zz oz]))) (eI (by first | (rw[eU];done) | (rw[eU,eV];done) | (rw[eU,f1_2,Zz oz])))))
  ·
   try simp at hb2
   have e1:Zby ss 2000=0:=by simpa using hb2
   have eU:=Zsv (d:=d) e0 e1
   have hxl:(ZL ss).length≤2000:=Zsz hok e1
   refine tw (sa 1 rfl (show(.ptr (pfC (((if Zby ss (2000:Int)=0 then ZL ss else [])))):AV)= .ptr (pfC (ZL ss))from by rw[if_pos e1])) (Za (nx (qso tb hJ [1,1000] [_] [_,_] ?_)))
   refine Zd (ZE tb hJ [1,1001,1002,1003] [_,_,.int ((ZL ss).length:Nat),_] [2] [_,_,_,_] rfl ⟨ZX Ye,trivial⟩ ?_)
   refine ln 1 fun hl1=>?_
   refine Zc (tw (YJ 9 1 hJ) (lpo (ι:=Nat×Value×(List BA)) (fun(k,_,out)=>(k≤(ZL ss).length)∧(out=((ZL ss).take k).map Stp.label)) (fun(_,v,out)=>[OB.row v 9 1 (out.map Q3)]) (fun(k,v,_)=>[(32,.int (k:Nat)),(11,.lit v)]) (fun(k,_,_)=>(ZL ss).length-k) [1,2,3,0] [_,_] (0,(.slice none 0 0),([]:List BA)) ⟨nzl,rfl⟩ ?_))
   rintro⟨k,v,out⟩ ⟨f1_1,f1_2⟩
   refine qso tb hJ [0,1,2,3,1000] [_] [_,_,_,_,_] ?_
   refine cjS 4 (fun hb3=>?_) fun hb3=>?_
   ·
    try simp at hb3
    refine Za (nx (Zd (Zc (tsq (sy (.ptr (spC ((ge (ZL ss) k)))) (fun h=>ZK (i:=((k:Nat):Int)) ZZ rfl (h.get 0 rfl) (h.get 2 rfl) nnn (ZR (xs:=(ZL ss)) (k:=k) (by first | omega | (simp;omega) | grind[Zj])) rfl h.x) ?_)))))
    refine snK 1 tb rfl (Qn (cs:=spC ((ge (ZL ss) k))) Zo0 rfl rfl rfl (lb rfl) rfl rfl rfl dz (m:=0) rfl rfl (fun a w h=>Zy hS _ h.keep h.x _ nlr) (fun a w h w' hk'=>YL hJ _ _ hk' h.x) ?_)
    refine seK [0,3,4,5,6] [_,_,_,_,_] rfl (nx (Ya (snK 3 tb rfl ?_)))
    refine sy (.rd (Zi ([((ge (ZL ss) k)).label]))) (fun h=>Yw Zf QI rfl (h.get 0 rfl) (Zy hS _ h.keep h.x _ nlr) (jo hJ h.x)) ?_
    refine Z2 (f:=Q3) (m:=3) (s:=36) out ([((ge (ZL ss) k)).label]) (fun _=>rfl) Y3 hJ hJ0 rfl rfl rfl (lb rfl) rfl rfl (fun a w h=>(h.get 0 rfl)) (by rw[f1_2];simp;omega) (by rw[f1_2];simp;omega) fun v1=>?_
    refine snK 1 tb rfl (seK [0,2,7,8,9] [_,_,_,_,_] rfl ?_)
    refine nx (ln 1 fun hl2=>?_)
    refine YA tb hJ [0,2,3,1001] [.int (k+1:Nat),_] [0] [_,_,_,_] rfl ⟨Yf,trivial⟩ ?_
    exact YK (k+1,v1,out++([((ge (ZL ss) k)).label])) [1,2,3,0] ⟨oz,by rw[Zb0 oz,←f1_2]⟩
   ·
    try simp at hb3
    refine Zp (nx (qso tb hJ [1001,1002] [_,_,_] [_,_] ?_))
    exact tw (fun h=>ZF hS h (m:=0) (s:=6) rfl) (ZB (fun a w h=>Yh (m:=0) (k:=1) rfl (ZM h) rfl rfl (congrArg (fun z=>AV.rd (Zi z)) (show out=((ZdE d z ss).1)from by first | (rw[eU];done) | (rw[eU,eV];done) | (rw[eU,f1_2,Zz oz]))) (eI (by first | (rw[eU];done) | (rw[eU,eV];done) | (rw[eU,f1_2,Zz oz])))))
end Go.Proofs.YtaigaoflehfdcaaGreatDoor
namespace Go.Proofs.YtaigaoflehfdcaaGreatDoor
section
variable {d:Db} {i k j:Nat} {s:Stp} {a es:List (List BA)} {ag:List Int} {ss:List Stp} {vars:List BA} {wide:List Pr} {g:Fr}
theorem Zcy:(Xg a ag).length=ag.length:=by simp[Xg]
theorem Zi0 (hj:j<ag.length):ge (Xg a ag) j=ge a (ge ag j).toNat:=by
 rw[YS (by rw[Zcy];exact hj),YS hj];simp[Xg]
theorem Zkp {p:List BA→Prop} (h:∀ t∈a,p t) (hb:∀ j,j<ag.length→0≤ge ag j∧ge ag j< (a.length:Int)):∀ t∈Xg a ag,p t:=fun t ht=>by
 obtain⟨j,hj,rfl⟩:=Y5 ht
 rw[Zcy]at hj
 have:=hb j hj
 rw[Zi0 hj]
 exact h _ (Zj oz)
theorem Zn6 (hj:j<ag.length):Xg a (ag.take (j+1))=Xg a (ag.take j)++[ge a (ge ag j).toNat]:=by rw[Xg,Xg,Zb0 hj]
theorem ZsO {c:Int} (h:ZlR vars wide g es 0= .error c):¬ c=0:=by
 unfold ZlR at h
 split at h
 · injection h with h;omega
 split at h
 · injection h with h;omega
 split at h
 · injection h with h;omega
 split at h
 · injection h with h;omega
 · cases h
theorem Zo4 (hg:okT g) (h:(QZ vars wide g es).2=0):1≤(QZ vars wide g es).1.length∧(QZ vars wide g es).1.length≤2000:=by
 unfold QZ at h ⊢
 cases h9:ZlR vars wide g es 0 with
 | ok t=>exact ZsN hg h9
 | error c=>rw[h9]at h;exact absurd h (ZsO h9)
theorem Zpe (hc:ZbN d=0) (hi:i<d.frames.length) (h:(Qa d i s a).2=0):1≤(Qa d i s a).1.length∧(Qa d i s a).1.length≤2000:=by
 unfold Qa at h ⊢
 split at h
 · cases h
 rename_i h0
 rw[if_neg h0]
 cases h9:X0 (ge d.frames i) s.label with
 | some y=>
  rw[h9]at h
  simp only at h ⊢
  split at h
  · cases h
  rename_i h1
  rw[if_neg h1]
  exact(ZcC hc _ (Zj hi)).2.2 y (List.mem_of_find?_eq_some h9)
 | none=>
  rw[h9]at h
  simp only at h ⊢
  split at h
  · cases h
  rename_i h1
  rw[if_neg h1]
  split at h
  · cases h
  rename_i h2
  rw[if_neg h2]
  exact Zo4 (ZcC hc _ (Zj (ZgU h1).2.2)).2.1 h
theorem ZiR (hc:ZbN d=0) (hi:i<d.frames.length):∀ k,(∀ j,j<k→erG d i ss j=0)→∀ t∈fmG d i ss k,1≤t.length∧t.length≤2000
 | 0,_,t,ht=>by simp[fmG]at ht
 | k+1,h,t,ht=>by
  rw[fmG]at ht
  rcases List.mem_append.1 ht with ht | ht
  · exact ZiR hc hi k (fun j hj=>h j oz) t ht
  · rw[List.mem_singleton.1 ht]
    exact Zpe hc hi (h k oz)
theorem Zqs {z:BA} (hi:i≤d.frames.length) (h:Zda d z<0∨(i:Int)≤Zda d z):Yq d i z= -1:=Zdd fun j hj e=>by
 have h1:¬ Qc (fun f=>decide (f.label=z)) d.frames= -1:=fun e1=>by
  have e2:d.frames.findIdx? (fun f=>decide (f.label=z))=none:=by
   unfold Qc at e1
   cases h9:d.frames.findIdx? (fun f=>decide (f.label=z))with
   | none=>rfl
   | some q=>rw[h9]at e1;simp only at e1;omega
  have e3:=List.findIdx?_eq_none_iff.1 e2 _ (Zj (show j<d.frames.length by omega))
  simp[e]at e3
 obtain⟨h2,h3,h4,h5⟩:=QR h1
 have h6:Zda d z=Qc (fun f=>decide (f.label=z)) d.frames:=rfl
 rw[h6]at h
 have h7:=h5 j oz
 simp[e]at h7
theorem Zn1 {z:BA} (hi:i≤d.frames.length) (h:¬ Zda d z<0) (h0:Zda d z< (i:Int)):Yq d i z=Zda d z:=by
 have h6:Zda d z=Qc (fun f=>decide (f.label=z)) d.frames:=rfl
 obtain⟨h2,h3,h4,h5⟩:=QR (p:=fun f=>decide (f.label=z)) (xs:=d.frames) (by rw[←h6];omega)
 rw[←h6]at h2 h3 h4 h5
 rw[Ze8 (k:=(Zda d z).toNat) hi oz (fun j hj e=>by have:=h5 j hj;simp[e]at this) (by simpa using h4)]
 omega
theorem ZhE (hok:Okay ss) (hk:k<ss.length):∀ j,j< (ge ss k).args.length→0≤ge (ge ss k).args j∧ge (ge ss k).args j< (k:Int):=fun _ hj=>Zcq hok hk hj
def X2 (d:Db) (z:Int) (ss:List Stp):List (List BA)×(Int×Int):=if Zaq d z ss=0 then txtG d z.toNat ss else([],(0,0))
theorem ZfW:erG d i ss k=(Qa d i (ge ss k) (fmG d i ss k)).2:=rfl
theorem Zki:fmG d i ss (k+1)=fmG d i ss k++[(Qa d i (ge ss k) (fmG d i ss k)).1]:=rfl
end
end Go.Proofs.YtaigaoflehfdcaaGreatDoor
set_option maxHeartbeats 8000000
set_option maxRecDepth 100000
namespace Go.Proofs.YtaigaoflehfdcaaGreatDoor
open Go.RowKit
theorem XW:Yz Tryz.prog 80 2 4:=fun b off w=>by kernel_rfl
theorem QE:Yz Tryz.prog 80 0 0:=fun b off w=>by kernel_rfl
theorem Zc6:Yz Tryz.prog 80 1 3:=fun b off w=>by kernel_rfl
theorem p_useG {J:WP} (hJ:Stab J) (bc:Nat) (d:Db) (i:Nat) (fv:Value) (fs:List (List BA)) (gf:Fr) (ag:List Int) (hi:i<d.frames.length) (hfs:∀ t∈fs,1≤t.length∧t.length≤2000) (hag:∀ j,j<ag.length→0≤ge ag j∧ge ag j< (fs.length:Int)) (hgl:ag.length=gf.hyps.length) (hf:∀ h∈gf.hyps,h.floating=true→h.text.length=2) (hh:gf.hyps.length≤2000) (hwd:(ge d.frames i).wide.length*32≤140737488351232):FnR Tryz.prog J 73 [OB.var bc [Zi d.consts,Zi d.vars,Zg1 d.frames,.lit (.int .i64 (((i:Nat):Int))),.lit fv],OB.row fv 22 1 (fs.map Q2)] [.at bc 0,.agg (frC gf),.rd (Qx ag)] (.tup [.rd (Zi ((QZ d.vars (ge d.frames i).wide gf (Xg fs ag)).1)),.int ((QZ d.vars (ge d.frames i).wide gf (Xg fs ag)).2)]):=by
 refine fER Tryz.func73 fun S w0 hS hJ0 hH=>?_
 refine tw Z6 (ln 2 fun hl1=>?_)
 have het:∀ t∈(Xg fs ag),1≤t.length∧t.length≤2000:=Zkp hfs hag
 have hes:(Xg fs ag).length=gf.hyps.length:=by rw[Zcy];exact hgl
 refine ZE tb hJ [0,2,1000] [.ptr (frC gf),_,_] [0] [_,_,_] rfl ⟨iBo hS hJ,trivial⟩ ?_
 refine qso tb hJ [0,1,2,1000] [_] [_,_,_,_] ?_
 refine Zd (ZE tb hJ [0,1,2,3,1001,1002,1003] [_,_,.int (gf.hyps.length:Nat),_] [2] [_,_,_,_,_,_,_] rfl ⟨ZX Zx,trivial⟩ ?_)
 refine ln 4 fun hl2=>?_
 refine Zc (tw (YJ 169 2 hJ) (lpo (ι:=Nat×Value×(List Bd)) (fun(k,_,bs)=>(k≤gf.hyps.length)∧(bs=Y4 gf.hyps (Xg fs ag) 0 k)∧(∀ j,j<k→Zgs gf.hyps (Xg fs ag) 0 j=true)) (fun(_,wv,bs)=>[OB.row wv 169 2 (bs.map bdC)]) (fun(k,wv,_)=>[(21,.int (k:Nat)),(8,.lit wv)]) (fun(k,_,_)=>gf.hyps.length-k) [0,1,2,4,5,6,3] [_,_,_,_,_] (0,(.slice none 0 0),([]:List Bd)) ⟨nzl,rfl,fun j hj=>by omega⟩ ?_))
 rintro⟨k,wv,bs⟩ ⟨f1_1,f1_2,f1_3⟩
 refine qso tb hJ [0,1,2,3,4,5,6,1000] [_] [_,_,_,_,_,_,_,_] ?_
 refine cjS 7 (fun hb1=>?_) fun hb1=>?_
 ·
  try simp at hb1
  have e0:ge (Xg fs ag) k=(ge fs (ge ag k).toNat):=Zi0 oz
  have e1:=hag k oz
  refine Za (nx (Zd (Zc (tsq (snK 1 tb rfl (sy (.ptr (hyC (ge gf.hyps k))) (fun h=>ZK (i:=((k:Nat):Int)) Zq rfl (h.get 4 rfl) (h.get 6 rfl) nnn (ZR (xs:=gf.hyps) (k:=k) (by first | omega | (simp;omega) | grind[Zj])) rfl h.x) ?_))))))
  refine snK 1 tb rfl (Z9 YM hJ rfl rfl rfl (lb rfl) fun b1=>?_)
  refine snK 1 tb rfl (ZD (b:=b1) (off:=0) (es:=[_,_,_]) (news:=[_,_,_]) hJ hJ0 YO rfl rfl rfl (lb rfl) rfl (fun a w h=>⟨(h.get 1 rfl),(h.get 2 rfl)⟩) ?_)
  refine kw (fun h=>Yn hS h (m:=1) (s:=10) rfl) (seK [0,1,5,6,7,8,9,10,11] [_,_,_,_,_,_,_,_,_] rfl ?_)
  refine nx (ZE tb hJ [0,2,3,4,5,6,7,8,1009,1010] [_,.at bc 0,.at bc 4,.lit fv,_,_,.ptr [.lit (.int .i64 (ge ag k))],_,.lit (XG fv (((ge ag k).toNat)*1)),.rd (Zi ((ge fs ((ge ag k).toNat)))),_] [1,2,3,6,8,9] [_,_,_,_,_,_,_,_,_,_] rfl ⟨fun _ _ _ hx hl _=>Yk rfl (hl.D 0 26 rfl rfl) hx,fun _ _ _ hx hl _=>ZV XW rfl (hl.D 1 27 rfl rfl) hx,fun _ _ hk hx hl _=>Yd Zes rfl (ZS hH hk hx (mo 0 rfl)) (hl.D 2 28 rfl rfl) rfl hx,iIx ZP,fun _ _ hk hx hl _=>YC (i:=(ge ag k)) ZO rfl (ZS hH hk hx (mo 1 rfl)) (hl.D 3 29 rfl rfl) (hl.D 7 33 rfl rfl) (by first | omega | (simp;omega) | grind[Zj]) (by rw[List.length_map];exact(by first | omega | (simp;omega) | grind[Zj])) hx,fun _ _ hk hx hl _=>XU (i:=(ge ag k).toNat) Qu rfl (ZS hH hk hx (mo 1 rfl)) (hl.D 8 34 rfl rfl) (QJ (xs:=fs) (k:=(ge ag k).toNat) (by first | omega | (simp;omega) | grind[Zj])) hx,trivial⟩ ?_)
  refine ln 8 fun hl3=>?_
  refine Zd (qso tb hJ [0,1,2,3,4,5,6,7,9,1002] [_,_,_] [_,_,_,_,_,_,_,_,_,_] ?_)
  refine cj 9 (fun hb2=>?_) fun hb2=>?_
  ·
   try simp at hb2
   refine Zp (nx (YA tb hJ [1,2,3,4,5,7,1001] [.int (k+1:Nat),_] [0] [_,_,_,_,_,_,_] rfl ⟨Yf,trivial⟩ ?_))
   exact YK (k+1,wv,bs) [0,1,2,3,4,6,5] ⟨oz,by rw[ZcN,←f1_2];simp[ZoT,hb2],ZG f1_3 (by simp[Zgs,hb2])⟩
  ·
   try simp at hb2
   have e3:(ge gf.hyps k).text.length=2:=hf _ (Zj oz) (by simpa using hb2)
   have e4:=hfs _ (Zj (xs:=fs) (k:=(ge ag k).toNat) oz)
   refine Za (nx (Zd (ZE tb hJ [0,1,2,3,4,5,6,7,8,1012] [_,.int (((ge fs ((ge ag k).toNat))).length:Nat),_,_,_,.ptr [.lit (.string ((ge ((ge fs ((ge ag k).toNat))) 0)))],_,_,_,.ptr [.lit (.string ((ge ((ge gf.hyps k).text) 0)))],_,_,_] [1,5,9] [_,_,_,_,_,_,_,_,_,_] rfl ⟨ZX Zs,gIx (k:=0) Zf (hk:=fun(hc':(((decide (((((ge fs ((ge ag k).toNat))).length:Nat):Int)=(0:Int)))==false))=true)=>by(try simp at hc');first | omega | (simp;omega) | grind[Zj]),gIx (k:=0) Zf (hk:=fun(hc':(((decide (((((ge fs ((ge ag k).toNat))).length:Nat):Int)=(0:Int)))==false))=true)=>by(try simp at hc');first | omega | (simp;omega) | grind[Zj]),trivial⟩ ?_)))
   refine cj 9 (fun hb3=>?_) fun hb3=>?_
   ·
    have e5:Zgs gf.hyps (Xg fs ag) 0 k=false:=by simp only[Zgs,Nat.zero_add,e0,Bool.or_eq_false_iff,Bool.not_eq_false',decide_eq_false_iff_not];exact⟨by simpa using hb2,fun e=>by simp[e]at hb3;have:=e4.1;simp[hb3]at this⟩
    have eU:(QZ d.vars (ge d.frames i).wide gf (Xg fs ag))=([],24):=ux_24 oz e5
    refine qso tb hJ [1000,1001] [_,_] [_,_] ?_
    exact tw (fun h=>Ym h (m:=0) (s:=6) rfl) (ZB (fun a w h=>Yh (m:=0) (k:=1) rfl (ZM h) rfl rfl (congrArg (fun z=>AV.rd (Zi z)) (show([]:List BA)=((QZ d.vars (ge d.frames i).wide gf (Xg fs ag)).1)from by first | (rw[eU];done) | (rw[eU,if_neg (by simp[e9])]))) (eI (by first | (rw[eU];done) | (rw[eU,if_neg (by simp[e9])])))))
   ·
    have e5:Zgs gf.hyps (Xg fs ag) 0 k=true:=by simp only[Bool.or_eq_false_iff,Bool.not_eq_false',decide_eq_true_eq]at hb3;simp[Zgs,e0,hb3.2]
    refine Za (nx (fun a w h=>QK [] (γ:=Value) (fun ix'=>([.lit wv,.ptr [Zi ((ge gf.hyps k).text)],.rd (Zi ((ge gf.hyps k).text)),.ptr [.lit (.string ((ge ((ge gf.hyps k).text) 1)))],.str ((ge ((ge gf.hyps k).text) 1)),.rd (Zi ((ge fs ((ge ag k).toNat)))),.rd (Zi (((ge fs ((ge ag k).toNat))).drop 1)),.agg (bdC ((⟨(ge ((ge gf.hyps k).text) 1),((ge fs ((ge ag k).toNat))).drop 1⟩:Bd))),.rd (ZdH ([(⟨(ge ((ge gf.hyps k).text) 1),((ge fs ((ge ag k).toNat))).drop 1⟩:Bd)])),.any,.any]:List AV).getD ix' .any) (fun _=>true) [(0,fun _=>.at bc 0),(2,fun _=>.rd (Qx ag)),(4,fun _=>.ptr (frC gf)),(19,fun _=>.rd (Xl gf.hyps)),(20,fun _=>.int (gf.hyps.length:Nat)),(21,fun _=>.int (k:Nat)),(8,fun g=>.lit g)] (fun j' g=>match j' with | 0=>[OB.row wv 169 2 (bs.map bdC)] | _=>[OB.row g 169 2 ((bs++([(⟨(ge ((ge gf.hyps k).text) 1),((ge fs ((ge ag k).toNat))).drop 1⟩:Bd)])).map bdC)]) (fun k' g=>match k' with | 0=>g | 1=>g | _=>undef) [9,10] 2 (.slice none 0 0) (fun _=>rfl) h hJ YZ rfl rfl rfl rfl rfl rfl hsb ⟨?_,?_,?_,?_,?_,?_,?_,?_,?_,?_,?_,trivial⟩ ⟨?e9_1_0,?e9_1_1,trivial⟩ ⟨.old 1 0 _,.old 2 2 _,.old 3 4 _,.old 4 19 _,.old 5 20 _,.old 6 21 _,.eff 1 10 8 (fun(g:Value)=>g) rfl rfl (fun _=>rfl) (fun _ _ hx=>Zax (hx.2.1 _ (mo 0 rfl))),trivial⟩ ?n9_1))
    exact oX rfl fun hx hl=>Z7 rfl (hl.env 7 8 _ rfl rfl) hx
    exact oX rfl fun hx hl=>Z4 QF rfl (hl.env 0 10 _ rfl rfl) hx
    exact oX rfl fun hx hl=>ZN Qu rfl (hl.D 1 53 rfl rfl) hx
    exact oX rfl fun hx hl=>ZK (i:=((1:Nat):Int)) Zf rfl (hl.D 2 54 rfl rfl) (Rel.of_lit (Go.Value.int Go.IntKind.i64 1)) nnn (ZR (xs:=(ge gf.hyps k).text) (k:=1) (by first | omega | (simp;omega) | grind[Zj])) rfl hx
    exact oX rfl fun hx hl=>ZN QN rfl (hl.D 3 55 rfl rfl) hx
    exact oX rfl fun hx hl=>Z7 rfl (hl.env 8 11 _ rfl rfl) hx
    exact oX rfl fun hx hl=>Xw (ys:=((ge fs ((ge ag k).toNat))).drop 1) (lo:=1) (hi:=((ge fs ((ge ag k).toNat))).length) (by rw[List.take_length]) Zf (fun _=>rfl) rfl (hl.D 5 57 rfl rfl) (Rel.of_lit (Go.Value.int Go.IntKind.i64 1)) rfl (by first | omega | (simp;omega) | grind[Zj]) (by first | omega | (simp;omega) | grind[Zj]) hx
    exact fun _ O' _=>⟨rfl,fun a _ _ hx hl _=>XP (us:=[a.eval (Go.Operand.tmp 56),a.eval (Go.Operand.tmp 58)]) Ze4 rfl yz (ZJ (hl.D 4 56 rfl rfl) (ZJ (hl.D 6 58 rfl rfl) Yp)) rfl hx⟩
    exact oY rfl fun hk hx hl=>QL Xi Zjt dz rfl rfl (hl.D 7 59 rfl rfl) (Zy hS _ hk hx _ nlr) (jo hJ hx)
    exact Zr rfl
    exact Zr rfl
    case e9_1_0=>exact⟨_,rfl,rfl,rfl,rfl,fun _ _ w hk hx hl _=>ZC (Zac (f:=bdC) bs ([(⟨(ge ((ge gf.hyps k).text) 1),((ge fs ((ge ag k).toNat))).drop 1⟩:Bd)]) (fun _=>rfl) Ze7 hJ hJ0 rfl hk hx (hl.D 0 52 rfl rfl).lit (hl.D 8 60 rfl rfl) (by have:=Zd3 gf.hyps (Xg fs ag) 0 k;rw[f1_2];simp;omega) (by have:=Zd3 gf.hyps (Xg fs ag) 0 k;rw[f1_2];simp;omega)) fun v w' hp=>⟨v,rfl,fun k' hk'=>absurd hk' (Nat.not_lt_zero _),fun _=>rfl,hp⟩⟩
    case e9_1_1=>exact⟨_,rfl,rfl,rfl,rfl,fun g _ w hk hx _ hs=>ZC (ZaH (.inl rfl) (hs 0 9 _ 61 oz rfl rfl rfl) hk hx) fun v w' hp=>⟨g,rfl,fun _ _=>rfl,fun _=>hp.1,hp.2⟩⟩
    clear a w h
    intro v2
    dsimp only[List.map]
    refine nx (YA tb hJ [0,1,2,3,4,6,1001] [.int (k+1:Nat),_] [0] [_,_,_,_,_,_,_] rfl ⟨Yf,trivial⟩ ?_)
    exact YK (k+1,v2,bs++([(⟨(ge ((ge gf.hyps k).text) 1),((ge fs ((ge ag k).toNat))).drop 1⟩:Bd)])) [0,1,2,3,4,6,5] ⟨oz,by rw[ZcN,←f1_2];simp[ZoT,e0,hb2],ZG f1_3 e5⟩
 ·
  try simp at hb1
  have e6:∀ j,j<gf.hyps.length→Zgs gf.hyps (Xg fs ag) 0 j=true:=fun j hj=>f1_3 j oz
  refine Zp (nx (Zd (tw (fun h=>ZF hS h (m:=6) (s:=8) rfl) (tw (sa 0 rfl (congrArg (fun z'=>AV.rd (ZdH z')) (show bs=((Y4 gf.hyps (Xg fs ag) 0 gf.hyps.length))from by rw[f1_2,show k=gf.hyps.length by omega]))) ?_))))
  refine ZE tb hJ [0,1,2,3,1001,1002,1003] [_,_,.int (gf.hyps.length:Nat),_] [2] [_,_,_,_,_,_,_] rfl ⟨ZX Zx,trivial⟩ ?_
  refine ln 0 fun hl4=>?_
  refine Zc (lpo (ι:=Nat) (fun j=>(j≤gf.hyps.length)∧(∀ i',i'<j→Zj6 gf.hyps (Xg fs ag) 0 (Y4 gf.hyps (Xg fs ag) 0 gf.hyps.length) i'=true)) (fun _=>[]) (fun j=>[(66,.int (j:Nat))]) (fun j=>gf.hyps.length-j) [0,1,2,3,4,5,6] [_,_,_,_,_,_] 0 ⟨nzl,fun j hj=>by omega⟩ ?_)
  rintro j ⟨f2_1,f2_2⟩
  refine qso tb hJ [0,1,2,3,4,5,6,1000] [_] [_,_,_,_,_,_,_,_] ?_
  refine cjS 7 (fun hb4=>?_) fun hb4=>?_
  ·
   try simp at hb4
   have e0:ge (Xg fs ag) j=(ge fs (ge ag j).toNat):=Zi0 oz
   have e1:=hag j oz
   refine Za (nx (Zd (Zc (tsq (snK 1 tb rfl (sy (.ptr (hyC (ge gf.hyps j))) (fun h=>ZK (i:=((j:Nat):Int)) Zq rfl (h.get 5 rfl) (h.get 7 rfl) nnn (ZR (xs:=gf.hyps) (k:=j) (by first | omega | (simp;omega) | grind[Zj])) rfl h.x) ?_))))))
   refine snK 1 tb rfl (Z9 YM hJ rfl rfl rfl (lb rfl) fun b3=>?_)
   refine snK 1 tb rfl (ZD (b:=b3) (off:=0) (es:=[_,_,_]) (news:=[_,_,_]) hJ hJ0 YO rfl rfl rfl (lb rfl) rfl (fun a w h=>⟨(h.get 1 rfl),(h.get 2 rfl)⟩) ?_)
   refine kw (fun h=>Yn hS h (m:=1) (s:=13) rfl) (seK [0,1,5,6,7,8,9,10,11] [_,_,_,_,_,_,_,_,_] rfl ?_)
   refine nx (ZE tb hJ [2,3,4,5,6,7,8,1019] [_,_,_,_,_,_,_,_,.at bc 0,.at bc 4,.lit fv,_,_,.ptr [.lit (.int .i64 (ge ag j))],_,.lit (XG fv (((ge ag j).toNat)*1)),.rd (Zi ((ge fs ((ge ag j).toNat)))),.bool (ZoR ((ge gf.hyps j).text) ((Y4 gf.hyps (Xg fs ag) 0 gf.hyps.length)) ((ge fs ((ge ag j).toNat)))),_,_] [8,9,10,13,15,16,17] [_,_,_,_,_,_,_,_] rfl ⟨fun _ _ _ hx hl hc=>Yk rfl (hl.D 7 78 rfl hc) hx,fun _ _ _ hx hl hc=>ZV XW rfl (hl.D 8 79 rfl hc) hx,fun _ _ hk hx hl hc=>Yd Zes rfl (ZS hH hk hx (mo 0 rfl)) (hl.D 9 80 rfl hc) rfl hx,gIx ZP (hk:=fun(hc':(((!((ge gf.hyps j).floating))==true))=true)=>by(try simp at hc');first | omega | (simp;omega) | grind[Zj]),fun _ _ hk hx hl hc=>YC (i:=(ge ag j)) ZO rfl (ZS hH hk hx (mo 1 rfl)) (hl.D 10 81 rfl hc) (hl.D 14 85 rfl hc) (by have hc':(((!((ge gf.hyps j).floating))==true))=true:=hc;(try simp at hc');(first | omega | (simp;omega) | grind[Zj])) (by rw[List.length_map];exact(by have hc':(((!((ge gf.hyps j).floating))==true))=true:=hc;(try simp at hc');(first | omega | (simp;omega) | grind[Zj]))) hx,fun _ _ hk hx hl hc=>XU (i:=(ge ag j).toNat) Qu rfl (ZS hH hk hx (mo 1 rfl)) (hl.D 15 86 rfl hc) (QJ (xs:=fs) (k:=(ge ag j).toNat) (by have hc':(((!((ge gf.hyps j).floating))==true))=true:=hc;(try simp at hc');(first | omega | (simp;omega) | grind[Zj]))) hx,iFo hS hJ (p_Fits hJ ((ge gf.hyps j).text) ((Y4 gf.hyps (Xg fs ag) 0 gf.hyps.length)) ((ge fs ((ge ag j).toNat)))) ZrF,trivial⟩ ?_)
   refine cj 7 (fun hb5=>?_) fun hb5=>?_
   ·
    have e7:Zj6 gf.hyps (Xg fs ag) 0 (Y4 gf.hyps (Xg fs ag) 0 gf.hyps.length) j=false:=by simp only[Zj6,Nat.zero_add,e0];simpa using hb5
    have eU:(QZ d.vars (ge d.frames i).wide gf (Xg fs ag))=([],25):=ux_25 e6 oz e7
    refine qso tb hJ [1000,1001] [_,_] [_,_] ?_
    exact tw (fun h=>Ym h (m:=0) (s:=6) rfl) (ZB (fun a w h=>Yh (m:=0) (k:=1) rfl (ZM h) rfl rfl (congrArg (fun z=>AV.rd (Zi z)) (show([]:List BA)=((QZ d.vars (ge d.frames i).wide gf (Xg fs ag)).1)from by first | (rw[eU];done) | (rw[eU,if_neg (by simp[e9])]))) (eI (by first | (rw[eU];done) | (rw[eU,if_neg (by simp[e9])])))))
   ·
    refine Za (nx (YA tb hJ [0,1,2,3,4,5,1001] [.int (j+1:Nat),_] [0] [_,_,_,_,_,_,_] rfl ⟨Yf,trivial⟩ ?_))
    exact YK (j+1) [0,1,2,3,4,5,6] ⟨oz,ZG f2_2 (by cases h9:(ge gf.hyps j).floating<;>simp_all[Zj6])⟩
  ·
   try simp at hb4
   have e8:∀ j,j<gf.hyps.length→Zj6 gf.hyps (Xg fs ag) 0 (Y4 gf.hyps (Xg fs ag) 0 gf.hyps.length) j=true:=fun j hj=>f2_2 j oz
   refine Zp (nx (ZE tb hJ [0,1,3,1001,1005,1007,1008] [_,_,_,.tup [.rd (Zi (((if ZaR (ZW ((Y4 gf.hyps (Xg fs ag) 0 gf.hyps.length))) gf.text 2000 then Xm (ZW ((Y4 gf.hyps (Xg fs ag) 0 gf.hyps.length))) gf.text else [])))),.int ((if ZaR (ZW ((Y4 gf.hyps (Xg fs ag) 0 gf.hyps.length))) gf.text 2000 then 0 else 15))],_,_,_,_,_] [3] [_,_,_,_,_,_,_] rfl ⟨iFo hS hJ (Zm1 hJ gf.text ((Y4 gf.hyps (Xg fs ag) 0 gf.hyps.length)) 2000 (by first | omega | (simp;omega) | grind[Zj]) (ZcM (fun t ht=>(het t ht).2) oz)) ZrE,trivial⟩ ?_))
   refine ln 3 fun hl5=>?_
   refine ln 4 fun hl6=>?_
   refine Zd (qso tb hJ [0,1,2,5,1001] [_,_] [_,_,_,_,_] ?_)
   refine cj 4 (fun hb6=>?_) fun hb6=>?_
   ·
    try simp at hb6
    have e9:ZaR (ZW (Y4 gf.hyps (Xg fs ag) 0 gf.hyps.length)) gf.text 2000=false:=by cases h9:ZaR (ZW (Y4 gf.hyps (Xg fs ag) 0 gf.hyps.length)) gf.text 2000<;>simp_all
    have eU:(QZ d.vars (ge d.frames i).wide gf (Xg fs ag))=([],15):=ux_15 e6 e8 e9
    refine qso tb hJ [1000,1001] [_,_] [_,_] ?_
    exact tw (fun h=>Ym h (m:=0) (s:=6) rfl) (ZB (fun a w h=>Yh (m:=0) (k:=1) rfl (ZM h) rfl rfl (congrArg (fun z=>AV.rd (Zi z)) (show([]:List BA)=((QZ d.vars (ge d.frames i).wide gf (Xg fs ag)).1)from by first | (rw[eU];done) | (rw[eU,if_neg (by simp[e9])]))) (eI (by first | (rw[eU];done) | (rw[eU,if_neg (by simp[e9])])))))
   ·
    try simp at hb6
    have e9:ZaR (ZW (Y4 gf.hyps (Xg fs ag) 0 gf.hyps.length)) gf.text 2000=true:=by cases h9:ZaR (ZW (Y4 gf.hyps (Xg fs ag) 0 gf.hyps.length)) gf.text 2000<;>simp_all
    refine tw (sa 3 rfl (show(.rd (Zi (((if ZaR (ZW ((Y4 gf.hyps (Xg fs ag) 0 gf.hyps.length))) gf.text 2000 then Xm (ZW ((Y4 gf.hyps (Xg fs ag) 0 gf.hyps.length))) gf.text else [])))):AV)= .rd (Zi (Xm (ZW (Y4 gf.hyps (Xg fs ag) 0 gf.hyps.length)) gf.text))from by rw[if_pos e9])) (Za (nx (ln 3 fun hl7=>?_)))
    refine Zd (Zd (fun a w h=>Xj (γ:=Nat) (fun ix'=>([.rd (ZdH ((Y4 gf.hyps (Xg fs ag) 0 gf.hyps.length))),.ptr [Xa gf.apart,Zi gf.text,Xl gf.dummies,Xa gf.wide,Zi gf.proof],.rd (Xa gf.apart),.at bc 0,.at bc 0,.at bc 0,.at bc 1,.rd (Zi d.vars),.at bc 0,.at bc 0,.at bc 0,.at bc 2,.rd (Zg1 d.frames),.at bc 0,.at bc 0,.at bc 3,.int (i:Nat),.ptr (frC (ge d.frames i)),.ptr [Xa ((ge d.frames i).wide),Zi ((ge d.frames i).proof)],.rd (Xa ((ge d.frames i).wide)),.tup [.agg (prC ((Zd2 ((Y4 gf.hyps (Xg fs ag) 0 gf.hyps.length)) gf.apart d.vars ((ge d.frames i).wide)))),.bool (Zfr ((Y4 gf.hyps (Xg fs ag) 0 gf.hyps.length)) gf.apart d.vars ((ge d.frames i).wide))],.tup [.agg (prC ((Zd2 ((Y4 gf.hyps (Xg fs ag) 0 gf.hyps.length)) gf.apart d.vars ((ge d.frames i).wide)))),.bool (Zfr ((Y4 gf.hyps (Xg fs ag) 0 gf.hyps.length)) gf.apart d.vars ((ge d.frames i).wide))],.agg (prC ((Zd2 ((Y4 gf.hyps (Xg fs ag) 0 gf.hyps.length)) gf.apart d.vars ((ge d.frames i).wide)))),.bool (Zfr ((Y4 gf.hyps (Xg fs ag) 0 gf.hyps.length)) gf.apart d.vars ((ge d.frames i).wide)),.any,.any,.bool (Zfr ((Y4 gf.hyps (Xg fs ag) 0 gf.hyps.length)) gf.apart d.vars ((ge d.frames i).wide))]:List AV).getD ix' .any) (fun _=>true) [(14,fun _=>.rd (Zi (Xm (ZW (Y4 gf.hyps (Xg fs ag) 0 gf.hyps.length)) gf.text))),(17,fun _=>.bool (Zfr ((Y4 gf.hyps (Xg fs ag) 0 gf.hyps.length)) gf.apart d.vars ((ge d.frames i).wide)))] (fun j' g=>match j' with | 0=>[] | 1=>[OB.var g [.lit (.string (⟨#[]⟩:BA)),.lit (.string (⟨#[]⟩:BA))]] | _=>[OB.var g (prC (((Zd2 ((Y4 gf.hyps (Xg fs ag) 0 gf.hyps.length)) gf.apart d.vars ((ge d.frames i).wide)))))]) (fun k' g=>match k' with | 0=>(.pointer (some ⟨g,0,none⟩)) | _=>undef) [24,25] 2 0 (fun _=>rfl) h hJ YZ rfl rfl rfl rfl rfl rfl hsb ⟨?_,?_,?_,?_,?_,?_,?_,?_,?_,?_,?_,?_,?_,?_,?_,?_,?_,?_,?_,?_,?_,?_,?_,?_,?_,?_,?_,trivial⟩ ⟨?e20_2_0,?e20_2_1,trivial⟩ ⟨.old 3 14 _,.new 26 17 _,trivial⟩ ?n20_2))
    exact oX rfl fun hx hl=>Z7 rfl (hl.env 0 8 _ rfl rfl) hx
    exact oX rfl fun hx hl=>Z4 ZfR rfl (hl.env 2 4 _ rfl rfl) hx
    exact oX rfl fun hx hl=>ZN Zj1 rfl (hl.D 1 103 rfl rfl) hx
    exact oX rfl fun hx hl=>Z7 rfl (hl.env 1 0 _ rfl rfl) hx
    exact oX rfl fun hx hl=>Yk rfl (hl.D 3 105 rfl rfl) hx
    exact oX rfl fun hx hl=>ZV QE rfl (hl.D 4 106 rfl rfl) hx
    exact oX rfl fun hx hl=>ZV ZfT rfl (hl.D 5 107 rfl rfl) hx
    exact oY rfl fun hk hx hl=>Yd Qu rfl (ZS hH hk hx (mo 0 rfl)) (hl.D 6 108 rfl rfl) rfl hx
    exact oX rfl fun hx hl=>Z7 rfl (hl.env 1 0 _ rfl rfl) hx
    exact oX rfl fun hx hl=>Yk rfl (hl.D 8 110 rfl rfl) hx
    exact oX rfl fun hx hl=>ZV QE rfl (hl.D 9 111 rfl rfl) hx
    exact oX rfl fun hx hl=>ZV QG rfl (hl.D 10 112 rfl rfl) hx
    exact oY rfl fun hk hx hl=>Yd ZfI rfl (ZS hH hk hx (mo 0 rfl)) (hl.D 11 113 rfl rfl) rfl hx
    exact oX rfl fun hx hl=>Z7 rfl (hl.env 1 0 _ rfl rfl) hx
    exact oX rfl fun hx hl=>Yk rfl (hl.D 13 115 rfl rfl) hx
    exact oX rfl fun hx hl=>ZV Zc6 rfl (hl.D 14 116 rfl rfl) hx
    exact oY rfl fun hk hx hl=>Yd ZiF rfl (ZS hH hk hx (mo 0 rfl)) (hl.D 15 117 rfl rfl) rfl hx
    exact oX rfl fun hx hl=>ZK (i:=((i:Nat):Int)) Z5 rfl (hl.D 12 114 rfl rfl) (hl.D 16 118 rfl rfl) nnn (ZR (xs:=d.frames) (k:=i) (by first | omega | (simp;omega) | grind[Zj])) rfl hx
    exact oX rfl fun hx hl=>Z4 ZfQ rfl (hl.D 17 119 rfl rfl) hx
    exact oX rfl fun hx hl=>ZN Zj1 rfl (hl.D 18 120 rfl rfl) hx
    exact oY rfl fun hk hx hl=>ZcZ (ZpZ hJ ((Y4 gf.hyps (Xg fs ag) 0 gf.hyps.length)) gf.apart d.vars ((ge d.frames i).wide) (ZcM (fun t ht=>(het t ht).2) oz) (by exact hwd)) ZrD rfl (Zy hS _ hk hx) (hx.1) (Zb (hl.D 0 102 rfl rfl) (Zb (hl.D 2 104 rfl rfl) (Zb (hl.D 7 109 rfl rfl) (Zb (hl.D 19 121 rfl rfl) Zk)))) (jo hJ hx)
    exact oX rfl fun hx hl=>Z7 rfl (hl.D 20 122 rfl rfl) hx
    exact oX rfl fun hx hl=>YD rfl (hl.D 21 101 rfl rfl) rfl hx
    exact oX rfl fun hx hl=>YD rfl (hl.D 21 101 rfl rfl) rfl hx
    exact Zr rfl
    exact Zr rfl
    exact oX rfl fun hx hl=>Xk rfl (hl.D 23 124 rfl rfl) hx
    case e20_2_0=>exact⟨_,rfl,rfl,rfl,rfl,fun g _ w hk hx _ _=>ZC (Zbh Xo hJ rfl hk hx) fun v w' ⟨g',hv,hp⟩=>⟨g',rfl,fun k' hk'=>absurd hk' (Nat.not_lt_zero _),fun _=>hv,hp⟩⟩
    case e20_2_1=>exact⟨_,rfl,rfl,rfl,rfl,fun g a w hk hx hl hs=>(by obtain⟨us2,hv2,hr3⟩:=Zaz (hl.D 22 123 rfl rfl);exact ZC (X8 (S':=S) (off:=0) (news:=[_,_]) (es:=[_,_]) (us:=us2) hJ hJ0 YF rfl hk hx (Zdm (hs 0 24 _ 16 oz rfl rfl rfl)) (by rw[hv2];rfl) hr3 (lb rfl) rfl) fun v w' hp=>⟨g,rfl,fun _ _=>rfl,fun e=>(by cases e),hp⟩)⟩
    clear a w h
    intro b4
    dsimp only[List.map]
    refine kw YB (nx (ln 0 fun hl8=>?_))
    refine qso tb hJ [0,1000] [_] [_,_] ?_
    refine cj 1 (fun hb7=>?_) fun hb7=>?_
    ·
     try simp at hb7
     have eU:(QZ d.vars (ge d.frames i).wide gf (Xg fs ag))=([],26):=ux_26 e6 e8 e9 hb7
     refine qso tb hJ [1000,1001] [_,_] [_,_] ?_
     exact tw (fun h=>Ym h (m:=0) (s:=6) rfl) (ZB (fun a w h=>Yh (m:=0) (k:=1) rfl (ZM h) rfl rfl (congrArg (fun z=>AV.rd (Zi z)) (show([]:List BA)=((QZ d.vars (ge d.frames i).wide gf (Xg fs ag)).1)from by first | (rw[eU];done) | (rw[eU,if_neg (by simp[e9])]))) (eI (by first | (rw[eU];done) | (rw[eU,if_neg (by simp[e9])])))))
    ·
     try simp at hb7
     have eU:(QZ d.vars (ge d.frames i).wide gf (Xg fs ag))=(Xm (ZW (Y4 gf.hyps (Xg fs ag) 0 gf.hyps.length)) gf.text,0):=ux_ok e6 e8 e9 hb7
     refine Za (nx (qso tb hJ [1001,1002] [_,_,_] [_,_] ?_))
     exact ZB (fun a w h=>Yh (m:=0) (k:=1) rfl (ZM h) rfl rfl (congrArg (fun z=>AV.rd (Zi z)) (show((Xm (ZW (Y4 gf.hyps (Xg fs ag) 0 gf.hyps.length)) gf.text))=((QZ d.vars (ge d.frames i).wide gf (Xg fs ag)).1)from by first | (rw[eU];done) | (rw[eU,if_neg (by simp[e9])]))) (eI (by first | (rw[eU];done) | (rw[eU,if_neg (by simp[e9])]))))
end Go.Proofs.YtaigaoflehfdcaaGreatDoor
set_option maxHeartbeats 8000000
set_option maxRecDepth 100000
namespace Go.Proofs.YtaigaoflehfdcaaGreatDoor
open Go.Proofs.Tryz (prog)
open Go.RowKit
theorem ZrG:Zl prog 108:=Zt Tryz.func108 rfl rfl
theorem Zua:Zl prog 72:=Zt Tryz.func72 rfl rfl
theorem Zt9:Zl prog 73:=Zt Tryz.func73 rfl rfl
theorem Ztq {J:WP} (hJ:Stab J) (f:Fr) (s:BA)  :Fn prog J 108 [.agg (frC f),.ptr [.lit (.string s)]] (.bool (decide (f.label=s))):=by
 refine fE Tryz.func108 fun S w0 hS hJ0=>?_
 clear hJ0
 refine hqs tb hJ [1,1000] [.ptr (frC f),_] [0] [_,_] rfl ⟨iBs hS hJ,trivial⟩ ?_
 refine qs tb hJ [1004] [_,_,_,_,_] [_] ?_
 exact tRn 0 (hE:=rfl)
theorem p_Find {J:WP} (hJ:Stab J) (d:Db) (s:BA)  :Fn prog J 72 [.agg (dbC d),.str s] (.int (Zda d s)):=by
 refine fE Tryz.func72 fun S w0 hS hJ0=>?_
 clear hJ0
 refine hqs tb hJ [1000,1001] [.ptr (dbC d),.ptr [.lit (.string s)],_] [0,1] [_,_] rfl ⟨iBs hS hJ,fun _ _ hk hx hl _=>Zdn rfl (hl.env 1 1 _ rfl rfl) (hS _ hk.size) (js hJ hx),trivial⟩ ?_
 refine hqs tb hJ [1001,1004] [_,_,.fn 108 [.ptr [.lit (.string s)]],.int (Qc (fun(f':Fr)=>decide (f'.label=s)) d.frames),_] [2,3] [_,_] rfl ⟨fun _ _ _ hx hl _=>XV (caps:=[(Go.Operand.tmp 3)]) rfl (Zb (hl.env 1 3 _ rfl rfl) Zk) hx,fun _ _ hk hx hl _=>Y6 (Zdr hJ d.frames 108 [.ptr [.lit (.string s)]] [] (fun(f':Fr)=>decide (f'.label=s)) (fun q'=>(Ztq hJ q' s).r) (ZrG)) Zoq rfl (nm hS hk) (hx) ZI (Zb (hl.D 1 6 rfl rfl) (Zb (hl.D 2 7 rfl rfl) Zk)) (js hJ hx),trivial⟩ ?_
 refine ln 0 fun hl1=>?_
 exact tRn 1 (hE:=eI (rfl))
theorem Zlj {J:WP} (hJ:Stab J) (bc:Nat) (d:Db) (i:Nat) (fv:Value) (fs:List (List BA)) (s:Stp) (hi:i<d.frames.length) (hck:ZbN d=0) (hfs:∀ t∈fs,1≤t.length∧t.length≤2000) (hag:∀ j,j<s.args.length→0≤ge s.args j∧ge s.args j< (fs.length:Int)) (hwd:(ge d.frames i).wide.length*32≤140737488351232):FnR prog J 41 [OB.var bc [Zi d.consts,Zi d.vars,Zg1 d.frames,.lit (.int .i64 (((i:Nat):Int))),.lit fv],OB.row fv 22 1 (fs.map Q2)] [.at bc 0,.agg (spC s)] (.tup [.rd (Zi ((Qa d i s fs).1)),.int ((Qa d i s fs).2)]):=by
 refine fER Tryz.func41 fun S w0 hS hJ0 hH=>?_
 refine tw Z6 ?_
 have hgh:ZtJ (ge d.frames i):=(ZcC hck _ (Zj hi)).2.2
 refine ZE tb hJ [0,1000] [.ptr (spC s),_,_] [0] [_,_] rfl ⟨iBo hS hJ,trivial⟩ ?_
 refine Zd (qso tb hJ [0,1,1002] [_,_,_] [_,_,_] ?_)
 refine cj 2 (fun hb1=>?_) fun hb1=>?_
 ·
  have eU:=sg_27 (d:=d) (i:=i) (s:=s) (a:=fs) (by simpa using hb1)
  refine qso tb hJ [1000,1001] [_,_] [_,_] ?_
  exact tw (fun h=>Ym h (m:=0) (s:=4) rfl) (ZB (fun a w h=>Yh (m:=0) (k:=1) rfl (ZM h) rfl rfl (congrArg (fun z=>AV.rd (Zi z)) (show([]:List BA)=((Qa d i s fs).1)from by rw[eU])) (eI (by rw[eU]))))
 ·
  have h0:¬ s.label=⟨#[63]⟩:=by simpa using hb1
  refine Za (nx (Zd (Zd (fun a w h=>Xj (γ:=Nat) (fun ix'=>([.at bc 0,.at bc 0,.at bc 0,.at bc 2,.rd (Zg1 d.frames),.at bc 0,.at bc 0,.at bc 3,.int (i:Nat),.ptr (frC (ge d.frames i)),.agg (frC (ge d.frames i)),.ptr (spC s),.str s.label,.tup [.agg (hyC ((((X0 (ge d.frames i) s.label).getD default)))),.bool ((X0 (ge d.frames i) s.label).isSome)],.tup [.agg (hyC ((((X0 (ge d.frames i) s.label).getD default)))),.bool ((X0 (ge d.frames i) s.label).isSome)],.agg (hyC ((((X0 (ge d.frames i) s.label).getD default)))),.bool ((X0 (ge d.frames i) s.label).isSome),.any,.any,.bool ((X0 (ge d.frames i) s.label).isSome)]:List AV).getD ix' .any) (fun _=>true) [(0,fun _=>.at bc 0),(3,fun _=>.ptr (spC s)),(6,fun g=>.at g 0),(7,fun _=>.bool ((X0 (ge d.frames i) s.label).isSome))] (fun j' g=>match j' with | 0=>[] | 1=>[OB.var g [.lit (.string (⟨#[]⟩:BA)),.lit (.bool false),Zi ([]:List BA)]] | _=>[OB.var g (hyC (((((X0 (ge d.frames i) s.label).getD default)))))]) (fun k' g=>match k' with | 0=>(.pointer (some ⟨g,0,none⟩)) | _=>undef) [17,18] 2 0 (fun _=>rfl) h hJ YZ rfl rfl rfl rfl rfl rfl hsb ⟨?_,?_,?_,?_,?_,?_,?_,?_,?_,?_,?_,?_,?_,?_,?_,?_,?_,?_,?_,?_,trivial⟩ ⟨?e3_1_0,?e3_1_1,trivial⟩ ⟨.old 0 0 _,.old 1 3 _,.eff 0 17 6 (fun g=>(.pointer (some ⟨g,0,none⟩))) rfl rfl (fun _=>rfl) (fun _=>True.intro),.new 19 7 _,trivial⟩ ?n3_1))))
  exact oX rfl fun hx hl=>Z7 rfl (hl.env 0 0 _ rfl rfl) hx
  exact oX rfl fun hx hl=>Yk rfl (hl.D 0 13 rfl rfl) hx
  exact oX rfl fun hx hl=>ZV QE rfl (hl.D 1 14 rfl rfl) hx
  exact oX rfl fun hx hl=>ZV QG rfl (hl.D 2 15 rfl rfl) hx
  exact oY rfl fun hk hx hl=>Yd ZfI rfl (ZS hH hk hx (mo 0 rfl)) (hl.D 3 16 rfl rfl) rfl hx
  exact oX rfl fun hx hl=>Z7 rfl (hl.env 0 0 _ rfl rfl) hx
  exact oX rfl fun hx hl=>Yk rfl (hl.D 5 18 rfl rfl) hx
  exact oX rfl fun hx hl=>ZV Zc6 rfl (hl.D 6 19 rfl rfl) hx
  exact oY rfl fun hk hx hl=>Yd ZiF rfl (ZS hH hk hx (mo 0 rfl)) (hl.D 7 20 rfl rfl) rfl hx
  exact oX rfl fun hx hl=>ZK (i:=((i:Nat):Int)) Z5 rfl (hl.D 4 17 rfl rfl) (hl.D 8 21 rfl rfl) nnn (ZR (xs:=d.frames) (k:=i) (by first | omega | (simp;omega) | grind[Zj])) rfl hx
  exact oX rfl fun hx hl=>ZcY ZkO rfl (hl.D 9 22 rfl rfl) nlr hx
  exact oX rfl fun hx hl=>Z4 ZfP rfl (hl.env 1 3 _ rfl rfl) hx
  exact oX rfl fun hx hl=>ZN QN rfl (hl.D 11 24 rfl rfl) hx
  exact oY rfl fun hk hx hl=>ZcZ (p_Hyp hJ (ge d.frames i) s.label (by exact fun h hh=>(hgh h hh).2)) Zub rfl (Zy hS _ hk hx) (hx.1) (Zb (hl.D 10 23 rfl rfl) (Zb (hl.D 12 25 rfl rfl) Zk)) (jo hJ hx)
  exact oX rfl fun hx hl=>Z7 rfl (hl.D 13 26 rfl rfl) hx
  exact oX rfl fun hx hl=>YD rfl (hl.D 14 12 rfl rfl) rfl hx
  exact oX rfl fun hx hl=>YD rfl (hl.D 14 12 rfl rfl) rfl hx
  exact Zr rfl
  exact Zr rfl
  exact oX rfl fun hx hl=>Xk rfl (hl.D 16 28 rfl rfl) hx
  case e3_1_0=>exact⟨_,rfl,rfl,rfl,rfl,fun g _ w hk hx _ _=>ZC (Zbh YM hJ rfl hk hx) fun v w' ⟨g',hv,hp⟩=>⟨g',rfl,fun k' hk'=>absurd hk' (Nat.not_lt_zero _),fun _=>hv,hp⟩⟩
  case e3_1_1=>exact⟨_,rfl,rfl,rfl,rfl,fun g _ w hk hx hl hs=>(by obtain⟨us2,hv2,hr3⟩:=Zaz (hl.D 15 27 rfl rfl);exact ZC (X8 (S':=S) (off:=0) (news:=[_,_,_]) (es:=[_,_,_]) (us:=us2) hJ hJ0 YO rfl hk hx (Zdm (hs 0 17 _ 6 oz rfl rfl rfl)) (by rw[hv2];rfl) hr3 (lb rfl) rfl) fun v w' hp=>⟨g,rfl,fun _ _=>rfl,fun e=>(by cases e),hp⟩)⟩
  clear a w h
  intro b1
  dsimp only[List.map]
  refine kw (fun h=>Yn hS h (m:=2) (s:=6) rfl) (nx (qso tb hJ [0,1,2,1000] [_] [_,_,_,_] ?_))
  refine cj 3 (fun hb2=>?_) fun hb2=>?_
  ·
   refine Zd (ZE tb hJ [0,1001,1003] [_,_,.int (s.args.length:Nat),_] [2] [_,_,_] rfl ⟨ZX YV,trivial⟩ ?_)
   refine ln 1 fun hl1=>?_
   refine cj 2 (fun hb3=>?_) fun hb3=>?_
   ·
    try simp at hb3
    have eU:=Zsi (a:=fs) h0 hb2 oz
    refine qso tb hJ [1000,1001] [_,_] [_,_] ?_
    exact tw (fun h=>Ym h (m:=0) (s:=4) rfl) (ZB (fun a w h=>Yh (m:=0) (k:=1) rfl (ZM h) rfl rfl (congrArg (fun z=>AV.rd (Zi z)) (show([]:List BA)=((Qa d i s fs).1)from by rw[eU])) (eI (by rw[eU]))))
   ·
    try simp at hb3
    have eU:=Zsh (a:=fs) h0 hb2 (by simpa using hb3)
    have e3:(((X0 (ge d.frames i) s.label).getD default).text).length≤2000:=by obtain⟨y,hy⟩:=Option.isSome_iff_exists.1 hb2;rw[hy];exact(hgh y (List.mem_of_find?_eq_some hy)).2
    refine Za (nx (tsq (snK 2 tb rfl (ZaZ (O:=[]) (R:=[]) (ZjY hJ (((((X0 (ge d.frames i) s.label).getD default))).text) oz) Zom rfl rfl rfl (lb rfl) hS hJ0 ZI (fun a w h=>(Zb (h.get 0 rfl) Zk)) fun z2=>?_))))
    refine snK 2 tb rfl (seK [0,1,3] [_,_,_] rfl ?_)
    refine nx (ln 2 fun hl2=>?_)
    exact tw (fun h=>ZF hS h (m:=1) (s:=4) rfl) (ZB (fun a w h=>Yh (m:=0) (k:=1) rfl (ZM h) rfl rfl (congrArg (fun z=>AV.rd (Zi z)) (show((((((X0 (ge d.frames i) s.label).getD default))).text))=((Qa d i s fs).1)from by rw[eU])) (eI (by rw[eU]))))
  ·
   have e2:(X0 (ge d.frames i) s.label)=none:=by cases h9:(X0 (ge d.frames i) s.label)with | none=>rfl | some y=>rw[h9]at hb2;cases hb2
   refine Za (nx (ZE tb hJ [1,2,1007] [_,.at bc 0,.at bc 0,.agg (dbC d),_,_,.int (Zda d s.label),_] [1,2,3,6] [_,_,_] rfl ⟨fun _ _ _ hx hl _=>Yk rfl (hl.D 0 37 rfl rfl) hx,fun _ _ _ hx hl _=>ZV QE rfl (hl.D 1 38 rfl rfl) hx,fun _ _ hk hx hl _=>Q5 (ds:=[Zi d.consts,Zi d.vars,Zg1 d.frames]) Zr5 rfl (ZS hH hk hx (mo 0 rfl)) (hl.D 2 39 rfl rfl) rfl rfl hx,iFo hS hJ (p_Find hJ d s.label) Zua,trivial⟩ ?_))
   refine Zd (Zc (ZE tb hJ [0,1,2,1010] [_,_,_,_,_,.at bc 0,.at bc 3,.int (i:Nat),_,_,_] [5,6,7] [_,_,_,_] rfl ⟨fun _ _ _ hx hl hc=>Yk rfl (hl.D 4 49 rfl hc) hx,fun _ _ _ hx hl hc=>ZV Zc6 rfl (hl.D 5 50 rfl hc) hx,fun _ _ hk hx hl hc=>Yd ZiF rfl (ZS hH hk hx (mo 0 rfl)) (hl.D 6 51 rfl hc) rfl hx,trivial⟩ ?_))
   refine cj 3 (fun hb4=>?_) fun hb4=>?_
   ·
    have eU:=sg_22 (a:=fs) h0 e2 (show(Yq d i s.label)<0 by rw[Zqs oz (by simpa [-Int.not_lt]using hb4)];decide)
    refine qso tb hJ [1000,1001] [_,_] [_,_] ?_
    exact tw (fun h=>Ym h (m:=0) (s:=4) rfl) (ZB (fun a w h=>Yh (m:=0) (k:=1) rfl (ZM h) rfl rfl (congrArg (fun z=>AV.rd (Zi z)) (show([]:List BA)=((Qa d i s fs).1)from by rw[eU])) (eI (by rw[eU]))))
   ·
    have e4:¬ Zda d s.label<0∧Zda d s.label< (i:Int):=by simp only[Bool.or_eq_false_iff,decide_eq_false_iff_not]at hb4;omega
    have e7:=Zn1 (d:=d) (i:=i) oz e4.1 e4.2
    have e5:=ZgU (d:=d) (i:=i) (s:=s.label) oz
    have e6:=ZcC hck _ (Zj e5.2.2)
    refine tw (sa 2 rfl (show(.int (Zda d s.label):AV)= .int ((Yq d i s.label).toNat:Nat)from congrArg AV.int oz)) (ZE tb hJ [0,1,2,1001,1007,1011,1014] [_,_,.int (s.args.length:Nat),_,.at bc 0,.at bc 0,.at bc 2,.rd (Zg1 d.frames),_,.ptr (frC ((ge d.frames ((Yq d i s.label).toNat)))),_,_,.int ((((ge d.frames ((Yq d i s.label).toNat))).hyps).length:Nat),_,_] [2,4,5,6,7,9,12] [_,_,_,_,_,_,_] rfl ⟨ZX YV,fun _ _ _ hx hl _=>Yk rfl (hl.D 3 59 rfl rfl) hx,fun _ _ _ hx hl _=>ZV QE rfl (hl.D 4 60 rfl rfl) hx,fun _ _ _ hx hl _=>ZV QG rfl (hl.D 5 61 rfl rfl) hx,fun _ _ hk hx hl _=>Yd ZfI rfl (ZS hH hk hx (mo 0 rfl)) (hl.D 6 62 rfl rfl) rfl hx,iIx Z5,ZX Zx,trivial⟩ ?_)
    refine ln 3 fun hl3=>?_
    refine ln 4 fun hl4=>?_
    refine ln 5 fun hl5=>?_
    refine cj 6 (fun hb5=>?_) fun hb5=>?_
    ·
     try simp at hb5
     have eU:=sg_23 (a:=fs) h0 e2 oz oz
     refine qso tb hJ [1000,1001] [_,_] [_,_] ?_
     exact tw (fun h=>Ym h (m:=0) (s:=4) rfl) (ZB (fun a w h=>Yh (m:=0) (k:=1) rfl (ZM h) rfl rfl (congrArg (fun z=>AV.rd (Zi z)) (show([]:List BA)=((Qa d i s fs).1)from by rw[eU])) (eI (by rw[eU]))))
    ·
     try simp at hb5
     have eU:=Zsg (a:=fs) h0 e2 oz (show s.args.length=(ge d.frames (Yq d i s.label).toNat).hyps.length by omega)
     refine Za (nx (ZE tb hJ [1012,1014,1015] [_,_,.at bc 0,.at bc 0,.at bc 2,.rd (Zg1 d.frames),_,.ptr (frC ((ge d.frames ((Yq d i s.label).toNat)))),_,_,_,.tup [.rd (Zi (((QZ d.vars (ge d.frames i).wide ((ge d.frames ((Yq d i s.label).toNat))) (Xg fs s.args)).1))),.int ((QZ d.vars (ge d.frames i).wide ((ge d.frames ((Yq d i s.label).toNat))) (Xg fs s.args)).2)],_,_,_,_] [2,3,4,5,7,11] [_,_,_] rfl ⟨fun _ _ _ hx hl _=>Yk rfl (hl.D 1 71 rfl rfl) hx,fun _ _ _ hx hl _=>ZV QE rfl (hl.D 2 72 rfl rfl) hx,fun _ _ _ hx hl _=>ZV QG rfl (hl.D 3 73 rfl rfl) hx,fun _ _ hk hx hl _=>Yd ZfI rfl (ZS hH hk hx (mo 0 rfl)) (hl.D 4 74 rfl rfl) rfl hx,iIx Z5,fun _ _ hk hx hl _=>Y6 (p_useG hJ bc d i fv fs ((ge d.frames ((Yq d i s.label).toNat))) s.args (by exact hi) (by exact hfs) (by exact hag) oz (by exact e6.1.2) (by exact e6.1.1) (by exact hwd)) Zt9 rfl (Zy hS _ hk hx) (hx.1) (ZT (ZS hH hk hx (mo 0 rfl)) (ZT (ZS hH hk hx (mo 1 rfl)) ZI)) (Zb (hl.D 0 70 rfl rfl) (Zb (hl.D 8 78 rfl rfl) (Zb (hl.D 10 80 rfl rfl) Zk))) (jo hJ hx),trivial⟩ ?_))
     refine ln 0 fun hl6=>?_
     exact ZB (fun a w h=>Yh (m:=1) (k:=2) rfl (ZM h) rfl rfl (congrArg (fun z=>AV.rd (Zi z)) (show(((QZ d.vars (ge d.frames i).wide ((ge d.frames ((Yq d i s.label).toNat))) (Xg fs s.args)).1))=((Qa d i s fs).1)from by rw[eU])) (eI (by rw[eU])))
end Go.Proofs.YtaigaoflehfdcaaGreatDoor
set_option maxHeartbeats 8000000
set_option maxRecDepth 100000
namespace Go.Proofs.YtaigaoflehfdcaaGreatDoor
open Go.RowKit
theorem ZcK:Zf4 Tryz.prog 38 [.int .i64 0,.int .i64 0]:=⟨fun i=>(#[(0,1),(1,1)]:Array (Nat×Nat))[i]?,fun j hj=>by rcases j with _ | _ | j<;>first | rfl | (simp at hj;omega) | simp at hj,fun parts=>by kernel_rfl⟩
end Go.Proofs.YtaigaoflehfdcaaGreatDoor
