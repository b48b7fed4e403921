/-
  CONTRACTS: the size of a proof; whether a change holds.
  CONTRACTS: what comes of a change; Check.
  THE LAW MinimizeShorter returns true.
-/
import Derived.Test.YtdfadihhfppjaaaGreatDoorQAC
set_option maxHeartbeats 8000000
set_option maxRecDepth 100000
namespace Go.Proofs.YtdfadihhfppjaaaGreatDoor
open Go.Proofs.Tryz (prog)
open Go.RowKit
theorem Zxw:Zi prog 82:=Zm Tryz.func82 Y Y
theorem Zub:Zi prog 110:=Zm Tryz.func110 Y Y
theorem Zxv:Zi prog 83:=Zm Tryz.func83 Y Y
theorem ZxD:Zi prog 50:=Zm Tryz.func50 Y Y
theorem Zxz:Zi prog 66:=Zm Tryz.func66 Y Y
section
variable {J:WP} (hJ:Stab J)
include hJ
theorem Zie (ss:List Stp)  :Fn prog J 82 [.agg (pfC ss)] (.fn 110 [.ptr (pfC ss)]):=by
 refine fE Tryz.func82 fun S w0 hS hJ0=>?_
 clear hJ0
 refine hqs tb hJ [1000] [.ptr (pfC ss),_] [0] [_] Y ⟨iBs hS hJ,U⟩ ?_
 refine hqs tb hJ [1001] [.fn 110 [.ptr (pfC ss)],_] [0] [_] Y ⟨fun _ _ _ hx hl _=>YR (caps:=[(.tmp 1)]) Y (Za (hl.env 0 1 _ Y Y) Zc) hx,U⟩ ?_
 exact tRn 0 (hE:=Y)
theorem Zwj (ss:List Stp) (hok:Okay ss):Fn prog J 50 [.agg (pfC ss)] (.tup [.int ((post ss).length:Nat),.int (ge (ZaJ ss) (ss.length-1)),.int 0]):=by
 refine ZcP (N:=25) Tryz.func50 Y Y (lb Y) fun S w0 hS hJ0=>?_
 refine atw Z4 ?_
 have hl0:=hok.1
 have hl1:=hok.2.1
 have hpn:(post ss).length≤2000:=by rw[←Zh0 hok];have:=Zcw ss;omega
 have hsl:(ZaJ ss).length=ss.length:=Xa _ _
 refine Xr (m:=5) ?_
 refine ZO (sq (.ptr (pfC ss)) Y Y (lb Y) (fun _ _ h=>Q1 Y (h.get 0 Y) (Zk hS _ h.keep h.x _ nlr) (jo hJ h.x)) ?_)
 refine Zv ZkV hJ Y Y Y (lb Y) fun b1=>?_
 refine snK 2 tb Y (seK [2,3] U2 Y ?_)
 refine ZdV ?_
 refine Xr (m:=5) ?_
 refine ZF tb hJ [0,1,1002] [_,.int (Zbl ss),_] [1] U3 Y ⟨iFo hS hJ (ZuN hJ ss) ZqN,U⟩ ?_
 refine qso tb hJ [0,1,2,1001] U2 U4 ?_
 refine cj 3 (fun hb1=>?_) fun hb1=>?_
 ·
  try simp at hb1
  exact False.elim (by simp[(Zdl ss).2 hok]at hb1)
 ·
  try simp at hb1
  refine Zb (ZdV ?_)
  refine Zrc ?_
  refine Xr (m:=5) ?_
  refine YU tb hJ [0,1,1001] [_,.fn 110 [.ptr (pfC ss)]] [1] U3 Y ⟨iFo hS hJ (Zie hJ ss) Zxw,U⟩ ?_
  refine ZdV ?_
  refine Zfr ?_
  refine atw (fun h=>XC (p:=(0=([]:List Nat).length)) (Y) h) ?_
  refine ZoN (m:=5) (κ:=Nat) (μ:=Empty) (σ:=Empty) (Zif hJ ss hok) Zub hJ hS hJ0 Zq (fun pre (n:Nat)=>[OB.fct (n=pre.length),OB.var b1 [lI (n:Int)]]) (fun q':Empty=>undef) (fun q'=>[]) (fun s'=>[]) 0 (fun x9=>[(13,.int (x9:Nat)),(2,.at b1 0),(1,.ptr (pfC ss)),(12,.fn 110 [.ptr (pfC ss)])]) (lb Y) Tryz.func50 ?_ ?_ ?_ ?_ ?_ ?_ ?_
  · exact fun a w h=>Zew (h.get 2 Y)
  ·
   rintro m9 l9 R' pre x9 n K9 hK9
   exact Zb (hK9)
  ·
   rintro m9 l9 R' pre x9 n hpre
   refine ZhV fun hF=>?_
   have r1_:n=pre.length:=hF
   have hpl:=hpre.length_le
   rw[List.length_append,List.length_singleton]at hpl
   refine Zd (ZO (sq (.int (n:Nat)) Y Y (lb Y) (fun _ _ h=>Zo Q2 Y (Ze h.x (mo 0 Y)) (h.get 1 Y) Y h.x) ?_))
   refine sy (.int (n+1:Nat)) (fun h=>Znc (i:=(n:Int)) (j:=(1:Int)) Y (h.get 0 Y) (Rel.of_lit (.int .i64 1)) sfz sfz h.x) ?_
   refine Z6 (b:=b1) (off:=0) (es:=[_]) hJ hJ0 QM Y Y Y (lb Y) Y (fun a w h=>⟨(h.get 3 Y),(h.get 0 Y)⟩) ?_
   refine seK [3,4] U2 Y (kw (fun h=>XC (p:=((n+1)=(pre++[x9]).length)) (by rw[r1_];simp) h) ?_)
   exact fun a w h=>⟨(n+1),h.keep,h.x⟩
  ·
   rintro hfl n D
   refine kw pm1 (ZhY fun hF=>?_)
   have r1_:n=(post ss).length:=hF
   refine Zwt (m:=5) ?_
   refine Zgo ?_
   refine dtw pm1 ?_
   refine fun a w h=>ZoH [OB.dfr D] (γ:=Value) (fun ix'=>([.int (n:Nat),.agg (pfC ss),.rd (Z3 (ZaJ ss)),.ptr (pfC ss),.rd (Yv ss),.int (ss.length:Nat),.int (ss.length-1:Nat),.ptr [lI (ge (ZaJ ss) (ss.length-1))],.int (ge (ZaJ ss) (ss.length-1)),.any,.int (ge (ZaJ ss) (ss.length-1)),.int (0:Int)]:List AV).getD ix' .any) (fun _=>true) [(2,fun _=>.at b1 0),(3,fun _=>.int (ge (ZaJ ss) (ss.length-1))),(4,fun _=>.int (0:Int))] (fun(b:List Bool) (g:Value)=>(bif b.getD 1 false then [OB.var b1 [lI (n:Int)]]else [OB.var b1 [lI (n:Int)]])++([OB.dfr D])) (fun k' g=>match k' with | 0=>g | _=>undef) [0,9] undef (fun _=>Y) h hJ Yo Y Y Y Y (fun b g p hp=>(List.mem_append_right _ hp)) ⟨?_,?_,?_,?_,?_,?_,?_,?_,?_,?_,?_,?_,U⟩ ⟨?e6_1_0,?e6_1_1,U⟩ ⟨.old 0 2 _,.new 10 3 _,.new 11 4 _,U⟩ ?n6_1
   exact Zh Y
   exact oX Y fun hx hl=>QG Z5 Y (hl.env 1 1 _ Y Y) nlr hx
   exact oY Y fun hk hx hl=>ZaL (Zv8 hJ ss (by exact hok)) Zxv Y (Zk hS _ hk hx) (hx.1) (Za (hl.D 1 17 Y Y) Zc) (jo hJ hx)
   exact oX Y fun hx hl=>ZG YF Y (hl.env 1 1 _ Y Y) hx
   exact oX Y fun hx hl=>ZB ZaO Y (hl.D 3 19 Y Y) hx
   exact oX Y fun hx hl=>Qw ZN Y (hl.D 4 20 Y Y) hx
   exact oX Y fun hx hl=>ZfY (i:=ss.length) (j:=1) Y (hl.D 5 21 Y Y) (Rel.of_lit (.int .i64 1)) sfz sfz hx
   exact oX Y fun hx hl=>ZM (i:=((ss.length-1:Nat):Int)) Zw Y (hl.D 2 18 Y Y) (hl.D 6 22 Y Y) nnn (ZT (xs:=(ZaJ ss)) (k:=ss.length-1) sfz) Y hx
   exact oX Y fun hx hl=>ZB Q2 Y (hl.D 7 23 Y Y) hx
   exact Zh Y
   exact oX Y fun hx hl=>YA Y (hl.D 8 24 Y Y) hx
   exact fun _ O' _=>⟨Y,fun _ _ _ hx _ _=>YA Y (Rel.of_lit (.int .i64 0)) hx⟩
   case e6_1_0=>exact Zhe [[false,false]] V Y Y Y Y ⟨fun _ _ w hk hx hl _=>Zl (Zo Q2 Y (Ze hx (mo 0 Y)) (hl.env 0 2 _ Y Y) Y hx) fun v w' hp=>⟨v,(fun k' hk'=>by rcases k' with _ | _ | k'<;>first | rfl | cases hk'),fun _=>rfl,hp.1,Zct hJ hk hx hp.2.1⟩,U⟩
   case e6_1_1=>exact Zhe [[true,false]] V Y Y Y Y ⟨fun g _ w hk hx hl _=>Zl (ZcS (off:=0) (es:=[_]) (c:=lI (n:Int)) hJ hJ0 QM Y hk hx (hl.env 0 2 _ Y Y) (hl.D 0 16 Y Y) (lb Y) Y) fun v w' hp=>⟨g,fun _ _=>rfl,fun e=>(by cases e),True.intro,hp⟩,U⟩
   clear a w h
   intro x2
   dsimp only[List.map]
   refine nxD ?_
   refine dtw pm1 ?_
   refine Zqs ?_
   refine outD hJ hJ0 ?_
   exact fun a w h=>ZsC (m:=0) (q:=2) (z:=1) Y Q2 h Y Y Y (congrArg AV.int (show(n:Int)=(((post ss).length:Nat):Int)from by rw[r1_])) (congrArg AV.int (show(ge (ZaJ ss) (ss.length-1))=ge (ZaJ ss) (ss.length-1)from Y)) (congrArg AV.int (show(0:Int)=0 from Y))
  · exact fun s=>s.elim
  · exact fun v h=>by cases h
  · exact fun q=>q.elim
theorem Zpg (ss:List Stp) (hok:Okay ss):Fn prog J 25 [.agg (pfC ss)] (.int ((Yh ss):Nat)):=by
 refine fE Tryz.func25 fun S w0 hS hJ0=>?_
 refine tw Z4 (ZF tb hJ [1000] [.ptr (pfC ss),_] [0] [_] Y ⟨iBo hS hJ,U⟩ ?_)
 refine ZF tb hJ [1006,1008] [_,.tup [.int ((post ss).length:Nat),.int (ge (ZaJ ss) (ss.length-1)),.int 0],_,_,_,_,_,_,_] [1] U2 Y ⟨iFo hS hJ (Zwj hJ ss (by exact hok)) ZxD,U⟩ ?_
 refine Zf (qso tb hJ [0,1001] U2 U2 ?_)
 refine cj 1 (fun hb1=>?_) fun hb1=>?_
 ·
  exact False.elim (by simp at hb1)
 ·
  refine Zb (nx (qso tb hJ [1001] U2 [_] ?_))
  exact tRo 0 (hE:=eI (by rw[Zh0 hok]))
theorem ZrZ (a':Stp) (b':Stp)  :Fn prog J 48 [.agg (spC (a')),.agg (spC (b'))] (.bool (decide (a'=b'))):=by
 refine fE Tryz.func48 fun S w0 hS hJ0=>?_
 clear hJ0
 refine hqs tb hJ [1000,1001] [.ptr (spC (a')),.ptr (spC (b')),_] [0,1] U2 Y ⟨iBs hS hJ,iBs hS hJ,U⟩ ?_
 refine hqs tb hJ [1012] (V10 [.bool (decide (((a').args)=((b').args))),_,_]) [10] [_] Y ⟨iFn hS hJ (Zlz hJ ((a').args) ((b').args)) ZqX,U⟩ ?_
 exact tRn 0 (hE:=eB (by rw[←ZvI]))
theorem ZgS (xs ys:List Stp) (f:FuncId) (caps:List AV) (Os:List OB) (hf:∀ q' r',FnR prog J f Os ([.agg (spC (q')),.agg (spC (r'))]++caps) (.bool (decide (q'=r')))) (hk0:Zi prog f):FnR prog J 47 Os [.rd (Yv xs),.rd (Yv ys),.fn f caps] (.bool (decide (xs=ys))):=by
 refine fER Tryz.func47 fun S w0 hS hJ0 hH=>?_
 refine tw Z4 (ln 0 fun hl1=>?_)
 refine ln 1 fun hl2=>?_
 refine qso tb hJ [0,1,2] [_] U3 ?_
 refine Zf (ZF tb hJ [0,1,2,1004] [_,.int (xs.length:Nat),_,.int (ys.length:Nat),_] [1,3] U4 Y ⟨Ym ZN,Ym ZN,U⟩ ?_)
 refine cj 3 (fun hb1=>?_) fun hb1=>?_
 ·
  try simp at hb1
  refine qso tb hJ [1000] [_] [_] ?_
  exact tRo 0 (hE:=eB (by first | (have:=ZaY (xs:=xs) (ys:=ys) oz (fun j hj=>f1_2 j oz);simp[this];done) | (symm;rw[decide_eq_false_iff_not];intro e;subst e;simp_all;done)))
 ·
  try simp at hb1
  refine Zb (nx (Zf (ZF tb hJ [1,2,1000,1001,1002] [_,.int (xs.length:Nat),_] [1] U5 Y ⟨Ym ZN,U⟩ ?_)))
  refine Zd (lpo (ι:=Nat) (fun k=>(k≤xs.length)∧(∀ j,j<k→ge xs j=ge ys j)) (fun _=>[]) (fun k=>[(17,.int (k:Nat))]) (fun k=>xs.length-k) (r5 []) U4 0 ⟨nzl,fun j hj=>by omega⟩ ?_)
  rintro k ⟨f1_1,f1_2⟩
  refine qso tb hJ (r5 [1000]) [_] U6 ?_
  refine cjS 5 (fun hb2=>?_) fun hb2=>?_
  ·
   try simp at hb2
   refine Zb (nx (Zf (Zd (tsq (snK 1 tb Y (sy (.ptr (spC (ge xs k))) (fun h=>ZM (i:=(k:Int)) Z1 Y (h.get 3 Y) (h.get 5 Y) nnn (ZT (xs:=xs) (k:=k) sfz) Y h.x) ?_))))))
   refine snK 1 tb Y (Zv X4 hJ Y Y Y (lb Y) fun b1=>?_)
   refine snK 1 tb Y (Zn (b:=b1) (off:=0) (es:=U2) (news:=U2) hJ hJ0 Qa Y Y Y (lb Y) Y (fun a w h=>⟨(h.get 1 Y),(h.get 2 Y)⟩) ?_)
   refine seK [0,1,5,6,7,8,9] U7 Y (nx (tsq ?_))
   refine snK 2 tb Y (sy (.ptr (spC (ge ys k))) (fun h=>ZM (i:=(k:Int)) Z1 Y (h.get 1 Y) (h.get 0 Y) nnn (ZT (xs:=ys) (k:=k) sfz) Y h.x) ?_)
   refine snK 1 tb Y (Zv X4 hJ Y Y Y (lb Y) fun b2=>?_)
   refine Zn (b:=b2) (off:=0) (es:=U2) (news:=U2) hJ hJ0 Qa Y Y Y (lb Y) Y (fun a w h=>⟨(h.get 0 Y),(h.get 1 Y)⟩) ?_
   refine seK [0,6,7,8,9,10,11] U7 Y (nx (ZF tb hJ [2,3,4,5,6,1004] [_,.agg (spC (ge xs k)),.agg (spC (ge ys k)),.bool (decide ((ge xs k)=(ge ys k))),_] [1,2,3] U6 Y ⟨fun _ _ _ hx hl _=>Yb (ds:=[lS ((ge xs k).label),Z3 ((ge xs k).args)]) Zc2 Y (Ze hx (mo 1 Y)) (hl.env 1 8 _ Y Y) Y Y hx,fun _ _ _ hx hl _=>Yb (ds:=[lS ((ge ys k).label),Z3 ((ge ys k).args)]) Zc2 Y (Ze hx (mo 0 Y)) (hl.env 0 9 _ Y Y) Y Y hx,fun _ _ hk hx hl _=>Zax (hf (ge xs k) (ge ys k)) hk0 Y (hl.D 0 26 Y Y) (Zk hS _ hk hx) (hx.1) (fun _ ho=>ZJ hH hk hx ho) (Za (hl.D 1 27 Y Y) (Za (hl.D 2 28 Y Y) Zc)) (jo hJ hx),U⟩ ?_))
   refine cj 5 (fun hb3=>?_) fun hb3=>?_
   ·
    try simp at hb3
    refine qso tb hJ [1000] [_] [_] ?_
    exact tRo 0 (hE:=eB (by first | (have:=ZaY (xs:=xs) (ys:=ys) oz (fun j hj=>f1_2 j oz);simp[this];done) | (symm;rw[decide_eq_false_iff_not];intro e;subst e;simp_all;done)))
   ·
    try simp at hb3
    refine Zb (nx (YU tb hJ [0,1,2,3,1001] [.int (k+1:Nat),_] [0] U5 Y ⟨YT,U⟩ ?_))
    refine kw Zz (kw Zz ?_)
    exact Xk (k+1) (r5 []) ⟨oz,Z2 f1_2 (by simpa using hb3)⟩
  ·
   try simp at hb2
   refine Zu (nx (qso tb hJ [1000] [_] [_] ?_))
   exact tRo 0 (hE:=eB (by first | (have:=ZaY (xs:=xs) (ys:=ys) oz (fun j hj=>f1_2 j oz);simp[this];done) | (symm;rw[decide_eq_false_iff_not];intro e;subst e;simp_all;done)))
theorem Zr3 (a:Int) (c:Chg)  :Fn prog J 66 [.int a,.ptr [lI c.reason,lI c.step,lS c.label,Z3 c.args,lI c.before,lI c.after]] (.bool (Zum c a)):=by
 refine fE Tryz.func66 fun S w0 hS hJ0=>?_
 clear hJ0
 refine qs tb hJ [0,1] [_] U2 ?_
 refine qs tb hJ [1008] U9 [_] ?_
 exact tRn 0 (hE:=eB (Y))
theorem Zr4 (d:Db) (i:Nat) (ss:List Stp) (ts:List (List BA)) (M:Nat) (mm:List (BA×Int)) (gf:Fr) (al:List Int) (z:Int) (hW:JobW (⟨d,i,ss,ts,mm⟩:Jb)) (hgm:gf∈d.frames) (hgl:al.length=gf.hyps.length) (hin:∀ a∈al,0≤a∧a<z) (hz0:0≤z) (hz1:z< (ss.length:Int)):Fn prog J 68 [.ptr (jC d i ss ts M),.agg (frC gf),.rd (Z3 al),.int z] (.bool (Zdj (⟨d,i,ss,ts,mm⟩:Jb) gf al z.toNat)):=by
 obtain⟨step,rfl⟩:=Int.eq_ofNat_of_zero_le hz0
 have hl:ts.length=ss.length:=hW.len
 exact Zpb hJ d i ss ts M gf al step (hW.fl gf hgm) hW.hi (fun t ht=>(hW.ts t ht).1) (fun j hj=>by have:=hin _ (Zp hj);omega) hgl oz (hW.gh gf hgm) (fun h hh=>(hW.tx gf hgm h hh).2) hW.wd
theorem Zwa (d:Db) (i:Nat) (ss:List Stp) (ts:List (List BA)) (M:Nat) (mm:List (BA×Int)) (c:Chg) (hW:JobW (⟨d,i,ss,ts,mm⟩:Jb)) (hs0:0≤c.step) (hs1:c.step< (ss.length:Int)) (hcl:c.args.length≤40) (hre:c.reason=1∨c.reason=2):Fn prog J 33 [.ptr (jC d i ss ts M),.agg (chC c)] (.bool (ZaR (⟨d,i,ss,ts,mm⟩:Jb) c)):=by
 refine fE Tryz.func33 fun S w0 hS hJ0=>?_
 refine tw Z4 (ZF tb hJ [0,1000] [.ptr (chC c),_] [0] U2 Y ⟨iBo hS hJ,U⟩ ?_)
 refine Zf (ZF tb hJ [0,1,1001,1003] [_,_,.fn 66 [.ptr (chC c)],.bool (c.args.any (Zum c))] [2,3] U4 Y ⟨fun _ _ _ hx hl _=>YR (caps:=[(.tmp 3)]) Y (Za (hl.env 1 3 _ Y Y) Zc) hx,fun _ _ hk hx hl _=>Y3 (Zbv hJ c.args 66 [.ptr (chC c)] [] (Zum c) (fun q'=>(Zr3 hJ q' c).rr) (Zxz)) ZqR Y (Zk hS _ hk hx) (hx.1) Zq (Za (hl.D 1 9 Y Y) (Za (hl.D 2 10 Y Y) Zc)) (jo hJ hx),U⟩ ?_)
 refine ln 2 fun hl1=>?_
 refine cj 3 (fun hb1=>?_) fun hb1=>?_
 ·
  have eH:=ZsQ (j:=(⟨d,i,ss,ts,mm⟩:Jb)) (c:=c) hb1
  refine qso tb hJ [1000] [_] [_] ?_
  exact tRo 0 (hE:=eB (by first | (rw[eH];done) | (rw[eH];exact ZcM)))
 ·
  have hin:=Zp1 hb1
  have hlt:ts.length=ss.length:=hW.len
  have hdi:i<d.frames.length:=hW.hi
  refine Zb (nx (Zf (qso tb hJ [0,1,1002] U3 U3 ?_)))
  refine cj 2 (fun hb2=>?_) fun hb2=>?_
  ·
   try simp at hb2
   refine ZF tb hJ [0,1,1030] (V6 [.int (c.args.length:Nat),_,_,_,_,_,_,_,_,_,.ptr [lI (ge c.args 0)],_,.ptr [Zg (ge ts (ge c.args 0).toNat)],_,_,_,_,_,_,_,.ptr [Zg (ge ts c.step.toNat)],_,.bool (decide ((ge ts (ge c.args 0).toNat)=(ge ts c.step.toNat))),_,_]) [6,16,18,26,28] U3 Y ⟨Ym YL,gIx (k:=0) Zw (hk:=fun(hc':(((!decide (c.label=(⟨#[]⟩:BA)))|| (!decide ((c.args.length:Int)=(1:Int))))==false)=true)=>by(try simp at hc');first | omega | (simp;omega) | grind[Zp]),fun _ _ _ hx hl hc=>ZM (i:=(ge c.args 0)) Z8 Y (hl.D 13 28 Y hc) (hl.D 17 32 Y hc) (by have hc':(((!decide (c.label=(⟨#[]⟩:BA)))|| (!decide ((c.args.length:Int)=(1:Int))))==false)=true:=hc;(try simp at hc');(first | omega | (simp;omega) | grind[Zp])) (Zda (xs:=ts) (i:=(ge c.args 0)) (by have hc':(((!decide (c.label=(⟨#[]⟩:BA)))|| (!decide ((c.args.length:Int)=(1:Int))))==false)=true:=hc;(try simp at hc');(first | omega | (simp;omega) | grind[Zp])) (by have hc':(((!decide (c.label=(⟨#[]⟩:BA)))|| (!decide ((c.args.length:Int)=(1:Int))))==false)=true:=hc;(try simp at hc');(first | omega | (simp;omega) | grind[Zp]))) Y hx,fun _ _ _ hx hl hc=>ZM (i:=c.step) Z8 Y (hl.D 23 38 Y hc) (hl.D 25 40 Y hc) (by have hc':(((!decide (c.label=(⟨#[]⟩:BA)))|| (!decide ((c.args.length:Int)=(1:Int))))==false)=true:=hc;(try simp at hc');(first | omega | (simp;omega) | grind[Zp])) (Zda (xs:=ts) (i:=c.step) (by have hc':(((!decide (c.label=(⟨#[]⟩:BA)))|| (!decide ((c.args.length:Int)=(1:Int))))==false)=true:=hc;(try simp at hc');(first | omega | (simp;omega) | grind[Zp])) (by have hc':(((!decide (c.label=(⟨#[]⟩:BA)))|| (!decide ((c.args.length:Int)=(1:Int))))==false)=true:=hc;(try simp at hc');(first | omega | (simp;omega) | grind[Zp]))) Y hx,iFo hS hJ (ZdR hJ (ge ts (ge c.args 0).toNat) (ge ts c.step.toNat)) Zhm,U⟩ ?_
   refine cj 2 (fun hb3=>?_) fun hb3=>?_
   ·
    have eH:ZaR (⟨d,i,ss,ts,mm⟩:Jb) c=false:=Zp0 (by rw[ZcL,if_pos hb2,decide_eq_false_iff_not];rintro⟨h1,h2,h3⟩;dsimp only at h3;simp[h1,h2,h3]at hb3)
    refine qso tb hJ [1000] [_] [_] ?_
    exact tRo 0 (hE:=eB (by first | (rw[eH];done) | (rw[eH];exact ZcM)))
   ·
    simp only[Bool.or_eq_false_iff,Bool.not_eq_false',decide_eq_true_eq]at hb3
    have hk3:ZcL (⟨d,i,ss,ts,mm⟩:Jb) c=true:=by rw[ZcL,if_pos hb2];exact decide_eq_true ⟨hb3.1.1,oz,hb3.2⟩
    have hc1:c.reason=2∨1≤c.args.length:=.inr oz
    have eH:=ZlR hb1 hk3
    refine Zb (nx (tsq (snK 2 tb Y (sy (.tup [.agg (chC (X3 ss c)),.bool (decide ((((Y6 ss c).length:Nat):Int)< ((Yh ss:Nat):Int)))]) (fun h=>ZaL (Zpa hJ d i ss ts M c (by exact hW.ok) (by exact hs0) (by exact hs1) (by exact hin) (by exact hcl) (by exact hc1)) Zky Y (Zk hS _ h.keep h.x) (h.x.1) (Za (h.get 1 Y) (Za (h.get 0 Y) Zc)) (jo hJ h.x)) ?_))))
    refine snK 3 tb Y (Zv Y0 hJ Y Y Y (lb Y) fun b1=>?_)
    refine Zn (b:=b1) (off:=0) (es:=U6) (news:=U6) hJ hJ0 Qb Y Y Y (lb Y) Y (fun a w h=>⟨(h.get 0 Y),(h.get 2 Y)⟩) ?_
    refine snK 1 tb Y (seK [0,1,9] U3 Y ?_)
    refine nx (ZF tb hJ [1015] [_,_,.at b1 4,.int ((X3 ss c).before),_,_,_,_,_,.at b1 5,.int ((X3 ss c).after),_,_,_,_,_] [2,3,9,10] [_] Y ⟨fun _ _ _ hx hl _=>Zx ZbQ Y (hl.env 1 6 _ Y Y) hx,fun _ _ _ hx hl hc=>Zo Q2 Y (Ze hx (mo 0 Y)) (hl.D 2 104 Y hc) Y hx,fun _ _ _ hx hl _=>Zx ZbP Y (hl.env 1 6 _ Y Y) hx,fun _ _ _ hx hl hc=>Zo Q2 Y (Ze hx (mo 0 Y)) (hl.D 9 111 Y hc) Y hx,U⟩ ?_)
    exact tRo 0 (hE:=eB (by first | (rw[eH];done) | (rw[eH];exact ZcM)))
  ·
   try simp at hb2
   refine ZF tb hJ [0,1,1007] (V6 [.int (Yk d c.label),_]) [6] U3 Y ⟨iFo hS hJ (ZuR hJ d c.label) ZqQ,U⟩ ?_
   refine ZF tb hJ [0,1,1042] (V13 [.int (c.args.length:Nat),_,_,_,_,_,_,.ptr (frC (ge d.frames (Yk d c.label).toNat)),_,_,.int (((ge d.frames (Yk d c.label).toNat).hyps).length:Nat),_,_,_,_,_,_,_,_,_,_,.ptr (frC (ge d.frames (Yk d c.label).toNat)),_,_,_,_,_,.bool (Zdj (⟨d,i,ss,ts,mm⟩:Jb) (ge d.frames (Yk d c.label).toNat) c.args c.step.toNat),_,_]) [13,20,23,34,40] U3 Y ⟨Ym YL,fun _ _ _ hx hl hc=>ZM (i:=Yk d c.label) Yu Y (hl.D 18 71 Y hc) (hl.D 19 72 Y hc) (by have hc':(((decide (Yk d c.label< (0:Int)))|| (decide ((i:Int)≤Yk d c.label)))==false)=true:=hc;(try simp at hc');(first | omega | (simp;omega) | grind[Zp])) (Zda (xs:=d.frames) (i:=Yk d c.label) (by have hc':(((decide (Yk d c.label< (0:Int)))|| (decide ((i:Int)≤Yk d c.label)))==false)=true:=hc;(try simp at hc');(first | omega | (simp;omega) | grind[Zp])) (by have hc':(((decide (Yk d c.label< (0:Int)))|| (decide ((i:Int)≤Yk d c.label)))==false)=true:=hc;(try simp at hc');(first | omega | (simp;omega) | grind[Zp]))) Y hx,Ym ZC,fun _ _ _ hx hl hc=>ZM (i:=Yk d c.label) Yu Y (hl.D 32 85 Y hc) (hl.D 33 86 Y hc) (by have hc':((((decide (Yk d c.label< (0:Int)))|| (decide ((i:Int)≤Yk d c.label)))|| (!decide ((c.args.length:Int)=((((ge d.frames (Yk d c.label).toNat).hyps).length:Nat):Int))))==false)=true:=hc;(try simp at hc');(first | omega | (simp;omega) | grind[Zp])) (Zda (xs:=d.frames) (i:=Yk d c.label) (by have hc':((((decide (Yk d c.label< (0:Int)))|| (decide ((i:Int)≤Yk d c.label)))|| (!decide ((c.args.length:Int)=((((ge d.frames (Yk d c.label).toNat).hyps).length:Nat):Int))))==false)=true:=hc;(try simp at hc');(first | omega | (simp;omega) | grind[Zp])) (by have hc':((((decide (Yk d c.label< (0:Int)))|| (decide ((i:Int)≤Yk d c.label)))|| (!decide ((c.args.length:Int)=((((ge d.frames (Yk d c.label).toNat).hyps).length:Nat):Int))))==false)=true:=hc;(try simp at hc');(first | omega | (simp;omega) | grind[Zp]))) Y hx,fun _ _ hk hx hl hc=>ZaL (Zr4 hJ d i ss ts M mm (ge d.frames (Yk d c.label).toNat) c.args c.step (by have hc':((((decide (Yk d c.label< (0:Int)))|| (decide ((i:Int)≤Yk d c.label)))|| (!decide ((c.args.length:Int)=((((ge d.frames (Yk d c.label).toNat).hyps).length:Nat):Int))))==false)=true:=hc;(try simp at hc');(exact hW)) (by have hc':((((decide (Yk d c.label< (0:Int)))|| (decide ((i:Int)≤Yk d c.label)))|| (!decide ((c.args.length:Int)=((((ge d.frames (Yk d c.label).toNat).hyps).length:Nat):Int))))==false)=true:=hc;(try simp at hc');(first | omega | (simp;omega) | grind[Zp])) (by have hc':((((decide (Yk d c.label< (0:Int)))|| (decide ((i:Int)≤Yk d c.label)))|| (!decide ((c.args.length:Int)=((((ge d.frames (Yk d c.label).toNat).hyps).length:Nat):Int))))==false)=true:=hc;(try simp at hc');(first | omega | (simp;omega) | grind[Zp])) (by have hc':((((decide (Yk d c.label< (0:Int)))|| (decide ((i:Int)≤Yk d c.label)))|| (!decide ((c.args.length:Int)=((((ge d.frames (Yk d c.label).toNat).hyps).length:Nat):Int))))==false)=true:=hc;(try simp at hc');(exact hin)) (by have hc':((((decide (Yk d c.label< (0:Int)))|| (decide ((i:Int)≤Yk d c.label)))|| (!decide ((c.args.length:Int)=((((ge d.frames (Yk d c.label).toNat).hyps).length:Nat):Int))))==false)=true:=hc;(try simp at hc');(exact hs0)) (by have hc':((((decide (Yk d c.label< (0:Int)))|| (decide ((i:Int)≤Yk d c.label)))|| (!decide ((c.args.length:Int)=((((ge d.frames (Yk d c.label).toNat).hyps).length:Nat):Int))))==false)=true:=hc;(try simp at hc');(exact hs1))) Zkz Y (Zk hS _ hk hx) (hx.1) (Za (hl.D 27 80 Y hc) (Za (hl.D 35 88 Y hc) (Za (hl.D 37 90 Y hc) (Za (hl.D 39 92 Y hc) Zc)))) (jo hJ hx),U⟩ ?_
   refine cj 2 (fun hb4=>?_) fun hb4=>?_
   ·
    have eH:ZaR (⟨d,i,ss,ts,mm⟩:Jb) c=false:=Zp0 (Bool.eq_false_iff.2 fun e=>by rw[ZcL,if_neg hb2,Bool.and_eq_true,decide_eq_true_eq]at e;obtain⟨⟨h1,h2,h3⟩,h4⟩:=e;dsimp only at h1 h2 h3 h4;simp[h3,h4]at hb4;omega)
    refine qso tb hJ [1000] [_] [_] ?_
    exact tRo 0 (hE:=eB (by first | (rw[eH];done) | (rw[eH];exact ZcM)))
   ·
    simp only[Bool.or_eq_false_iff,Bool.not_eq_false',decide_eq_true_eq,decide_eq_false_iff_not]at hb4
    have hk4:ZcL (⟨d,i,ss,ts,mm⟩:Jb) c=true:=by rw[ZcL,if_neg hb2,Bool.and_eq_true,decide_eq_true_eq];refine⟨⟨?_,?_,?_⟩,hb4.2⟩<;>(try dsimp only)<;>omega
    have hc1:c.reason=2∨1≤c.args.length:=.inl oz
    have eH:=ZlR hb1 hk4
    refine Zb (nx (tsq (snK 2 tb Y (sy (.tup [.agg (chC (X3 ss c)),.bool (decide ((((Y6 ss c).length:Nat):Int)< ((Yh ss:Nat):Int)))]) (fun h=>ZaL (Zpa hJ d i ss ts M c (by exact hW.ok) (by exact hs0) (by exact hs1) (by exact hin) (by exact hcl) (by exact hc1)) Zky Y (Zk hS _ h.keep h.x) (h.x.1) (Za (h.get 1 Y) (Za (h.get 0 Y) Zc)) (jo hJ h.x)) ?_))))
    refine snK 3 tb Y (Zv Y0 hJ Y Y Y (lb Y) fun b2=>?_)
    refine Zn (b:=b2) (off:=0) (es:=U6) (news:=U6) hJ hJ0 Qb Y Y Y (lb Y) Y (fun a w h=>⟨(h.get 0 Y),(h.get 2 Y)⟩) ?_
    refine snK 1 tb Y (seK [0,1,9] U3 Y ?_)
    refine nx (ZF tb hJ [1015] [_,_,.at b2 4,.int ((X3 ss c).before),_,_,_,_,_,.at b2 5,.int ((X3 ss c).after),_,_,_,_,_] [2,3,9,10] [_] Y ⟨fun _ _ _ hx hl _=>Zx ZbQ Y (hl.env 1 6 _ Y Y) hx,fun _ _ _ hx hl hc=>Zo Q2 Y (Ze hx (mo 0 Y)) (hl.D 2 104 Y hc) Y hx,fun _ _ _ hx hl _=>Zx ZbP Y (hl.env 1 6 _ Y Y) hx,fun _ _ _ hx hl hc=>Zo Q2 Y (Ze hx (mo 0 Y)) (hl.D 9 111 Y hc) Y hx,U⟩ ?_)
    exact tRo 0 (hE:=eB (by first | (rw[eH];done) | (rw[eH];exact ZcM)))
end
theorem ZxI:Zi prog 33:=Zm Tryz.func33 Y Y
theorem ZxE:Zi prog 48:=Zm Tryz.func48 Y Y
theorem ZxO:Zi prog 10:=Zm Tryz.func10 Y Y
theorem ZxF:Zi prog 47:=Zm Tryz.func47 Y Y
section
variable {J:WP} (hJ:Stab J)
include hJ
theorem Zsm (d:Db) (z:Int) (ss:List Stp) (c:Chg) (hw:∀ f∈d.frames,f.wide.length*32≤140737488351232) (hG:Xm J) (hr:¬ ZD d z ss=0):Fn prog J 10 [.agg (dbC d),.int z,.agg (pfC ss),.agg (chC c)] (.tup [.agg (pfC ([]:List Stp)),.int (ZD d z ss)]):=by
 refine fE Tryz.func10 fun S w0 hS hJ0=>?_
 refine tw Z4 (tsq ?_)
 refine sy (.ptr (dbC d)) (fun h=>Q1 Y (h.get 0 Y) (Zk hS _ h.keep h.x _ nlr) (jo hJ h.x)) ?_
 refine sy (.ptr (pfC ss)) (fun h=>Q1 Y (h.get 3 Y) (Zk hS _ h.keep h.x _ nlr) (jo hJ h.x)) ?_
 refine sy (.ptr (chC c)) (fun h=>Q1 Y (h.get 5 Y) (Zk hS _ h.keep h.x _ nlr) (jo hJ h.x)) ?_
 refine Zv XS hJ Y Y Y (lb Y) fun b1=>?_
 refine snK 1 tb Y (seK [1,2,3,4,6] U5 Y ?_)
 refine nx (ZF tb hJ [0,1,2,1007,1008] (V3 [.tup [.rd (.lit (.pointer none)),.int (ZD d z ss)],_,_,_,_,_]) [3] U5 Y ⟨iFo hS hJ (ZdQ hJ d z ss (by exact hw) (by exact hG) (by exact hr)) Zbi,U⟩ ?_)
 refine Zf (Zd (qso tb hJ (r5 [1002]) U3 U6 ?_))
 refine cj 5 (fun hb1=>?_) fun hb1=>?_
 ·
  refine tsq (sy (.agg (pfC ([]:List Stp))) (fun h=>Y7 (ps:=[]) (us:=[.slice none 0 0]) Za0 Y yz Zjr Y (X1 (.nil _ _ nzl) Z0) h.x) ?_)
  refine snK 1 tb Y (Zn (b:=b1) (off:=0) (es:=[_]) (news:=[_]) hJ hJ0 Yt Y Y Y (lb Y) Y (fun a w h=>⟨(h.get 2 Y),(h.get 1 Y)⟩) ?_)
  refine snK 1 tb Y (seK [0,3] U2 Y ?_)
  exact nx (Zs (fun a w h=>Zay (m:=1) (q:=0) Y Z5 h Y Y Y Y Y))
 ·
  exact False.elim (hr (by simpa using hb1))
theorem Zsl (d:Db) (z:Int) (ss:List Stp) (c:Chg) (hw:∀ f∈d.frames,f.wide.length*32≤140737488351232) (hG:Xm J) (hr:ZD d z ss=0) (h16:ss.length≤16) (hf16:d.frames.length≤16) (hcl:c.args.length≤40):Fn prog J 10 [.agg (dbC d),.int z,.agg (pfC ss),.agg (chC c)] (.tup [.agg (pfC ((YW d z ss c).1)),.int ((YW d z ss c).2)]):=by
 refine fE Tryz.func10 fun S w0 hS hJ0=>?_
 refine tw Z4 (tsq ?_)
 refine sy (.ptr (dbC d)) (fun h=>Q1 Y (h.get 0 Y) (Zk hS _ h.keep h.x _ nlr) (jo hJ h.x)) ?_
 refine sy (.ptr (pfC ss)) (fun h=>Q1 Y (h.get 3 Y) (Zk hS _ h.keep h.x _ nlr) (jo hJ h.x)) ?_
 refine sy (.ptr (chC c)) (fun h=>Q1 Y (h.get 5 Y) (Zk hS _ h.keep h.x _ nlr) (jo hJ h.x)) ?_
 refine Zv XS hJ Y Y Y (lb Y) fun b1=>?_
 refine snK 1 tb (env':=[(9,_),(8,_),(7,_),(6,_),(4,_),(0,_),(1,_),(2,_),(3,_)]) Y (seK [1,2,3,4,6] U5 Y ?_)
 refine nx (tsq (snK 3 tb (env':=[(15,_),(14,_),(13,_),(8,_),(7,_),(6,_),(4,_),(1,_)]) Y (QK (O:=[]) (R:=[OB.var b1 [Yv ([]:List Stp)]]) (ZeB hJ d z ss (by exact hw) (by exact hG) (by exact hr)) Zbi Y Y Y (lb Y) hS hJ0 Zq (fun a w h=>(Za (h.get 2 Y) (Za (h.get 1 Y) (Za (h.get 0 Y) Zc)))) fun z2=>?_)))
 refine snK 5 tb (env':=[(11,_),(10,_),(18,_),(17,_),(12,_),(16,_),(15,_),(14,_),(13,_),(8,_),(7,_),(6,_),(4,_),(1,_)]) Y (seK [0,1,9,10,11] U5 Y ?_)
 refine nx (Zf (Zd (qso tb hJ (r5 [1002]) U3 U6 ?_)))
 refine cj 5 (fun hb1=>?_) fun hb1=>?_
 ·
  exact False.elim (by simp at hb1)
 ·
  refine qso tb hJ [1,2,3,4,1008] U9 U5 ?_
  refine cj 4 (fun hb2=>?_) fun hb2=>?_
  ·
   have eA:YW d z ss c=([],1):=by rw[YW,if_neg (by simp[hr]),if_pos (by simpa using hb2)]
   refine tsq (sy (.agg (pfC ([]:List Stp))) (fun h=>Y7 (ps:=[]) (us:=[.slice none 0 0]) Za0 Y yz Zjr Y (X1 (.nil _ _ nzl) Z0) h.x) ?_)
   refine kw pm1 (Zn (b:=b1) (off:=0) (es:=[_]) (news:=[_]) hJ hJ0 Yt Y Y Y (lb Y) Y (fun a w h=>⟨(h.get 2 Y),(h.get 0 Y)⟩) ?_)
   refine snK 1 tb (env':=[(9,_),(33,_),(10,_),(8,_),(7,_),(6,_),(24,_)]) Y (seK [0,3] U2 Y ?_)
   exact nx (Zs (fun a w h=>Zay (m:=1) (q:=0) Y Z5 h Y Y (show(_:List CD)=[Yv ((YW d z ss c).1)]from by(rw[eA])<;>rfl) Y (eI (by rw[eA]))))
  ·
   have hre0:¬ (¬ c.reason=1∧¬ c.reason=2):=by simpa using hb2
   have hre:c.reason=1∨c.reason=2:=by omega
   refine ZF tb hJ [0,1,2,3,1011] (V8 [.int (ss.length:Nat),_,_,_]) [8] U5 Y ⟨Ym ZN,U⟩ ?_
   refine cj 4 (fun hb3=>?_) fun hb3=>?_
   ·
    have eA:YW d z ss c=([],3):=by rw[YW,if_neg (by simp[hr]),if_neg hre0,if_pos (by simpa using hb3)]
    refine tsq (sy (.agg (pfC ([]:List Stp))) (fun h=>Y7 (ps:=[]) (us:=[.slice none 0 0]) Za0 Y yz Zjr Y (X1 (.nil _ _ nzl) Z0) h.x) ?_)
    refine kw pm1 (Zn (b:=b1) (off:=0) (es:=[_]) (news:=[_]) hJ hJ0 Yt Y Y Y (lb Y) Y (fun a w h=>⟨(h.get 2 Y),(h.get 0 Y)⟩) ?_)
    refine snK 1 tb (env':=[(9,_),(46,_),(10,_),(8,_),(7,_),(6,_),(34,_)]) Y (seK [0,3] U2 Y ?_)
    exact nx (Zs (fun a w h=>Zay (m:=1) (q:=0) Y Z5 h Y Y (show(_:List CD)=[Yv ((YW d z ss c).1)]from by(rw[eA])<;>rfl) Y (eI (by rw[eA]))))
   ·
    have hs0:0≤c.step∧c.step< (ss.length:Int):=by simpa using hb3
    refine ZF tb hJ [1,2,3,1004] [_,_,.bool (ZaR (⟨d,z.toNat,ss,((Yq d z ss).1),(ZaX (Yq d z ss).1 (Yq d z ss).1.length)⟩:Jb) c),_,_] [2] U4 Y ⟨iFo hS hJ (Zwa hJ d z.toNat ss ((Yq d z ss).1) z2 (ZaX (Yq d z ss).1 (Yq d z ss).1.length) c (by exact Zg6 hr h16 hf16 hw) (by exact hs0.1) (by exact hs0.2) (by exact hcl) (by exact hre)) ZxI,U⟩ ?_
    refine cj 3 (fun hb4=>?_) fun hb4=>?_
    ·
     have eA:YW d z ss c=([],260):=by rw[YW,if_neg (by simp[hr]),if_neg hre0,if_neg oz,if_pos (show ZaR (jbG d z ss) c=false by simpa [jbG]using hb4)]
     refine tsq (sy (.agg (pfC ([]:List Stp))) (fun h=>Y7 (ps:=[]) (us:=[.slice none 0 0]) Za0 Y yz Zjr Y (X1 (.nil _ _ nzl) Z0) h.x) ?_)
     refine kw pm1 (Zn (b:=b1) (off:=0) (es:=[_]) (news:=[_]) hJ hJ0 Yt Y Y Y (lb Y) Y (fun a w h=>⟨(h.get 1 Y),(h.get 0 Y)⟩) ?_)
     refine snK 1 tb (env':=[(9,_),(52,_),(8,_),(7,_),(6,_),(47,_)]) Y (seK [0,2] U2 Y ?_)
     exact nx (Zs (fun a w h=>Zay (m:=1) (q:=0) Y Z5 h Y Y (show(_:List CD)=[Yv ((YW d z ss c).1)]from by(rw[eA])<;>rfl) Y (eI (by rw[eA]))))
    ·
     have hh:ZaR (jbG d z ss) c=true:=by simpa [jbG]using hb4
     have hkd:=ZiR hh
     have hkd1:=ZsI hkd.2.1
     have hc1:c.reason=2∨1≤c.args.length:=by omega
     have eA:YW d z ss c=(Y6 ss c,0):=by rw[YW,if_neg (by simp[hr]),if_neg hre0,if_neg oz,if_neg (by simp[hh])]
     refine Zb (nx (tsq (snK 2 tb (env':=[(54,_),(53,_),(8,_),(7,_),(6,_),(47,_)]) Y (sy (.agg (pfC (Y6 ss c))) (fun h=>ZaL (ZeD hJ ss c (by exact(ZfB hr).2) (by exact hs0.1) (by exact hs0.2) (by exact hkd.1) (by exact hcl) (by exact hc1)) ZkD Y (Zk hS _ h.keep h.x) (h.x.1) (Za (h.get 1 Y) (Za (h.get 0 Y) Zc)) (jo hJ h.x)) ?_))))
     refine kw pm1 (Zn (b:=b1) (off:=0) (es:=[_]) (news:=[_]) hJ hJ0 Yt Y Y Y (lb Y) Y (fun a w h=>⟨(h.get 3 Y),(h.get 0 Y)⟩) ?_)
     refine snK 1 tb (env':=[(9,_),(55,_),(54,_),(53,_),(8,_),(7,_),(6,_),(47,_)]) Y (seK [0,4] U2 Y ?_)
     exact nx (Zs (fun a w h=>Zay (m:=1) (q:=0) Y Z5 h Y Y (show(_:List CD)=[Yv ((YW d z ss c).1)]from by(rw[eA])<;>rfl) Y (eI (by rw[eA]))))
theorem Zsn (d:Db) (z:Int) (ss:List Stp) (c:Chg) (hw:∀ f∈d.frames,f.wide.length*32≤140737488351232) (hG:Xm J) (h16:ss.length≤16) (hf16:d.frames.length≤16) (hcl:c.args.length≤40):Fn prog J 10 [.agg (dbC d),.int z,.agg (pfC ss),.agg (chC c)] (.tup [.agg (pfC ((YW d z ss c).1)),.int ((YW d z ss c).2)]):=by
 by_cases hr:ZD d z ss=0
 · exact Zsl hJ d z ss c hw hG hr h16 hf16 hcl
 · have e:YW d z ss c=([],ZD d z ss):=if_pos hr
   rw[e]
   exact Zsm hJ d z ss c hw hG hr
theorem Zsi (d:Db) (z:Int) (ss qs:List Stp) (L:List Chg) (hw:∀ f∈d.frames,f.wide.length*32≤140737488351232) (hG:Xm J) (hr:¬ ZD d z ss=0):Fn prog J 18 [.agg (dbC d),.int z,.agg (pfC ss),.agg (pfC qs),.rd (Zfi L)] (.tup [.int 0,.int (ZD d z ss)]):=by
 refine fE Tryz.func18 fun S w0 hS hJ0=>?_
 refine tw Z4 (ln 4 fun hl1=>?_)
 refine tsq (sy (.ptr (dbC d)) (fun h=>Q1 Y (h.get 0 Y) (Zk hS _ h.keep h.x _ nlr) (jo hJ h.x)) ?_)
 refine Zcf (cs:=[Yv ss]) hJ Y Y Y (lb Y) (fun a w h=>(h.get 3 Y)) fun b1=>?_
 refine sy (.ptr (pfC qs)) (fun h=>Q1 Y (h.get 5 Y) (Zk hS _ h.keep h.x _ nlr) (jo hJ h.x)) ?_
 refine snK 2 tb Y (seK [2,3,4,6,9] U5 Y ?_)
 refine nx (Zf (ZF tb hJ (r5 [1008]) [_,_,.agg (pfC ss),.tup [.rd (.lit (.pointer none)),.int (ZD d z ss)],_,_,_,_,_] [2,3] U6 Y ⟨fun _ _ _ hx hl _=>Yb (ds:=[Yv ss]) Z5 Y (Ze hx (mo 0 Y)) (hl.env 1 7 _ Y Y) Y Y hx,iFo hS hJ (ZdQ hJ d z ss (by exact hw) (by exact hG) (by exact hr)) Zbi,U⟩ ?_))
 refine qso tb hJ (r6 [1001]) U2 U7 ?_
 refine cj 6 (fun hb1=>?_) fun hb1=>?_
 ·
  refine qso tb hJ [1001,1002] U3 U2 ?_
  exact Zs (fun a w h=>Yz (m:=0) (k:=1) Y (ZY h) Y Y (eI (Y)) Y)
 ·
  exact False.elim (hr (by simpa using hb1))
theorem Zsh (d:Db) (z:Int) (ss qs:List Stp) (L:List Chg) (hw:∀ f∈d.frames,f.wide.length*32≤140737488351232) (hG:Xm J) (hr:ZD d z ss=0) (h16:ss.length≤16) (hf16:d.frames.length≤16) (hcL:∀ c∈L,c.args.length≤40):Fn prog J 18 [.agg (dbC d),.int z,.agg (pfC ss),.agg (pfC qs),.rd (Zfi L)] (.tup [.int ((ckG d z ss qs L).1),.int ((ckG d z ss qs L).2)]):=by
 refine fE Tryz.func18 fun S w0 hS hJ0=>?_
 refine tw Z4 (ln 4 fun hl1=>?_)
 refine tsq (sy (.ptr (dbC d)) (fun h=>Q1 Y (h.get 0 Y) (Zk hS _ h.keep h.x _ nlr) (jo hJ h.x)) ?_)
 refine Zcf (cs:=[Yv ss]) hJ Y Y Y (lb Y) (fun a w h=>(h.get 3 Y)) fun b1=>?_
 refine sy (.ptr (pfC qs)) (fun h=>Q1 Y (h.get 5 Y) (Zk hS _ h.keep h.x _ nlr) (jo hJ h.x)) ?_
 refine snK 2 tb (env':=[(11,_),(10,_),(8,_),(7,_),(5,_),(0,_),(1,_),(2,_),(3,_),(4,_)]) Y (seK [2,3,4,6,9] U5 Y ?_)
 refine nx (Zf (tsq (snK 2 tb (env':=[(20,_),(19,_),(8,_),(7,_),(5,_),(1,_),(4,_)]) Y (sy (.agg (pfC ss)) (fun h=>Yb (ds:=[Yv ss]) Z5 Y (Ze h.x (mo 0 Y)) (h.get 3 Y) Y Y h.x) ?_))))
 refine QK (O:=[]) (R:=[OB.var b1 [Yv ss]]) (ZeB hJ d z ss (by exact hw) (by exact hG) (by exact hr)) Zbi Y Y Y (lb Y) hS hJ0 Zq (fun a w h=>(Za (h.get 2 Y) (Za (h.get 1 Y) (Za (h.get 0 Y) Zc)))) fun z2=>?_
 refine snK 5 tb (env':=[(13,_),(12,_),(24,_),(23,_),(18,_),(22,_),(21,_),(20,_),(19,_),(8,_),(7,_),(5,_),(1,_),(4,_)]) Y (seK [0,9,10,11,12,13] U6 Y ?_)
 refine nx (qso tb hJ (r6 [1001]) U2 U7 ?_)
 refine cj 6 (fun hb1=>?_) fun hb1=>?_
 ·
  exact False.elim (by simp at hb1)
 ·
  refine Zb (nx (Zf (ZF tb hJ [1,2,3,4,5,1000,1001,1002] [_,.int (L.length:Nat),_] [1] U8 Y ⟨Ym YP,U⟩ ?_)))
  refine Zd (lpo (ι:=Nat×(List Stp)) (fun(k,cur)=>(k≤L.length)∧(cur.length≤16)∧(QH d z qs 0 ss L=QH d z qs k cur (L.drop k))) (fun(_,cur)=>[OB.mI z2 (ZaX (Yq d z ss).1 (Yq d z ss).1.length),OB.var b1 [Yv cur]]) (fun(k,_)=>[(30,.int (k:Nat))]) (fun(k,_)=>L.length-k) (r8 []) U7 (0,ss) ⟨nzl,h16,Y⟩ ?_)
  rintro⟨k,cur⟩ ⟨f1_1,f1_2,f1_3⟩
  refine qso tb hJ (r8 [1000]) [_] U9 ?_
  refine cjS 8 (fun hb2=>?_) fun hb2=>?_
  ·
   try simp at hb2
   refine Zb (nx (Zf (Zd (tsq (snK 1 tb (env':=[(32,_),(8,_),(7,_),(5,_),(1,_),(4,_),(28,_),(29,_),(30,_),(31,_)]) Y (sy (.ptr (chC (ge L k))) (fun h=>ZM (i:=(k:Int)) YO Y (h.get 6 Y) (h.get 8 Y) nnn (ZT (xs:=L) (k:=k) sfz) Y h.x) ?_))))))
   refine snK 1 tb (env':=[(34,_),(33,_),(32,_),(8,_),(7,_),(5,_),(1,_),(4,_),(28,_),(29,_),(30,_),(31,_)]) Y (Zv Y0 hJ Y Y Y (lb Y) fun b3=>?_)
   refine snK 1 tb (env':=[(14,_),(15,_),(34,_),(33,_),(32,_),(8,_),(7,_),(5,_),(1,_),(4,_),(28,_),(29,_),(30,_),(31,_)]) Y (Zn (b:=b3) (off:=0) (es:=U6) (news:=U6) hJ hJ0 Qb Y Y Y (lb Y) Y (fun a w h=>⟨(h.get 1 Y),(h.get 2 Y)⟩) ?_)
   refine seK [0,1,5,6,7,8,9,10,11,12] U10 Y (nx (tsq ?_))
   refine snK 2 tb (env':=[(37,_),(36,_),(14,_),(15,_),(8,_),(7,_),(5,_),(1,_),(4,_),(28,_),(29,_),(30,_)]) Y (sy (.agg (pfC cur)) (fun h=>Yb (ds:=[Yv cur]) Z5 Y (Ze h.x (mo 2 Y)) (h.get 5 Y) Y Y h.x) ?_)
   refine sy (.agg (chC (ge L k))) (fun h=>Yb (ds:=[lI ((ge L k).reason),lI ((ge L k).step),lS ((ge L k).label),Z3 ((ge L k).args),lI ((ge L k).before),lI ((ge L k).after)]) Qh Y (Ze h.x (mo 0 Y)) (h.get 4 Y) Y Y h.x) ?_
   refine sy (.tup [.agg (pfC ((YW d z cur (ge L k)).1)),.int ((YW d z cur (ge L k)).2)]) (fun h=>ZaL (Zsn hJ d z cur (ge L k) (by exact hw) (by exact hG) (by exact f1_2) (by exact hf16) (by exact hcL _ (Zp oz))) ZxO Y (Zk hS _ h.keep h.x) (h.x.1) (Za (h.get 3 Y) (Za (h.get 2 Y) (Za (h.get 1 Y) (Za (h.get 0 Y) Zc)))) (jo hJ h.x)) ?_
   refine snK 3 tb (env':=[(42,_),(41,_),(35,_),(40,_),(39,_),(38,_),(37,_),(36,_),(14,_),(15,_),(8,_),(7,_),(5,_),(1,_),(4,_),(28,_),(29,_),(30,_)]) Y (Zv XS hJ Y Y Y (lb Y) fun b4=>?_)
   refine Zn (b:=b4) (off:=0) (es:=[_]) (news:=[_]) hJ hJ0 Yt Y Y Y (lb Y) Y (fun a w h=>⟨(h.get 0 Y),(h.get 2 Y)⟩) ?_
   refine snK 1 tb (env':=[(17,_),(16,_),(42,_),(41,_),(35,_),(40,_),(39,_),(38,_),(37,_),(36,_),(14,_),(15,_),(8,_),(7,_),(5,_),(1,_),(4,_),(28,_),(29,_),(30,_)]) Y (seK [0,1,10,12,13,14,15,16,17,18,19] U11 Y ?_)
   refine nx (Zf (qso tb hJ (r11 [1001]) U2 U12 ?_))
   refine cj 11 (fun hb3=>?_) fun hb3=>?_
   ·
    try simp at hb3
    have eC:ckG d z ss qs L=((k:Int),(YW d z cur (ge L k)).2):=by rw[ckG,if_pos hr,f1_3,Zvc oz,if_neg (by simpa using hb3)]
    refine qso tb hJ [1002,1003] U4 U2 ?_
    exact Zs (fun a w h=>Yz (m:=0) (k:=1) Y (ZY h) Y Y (eI (by rw[eC])) (eI (by rw[eC])))
   ·
    try simp at hb3
    refine Zb (nx (ZO (sq (.agg (pfC ((YW d z cur (ge L k)).1))) Y Y (lb Y) (fun _ _ h=>Yb (ds:=[Yv ((YW d z cur (ge L k)).1)]) Z5 Y (Ze h.x (mo 0 Y)) (h.get 1 Y) Y Y h.x) ?_)))
    refine kw pm3 (Zn (b:=b1) (off:=0) (es:=[_]) (news:=[_]) hJ hJ0 Yt Y Y Y (lb Y) Y (fun a w h=>⟨(h.get 5 Y),(h.get 0 Y)⟩) ?_)
    refine seK [4,5,6,7,8,9,10,11] U8 Y (nx (YU tb hJ (r7 [1001]) [.int (k+1:Nat),_] [0] U8 Y ⟨YT,U⟩ ?_))
    refine kw pm1 (kw Zz ?_)
    refine kw pm1 (kw Zz ?_)
    exact kw pm1 (Xk ((k+1),((YW d z cur (ge L k)).1)) (r8 []) ⟨oz,by exact Nat.le_trans Zq7 f1_2,by rw[f1_3,Zvc oz,if_pos (by simpa using hb3)]⟩)
  ·
   try simp at hb2
   have ek:k=L.length:=by omega
   refine Zu (nx (Zf (ZF tb hJ [4,1001,1003,1005] [.at b1 0,.rd (Yv cur),_,_,.bool (decide (cur=qs)),_] [0,1,4] U4 Y ⟨fun _ _ _ hx hl _=>Zx YF Y (hl.env 1 7 _ Y Y) hx,fun _ _ _ hx hl _=>Zo ZaO Y (Ze hx (mo 1 Y)) (hl.D 0 49 Y Y) Y hx,fun _ _ hk hx hl _=>Y3 (ZgS hJ cur qs 48 [] [] (fun q' r'=>(ZrZ hJ q' r').rr) (ZxE)) ZxF Y (Zk hS _ hk hx) (hx.1) Zq (Za (hl.D 1 50 Y Y) (Za (hl.D 3 52 Y Y) (Za (Qt 48) Zc))) (jo hJ hx),U⟩ ?_)))
   refine ln 1 fun hl2=>?_
   refine ln 2 fun hl3=>?_
   refine cj 3 (fun hb4=>?_) fun hb4=>?_
   ·
    try simp at hb4
    have eC:ckG d z ss qs L=((L.length:Int),261):=by rw[ckG,if_pos hr,f1_3,ZqH ek,if_neg (by simpa using hb4),ek]
    refine ZF tb hJ [1002,1003] [_,.int (L.length:Nat),_,_] [1] U2 Y ⟨Ym YP,U⟩ ?_
    exact Zs (fun a w h=>Yz (m:=0) (k:=1) Y (ZY h) Y Y (eI (by rw[eC])) (eI (by rw[eC])))
   ·
    try simp at hb4
    have eC:ckG d z ss qs L=((L.length:Int),0):=by rw[ckG,if_pos hr,f1_3,ZqH ek,if_pos (by simpa using hb4),ek]
    refine Zb (nx (ZF tb hJ [1002,1003] [_,.int (L.length:Nat),_,_] [1] U2 Y ⟨Ym YP,U⟩ ?_))
    exact Zs (fun a w h=>Yz (m:=0) (k:=1) Y (ZY h) Y Y (eI (by rw[eC])) (eI (by rw[eC])))
theorem ZlB (d:Db) (z:Int) (ss qs:List Stp) (L:List Chg) (hw:∀ f∈d.frames,f.wide.length*32≤140737488351232) (hG:Xm J) (h16:ss.length≤16) (hf16:d.frames.length≤16) (hcL:∀ c∈L,c.args.length≤40):Fn prog J 18 [.agg (dbC d),.int z,.agg (pfC ss),.agg (pfC qs),.rd (Zfi L)] (.tup [.int ((ckG d z ss qs L).1),.int ((ckG d z ss qs L).2)]):=by
 by_cases hr:ZD d z ss=0
 · exact Zsh hJ d z ss qs L hw hG hr h16 hf16 hcL
 · have e:ckG d z ss qs L=(0,ZD d z ss):=if_neg hr
   rw[e]
   exact Zsi hJ d z ss qs L hw hG hr
end
theorem ZqY:Zi prog 25:=Zm Tryz.func25 Y Y
theorem ZqZ:Zi prog 18:=Zm Tryz.func18 Y Y
theorem Zvu:prog.underlying 3=some (.int .i64):=by kernel_rfl
theorem Zvv:prog.underlying 34=some (.int .i64):=by kernel_rfl
theorem Zn2:(prog.fieldsOf 64).toList=[{ name:= "Code",type:=34,offset:=0,embedded:=false,tag:= "",pkgPath:= "",byteOffset:=0 }, { name:= "Step",type:=3,offset:=1,embedded:=false,tag:= "",pkgPath:= "",byteOffset:=8 }]:=by kernel_rfl
theorem Zn1:prog.underlying 64=some (.struct (prog.fieldsOf 64)):=by kernel_rfl
theorem Zh4 (c:Array Value) (i:Nat) (v:Value) (h:c[i]?=some v) (w:World):(part 3 c i).run prog w= .ok v w:=by
 simp[part,Tryz.isAgg3,h]
theorem Zh5 (c:Array Value) (i:Nat) (v:Value) (h:c[i]?=some v) (w:World):(part 34 c i).run prog w= .ok v w:=by
 simp[part,Tryz.isAgg34,h]
theorem eqVd:EqVd prog 64:=by
 intro a b c d w x y
 refine⟨by simp[eqGuard],by simp[eqGuard],?_⟩
 unfold Op.equal Op.maxDepth
 rw[run_equalIn_struct w 9999 64 _ _ Zn1 V,Zn2]
 have e1:=fun(c:Array Value) (v:Value) (i:Nat) (h:c[i]?=some v)=>Zh5 c i v h
 have e2:=fun(c:Array Value) (v:Value) (i:Nat) (h:c[i]?=some v)=>Zh4 c i v h
 have q1:(Op.equalIn 9999 34 (.int .i64 a) (.int .i64 c)).run prog w= .ok (decide (a=c)) w:=run_equalIn_int w 9998 34 .i64 .i64 a c Zvv
 have q2:(Op.equalIn 9999 3 (.int .i64 b) (.int .i64 d)).run prog w= .ok (decide (b=d)) w:=run_equalIn_int w 9998 3 .i64 .i64 b d Zvu
 simp only[Op.eqFields]
 rw[if_pos dz,if_pos dz]
 simp only[Sem.run_bind]
 rw[e1 _ (.int .i64 a) 0 Y w,Result.andThen_ok,e1 _ (.int .i64 c) 0 Y w,Result.andThen_ok,q1,Result.andThen_ok]
 by_cases h1:a=c
 · simp only[h1,decide_true,Bool.not_true,Bool.false_eq_true,if_false,Sem.run_bind]
   rw[e2 _ (.int .i64 b) 1 Y w,Result.andThen_ok,e2 _ (.int .i64 d) 1 Y w,Result.andThen_ok,q2,Result.andThen_ok]
   by_cases h2:b=d
   · simp[h2,Sem.run_pure]
   · simp[h2,Sem.run_pure]
 · simp[h1,Sem.run_pure]
theorem ZiG {J:WP} (hJ:Stab J) (d:Db) (z:Int) (ss:List Stp) (most:UInt8) (hw:∀ f∈d.frames,f.wide.length*32≤140737488351232) (hG:Xm J):Fn prog J 7 [.agg (dbC d),.int z,.agg (pfC ss),.rd (.lit (.int .u8 (most.toNat:Int)))] (.bool true):=by
 refine fE Tryz.func7 fun S w0 hS hJ0=>?_
 refine tw Z4 ?_
 have hmu:most.toNat≤255:=by have:=most.toNat_lt;omega
 refine ZF tb hJ [1,3,1000,1001] [.ptr (dbC d),.ptr (pfC ss),_] [0,1] U4 Y ⟨iBo hS hJ,iBo hS hJ,U⟩ ?_
 refine Zf (ZF tb hJ [0,1,2,3,1003] [_,_,.bool (fewN d ss),_] [2] U5 Y ⟨iFo hS hJ (w_few hJ d ss) call_8,U⟩ ?_)
 refine cj 4 (fun hb1=>?_) fun hb1=>?_
 ·
  try simp at hb1
  refine ZF tb hJ [1001] [.bool true,_] [0] [_] Y ⟨iFo hS hJ (Zcn hJ  (by exact hG)) Zme,U⟩ ?_
  exact tRo 0 (hE:=Y)
 ·
  try simp at hb1
  have hfl:=Zs7 hb1
  have hcL:=Zpw (d:=d) (z:=z) (ss:=ss) (most:=most.toNat) hfl.2 hw hfl.1
  refine Zb (nx (tsq (snK 4 tb (env':=[(29,_),(28,_),(27,_),(26,_),(1,_),(3,_),(4,_),(6,_),(23,_)]) Y (sy (.int (most.toNat:Nat)) (fun h=>ZoP Zei QU Y (h.get 0 Y) h.x) ?_))))
  refine sy (.tup [.agg (pfC ((Y5 d z ss most.toNat).1)),.rd (Zfi ((Y5 d z ss most.toNat).2.1)),.int ((Y5 d z ss most.toNat).2.2)]) (fun h=>ZaL (Zj4 hJ d z ss most.toNat (by exact hw) (by exact hG) (by exact hfl.1) (by exact hfl.2) oz) ZxN Y (Zk hS _ h.keep h.x) (h.x.1) (Za (h.get 4 Y) (Za (h.get 3 Y) (Za (h.get 2 Y) (Za (h.get 0 Y) Zc)))) (jo hJ h.x)) ?_
  refine snK 4 tb (env':=[(34,_),(33,_),(32,_),(25,_),(31,_),(30,_),(29,_),(28,_),(27,_),(26,_),(1,_),(3,_),(4,_),(6,_),(23,_)]) Y (Qk (cs:=pfC ((Y5 d z ss most.toNat).1)) Zrr Y Y Y (lb Y) Y Y Y dz (m:=2) Y Y (fun a w h=>Zk hS _ h.keep h.x _ nlr) (fun a w h w' hk'=>Yw hJ _ _ hk' h.x) ?_)
  refine snK 2 tb (env':=[(11,_),(10,_),(9,_),(34,_),(33,_),(32,_),(25,_),(31,_),(30,_),(29,_),(28,_),(27,_),(26,_),(1,_),(3,_),(4,_),(6,_),(23,_)]) Y (seK [0,1,2,4,13,14,15,16] U8 Y ?_)
  refine nx (ln 1 fun hl1=>?_)
  refine Zf (qso tb hJ [1,2,4,5,6,7,1001] U2 U7 ?_)
  refine cj 6 (fun hb2=>?_) fun hb2=>?_
  ·
   try simp at hb2
   have hmb:=Zpv hb2
   refine ZF tb hJ [1001,1012] [_,_,.int (((Y5 d z ss most.toNat).1).length:Nat),_,_,_,.int (((Y5 d z ss most.toNat).2.1).length:Nat),_,_,_,.bool true,_,_] [2,6,10] U2 Y ⟨Ym ZN,Ym YP,fun _ _ hk hx _ hc=>ZaL (Zcn hJ  (by have hc':(((decide (((((Y5 d z ss most.toNat).1).length:Nat):Int)=(0:Int)))&& (decide (((((Y5 d z ss most.toNat).2.1).length:Nat):Int)=(0:Int))))==true)=true:=hc;(try simp at hc');(exact hG))) Zme Y (Zk hS _ hk hx) (hx.1) Zc (jo hJ hx),U⟩ ?_
   refine ln 0 fun hl2=>?_
   exact tRo 1 (hE:=eB (by first | rfl | (rw[hmb.1,hmb.2];rfl) | simp))
  ·
   try simp at hb2
   obtain⟨hr1,hr2,hml,hsz,hck,hck2⟩:=Znk (d:=d) (z:=z) (ss:=ss) (most:=most.toNat) oz
   have hok1:=(ZfB hr1).2
   have hok2:=(ZfB hr2).2
   have hvd:=Zm2 hr2
   have hrk:=(QN hr2).1
   refine Zb (nx (tsq (snK 3 tb (env':=[(52,_),(51,_),(50,_),(10,_),(9,_),(1,_),(3,_),(4,_),(6,_),(36,_)]) Y (sy (.tup [.rd (Yc ((Yq d z ((Y5 d z ss most.toNat).1)).1)),.agg (vdC ((Yq d z ((Y5 d z ss most.toNat).1)).2)),.int (ZfC d z ((Y5 d z ss most.toNat).1))]) (fun h=>ZaL (ZgQ hJ d z ((Y5 d z ss most.toNat).1) (by exact hw) (by exact hG)) ZkE Y (Zk hS _ h.keep h.x) (h.x.1) (Za (h.get 2 Y) (Za (h.get 1 Y) (Za (h.get 0 Y) Zc))) (jo hJ h.x)) ?_))))
   refine snK 4 tb (env':=[(56,_),(55,_),(54,_),(49,_),(53,_),(52,_),(51,_),(50,_),(10,_),(9,_),(1,_),(3,_),(4,_),(6,_),(36,_)]) Y (Zv ZbI hJ Y Y Y (lb Y) fun b1=>?_)
   refine snK 1 tb (env':=[(12,_),(13,_),(56,_),(55,_),(54,_),(49,_),(53,_),(52,_),(51,_),(50,_),(10,_),(9,_),(1,_),(3,_),(4,_),(6,_),(36,_)]) Y (Zn (b:=b1) (off:=0) (es:=U2) (news:=U2) hJ hJ0 QX Y Y Y (lb Y) Y (fun a w h=>⟨(h.get 1 Y),(h.get 3 Y)⟩) ?_)
   refine snK 1 tb (env':=[(11,_),(12,_),(13,_),(56,_),(55,_),(54,_),(49,_),(53,_),(52,_),(51,_),(50,_),(10,_),(9,_),(1,_),(3,_),(4,_),(6,_),(36,_)]) Y (kw (fun h=>ZP hS h (m:=2) (s:=13) Y) ?_)
   refine seK [0,1,2,5,11,12,13,14,15,16] U10 Y (nx (ln 2 fun hl3=>?_))
   refine Zf (ZF tb hJ [4,5,6,8,9,1013] (V4 [.agg (vdC (⟨0,0⟩:Int×Int)),.bool (!(decide (((Yq d z ((Y5 d z ss most.toNat).1)).2).1=(⟨0,0⟩:Int×Int).1)&&decide (((Yq d z ((Y5 d z ss most.toNat).1)).2).2=(⟨0,0⟩:Int×Int).2))),_,_,_,.int (((Y5 d z ss most.toNat).2.1).length:Nat),_,.int (most.toNat:Nat),_,_]) [4,5,9,11] U6 Y ⟨fun _ _ _ hx _ _=>Y7 (ps:=[]) (us:=[.int .i64 0,.int .i64 0]) Zfn Y yz Zjr Y (X1 (.lit _ True.intro) (X1 (.lit _ True.intro) Z0)) hx,fun _ _ _ hx hl hc=>r_neqV eqVd Y (hl.D 3 60 Y hc) (hl.D 4 61 Y hc) hx,Ym YP,fun _ _ _ hx hl hc=>ZoP Zei QU Y (hl.D 10 67 Y hc) hx,U⟩ ?_)
   refine cj 5 (fun hb3=>?_) fun hb3=>?_
   ·
    exact False.elim (by simp[hvd,hrk]at hb3;omega)
   ·
    refine Zb (nx (ZF tb hJ (r5 [1002]) [_,.int ((Yh ss):Nat),_] [1] U6 Y ⟨iFo hS hJ (Zpg hJ ss (by first | exact hok1 | exact hok2)) ZqY,U⟩ ?_))
    refine Zf (ZF tb hJ (r6 [1000,1001,1002]) [_,.int (((Y5 d z ss most.toNat).2.1).length:Nat),_] [1] U9 Y ⟨Ym YP,U⟩ ?_)
    refine Zd (lpo (ι:=Nat×Int) (fun(k,s)=>(k≤(Y5 d z ss most.toNat).2.1.length)∧(ZoE s ((Y5 d z ss most.toNat).2.1.drop k)=some (Yh (Y5 d z ss most.toNat).1:Int))) (fun(_,_)=>[]) (fun(k,s)=>[(75,.int (k:Nat)),(14,.int s)]) (fun(k,_)=>(Y5 d z ss most.toNat).2.1.length-k) (r5 [6,7,8,5]) U7 (0,((Yh ss:Nat):Int)) ⟨nzl,hsz⟩ ?_)
    rintro⟨k,s⟩ ⟨f1_1,f1_2⟩
    refine qso tb hJ (r9 [1000]) [_] U10 ?_
    refine cjS 9 (fun hb4=>?_) fun hb4=>?_
    ·
     try simp at hb4
     have hsa:=siz_at f1_2 oz
     refine Zb (nx (Zf (Zd (tsq (sy (.ptr (chC (ge ((Y5 d z ss most.toNat).2.1) k))) (fun h=>ZM (i:=(k:Int)) YO Y (h.get 5 Y) (h.get 7 Y) nnn (ZT (xs:=((Y5 d z ss most.toNat).2.1)) (k:=k) sfz) Y h.x) ?_)))))
     refine snK 1 tb (env':=[(78,_),(77,_),(10,_),(9,_),(1,_),(4,_),(6,_),(73,_),(74,_),(75,_),(14,_),(76,_)]) Y (Qk (cs:=chC (ge ((Y5 d z ss most.toNat).2.1) k)) Zgw Y Y Y (lb Y) Y Y Y dz (m:=0) Y Y (fun a w h=>Zk hS _ h.keep h.x _ nlr) (fun a w h w' hk'=>Yw hJ _ _ hk' h.x) ?_)
     refine seK [0,3,4,5,6,7,8,9,10,11] U10 Y (nx (Zf (qso tb hJ (r9 [1009]) U10 U10 ?_)))
     refine cj 9 (fun hb5=>?_) fun hb5=>?_
     ·
      exact False.elim (by simp[hsa.1]at hb5;omega)
     ·
      refine Zb (nx (qpo tb hJ [1,2,3,4,5,6,7,8,1002] U3 U9 ?_))
      refine nx (YU tb hJ (r7 [8,1001]) [.int (k+1:Nat),_] [0] U9 Y ⟨YT,U⟩ ?_)
      exact Xk (k+1,(ge ((Y5 d z ss most.toNat).2.1) k).after) (r7 [8,7]) ⟨oz,by exact hsa.2.2⟩
    ·
     try simp at hb4
     have hse:=ZvP f1_2 oz
     have hc1:ckG d z ss (Y5 d z ss most.toNat).1 (Y5 d z ss most.toNat).2.1=((((Y5 d z ss most.toNat).2.1.length:Nat):Int),0):=(if_pos hr1).trans hck
     refine Zu (nx (ZF tb hJ (r5 [8,1009,1010]) (V5 [.tup [.int ((ckG d z ss ((Y5 d z ss most.toNat).1) ((Y5 d z ss most.toNat).2.1)).1),.int ((ckG d z ss ((Y5 d z ss most.toNat).1) ((Y5 d z ss most.toNat).2.1)).2)],_,_,_,_,_]) [5] U8 Y ⟨iFo hS hJ (ZlB hJ d z ss ((Y5 d z ss most.toNat).1) ((Y5 d z ss most.toNat).2.1) (by exact hw) (by exact hG) (by exact hfl.1) (by exact hfl.2) (by exact hcL)) ZqZ,U⟩ ?_))
     refine Zf (ZF tb hJ [0,2,3,4,1013] [_,_,.int (((Y5 d z ss most.toNat).2.1).length:Nat),_,_,_,_,_,_,_,.int ((Yh ((Y5 d z ss most.toNat).1)):Nat),_,_,_] [2,10] U5 Y ⟨Ym YP,fun _ _ hk hx hl hc=>ZaL (Zpg hJ ((Y5 d z ss most.toNat).1) (by have hc':(((!decide ((ckG d z ss ((Y5 d z ss most.toNat).1) ((Y5 d z ss most.toNat).2.1)).1=((((Y5 d z ss most.toNat).2.1).length:Nat):Int)))|| (!decide ((ckG d z ss ((Y5 d z ss most.toNat).1) ((Y5 d z ss most.toNat).2.1)).2=(0:Int))))==false)=true:=hc;(try simp at hc');(first | exact hok1 | exact hok2))) ZqY Y (Zk hS _ hk hx) (hx.1) (Za (hl.D 9 110 Y hc) Zc) (jo hJ hx),U⟩ ?_)
     refine cj 4 (fun hb6=>?_) fun hb6=>?_
     ·
      exact False.elim (by simp[hc1,hse]at hb6)
     ·
      refine Zb (nx (Zf (ZF tb hJ [0,1,2,3,1002] [_,.int (((Y5 d z ss most.toNat).2.1).length:Nat),_] [1] U5 Y ⟨Ym YP,U⟩ ?_)))
      refine cj 4 (fun hb7=>?_) fun hb7=>?_
      ·
       try simp at hb7
       have hc2:ckG d z ss ss (Y5 d z ss most.toNat).2.1=((((Y5 d z ss most.toNat).2.1.length:Nat):Int),261):=(if_pos hr1).trans (hck2 (by intro e;simp[e]at hb7))
       refine ZF tb hJ [0,1009,1010] (V5 [.tup [.int ((ckG d z ss ss ((Y5 d z ss most.toNat).2.1)).1),.int ((ckG d z ss ss ((Y5 d z ss most.toNat).2.1)).2)],_,_,_,_,_]) [5] U3 Y ⟨iFo hS hJ (ZlB hJ d z ss ss ((Y5 d z ss most.toNat).2.1) (by exact hw) (by exact hG) (by exact hfl.1) (by exact hfl.2) (by exact hcL)) ZqZ,U⟩ ?_
       refine ZF tb hJ [1007] [_,_,.int (((Y5 d z ss most.toNat).2.1).length:Nat),_,_,_,_,_] [2] [_] Y ⟨Ym YP,U⟩ ?_
       refine cj 0 (fun hb8=>?_) fun hb8=>?_
       ·
        exact False.elim (by simp[hc2]at hb8)
       ·
        refine Zb (nx (ZF tb hJ [1001] [.bool true,_] [0] [_] Y ⟨iFo hS hJ (Zcn hJ  (by exact hG)) Zme,U⟩ ?_))
        exact tRo 0 (hE:=Y)
      ·
       try simp at hb7
       refine Zb (nx (ZF tb hJ [1001] [.bool true,_] [0] [_] Y ⟨iFo hS hJ (Zcn hJ  (by exact hG)) Zme,U⟩ ?_))
       exact tRo 0 (hE:=Y)
end Go.Proofs.YtdfadihhfppjaaaGreatDoor
