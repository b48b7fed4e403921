/-
  CONTRACT: verify.table; an element of an array.
  THE ENGINE: a struct of which only some fields are given; an array of two at an index.
  CONTRACTS of the program: an order of pairs.
-/
import Derived.Test.YtaigaoflehfdcaaGreatDoorZGW
import Derived.Laws.EntriesVeiled
namespace Go.Proofs.YtaigaoflehfdcaaGreatDoor
open Go.RowKit
section
variable {n:Rn} {P:Program} {S:Nat→Prop} {X:WP} {o:Oper} {a:Act} {w:World} {x y:Operand} {t e:TypeId}
theorem ZpA {cs:List CD} {c:CD} {z:Int} {k:Nat} (ht:P.underlying t=some (.array k e)) (h1:QA P e) (hs:∀ w,(sizeOf e).run P w= .ok 1 w) (hop:o.op= .index t x y) (h:Rel S w (.agg cs) (a.eval x)) (hy:Rel S w (.int z) (a.eval y)) (h0:0≤z) (hk:cs.length=k) (hc:cs[z.toNat]?=some c) (hx:X w):Yr n P o a w (YQ S X (.rd c) w):=by
 simp only[Rel]at h
 obtain⟨us,hv,hr⟩:=h
 have hlt:z.toNat<cs.length:=(List.getElem?_eq_some_iff.1 hc).1
 have hlu:z.toNat<us.length:=by rw[hr.length];exact hlt
 refine ZA (v:=us[z.toNat]) ?_ (by simp only[Rel];exact hr.get hc (List.getElem?_eq_getElem hlu)) hx
 have hz:z< (k:Int):=by omega
 simp[execOp,hop,hv,hy.lit,Instr.index,asIntOf,Sem.run_bind,run_underlying ht,h0,hz,hs w,part,h1 w,hlu]
end
theorem Zh0 {k:Nat} {place:Nat→Option (Nat×Nat)} (hp:∀ j,j<k→place j=some (j,1)):∀(ps:List (Nat×Value)) (cells:Array Value),cells.size=k→(∀ p∈ps,p.1<k∧p.2.oneCell'=true)→
 Instr.fill place cells ps=some (ps.foldl (fun c p=>c.setIfInBounds p.1 p.2) cells)
 | [],_,_,_=>by simp[Instr.fill]
 | (i,u)::ps,cells,hc,h1=>by
  obtain⟨h2,h3⟩:=h1 (i,u) yz
  have hcell:u.cells= #[u]:=by revert h3;cases u<;>simp[Value.cells,Value.oneCell']
  simp only[Instr.fill,hp i h2,hcell]
  rw[if_neg (by simp;omega)]
  have e:(Array.foldl (fun cs (x:Value×Nat)=>cs.setIfInBounds (i+x.snd) x.fst) cells #[u].zipIdx)=cells.setIfInBounds i u:=rfl
  rw[e,Zh0 hp ps _ (by simpa using hc) fun p hq=>h1 p (by simp[hq])]
  rfl
def Zf4 (P:Program) (t:TypeId) (z:List Value):Prop:=∃ place:Nat→Option (Nat×Nat),(∀ j,j<z.length→place j=some (j,1))∧∀ parts,P.built t parts=Instr.fill place z.toArray parts
theorem XL {P:Program} {n:Rn} {S:Nat→Prop} {X:WP} {o:Oper} {a:Act} {w:World} {t:TypeId} {z:List Value} {parts:Array (Nat×Operand)} {ps:List (Nat×Value)} {us:List Value} {cs:List CD} (h1:Zf4 P t z) (hop:o.op= .build t parts) (hp:(parts.map fun(i,x)=>(i,a.eval x)).toList=ps) (hq:∀ p∈ps,p.1<z.length∧p.2.oneCell'=true)
 (hu:ps.foldl (fun c p=>c.set p.1 p.2) z=us) (h:RdL S w cs us) (hx:X w):Yr n P o a w (YQ S X (.agg cs) w):=by
 obtain⟨place,hpl,hb⟩:=h1
 have hf:=Zh0 hpl ps z.toArray yz hq
 have hfold:∀(ps:List (Nat×Value)) (z:List Value),ps.foldl (fun c p=>c.setIfInBounds p.1 p.2) z.toArray=(ps.foldl (fun c p=>c.set p.1 p.2) z).toArray:=by
  intro ps
  induction ps with
  | nil=>intro z;rfl
  | cons p ps ih=>intro z;simp only[List.foldl_cons,List.setIfInBounds_toArray,ih]
 have hrun:=run_build (P:=P) w t (parts.map fun(i,x)=>(i,a.eval x)) us.toArray (by
  rw[hp,hb,hf,hfold,hu])
 refine ZA (v:=.agg us.toArray) ?_ (by simp only[Rel];exact⟨us,rfl,h⟩) hx
 rw[execOp,hop]
 simp only[Sem.run_bind]
 rw[hrun]
 rfl
theorem Q0 {S:Nat→Prop} {w:World} {c:CD} {cs:List CD} {u:Value} {us:List Value} (h:Rd S w c u) (k:RdL S w cs us):RdL S w (c::cs) (u::us):=⟨h,k⟩
theorem Rel.oneC {S:Nat→Prop} {w:World} {c:CD} {u:Value} (h:Rel S w (.rd c) u):u.oneCell'=true:=by
 simp only[Rel]at h
 exact h.one
theorem all1 {k i:Nat} {u:Value} {ps:List (Nat×Value)} (hi:i<k) (h:u.oneCell'=true) (hr:∀ p∈ps,p.1<k∧p.2.oneCell'=true):∀ p∈(i,u)::ps,p.1<k∧p.2.oneCell'=true:=by
 intro p hp
 rcases List.mem_cons.1 hp with rfl | hp
 · exact⟨hi,h⟩
 · exact hr p hp
theorem ZlV {k:Nat}:∀ p∈([]:List (Nat×Value)),p.1<k∧p.2.oneCell'=true:=by simp
theorem r_gtrS {P:Program} {n:Rn} {S:Nat→Prop} {X:WP} {o:Oper} {a:Act} {w:World} {t u:TypeId} {x y:Operand} {i j:BA} (hop:o.op= .binOp .gtr t x y u) (h1:Rel S w (.str i) (a.eval x)) (h2:Rel S w (.str j) (a.eval y)) (hx:X w):Yr n P o a w (YQ S X (.bool (!(Op.bytesLess i.toList j.toList||decide (i=j)))) w):=
 ZbU True.intro (Zbc ..) (by simp only[binOp,Op.stringOp,Zar];rfl) hop h1 h2 hx
section
variable {n:Rn} {N:Nat} {P:Program} {J X:WP} {S S' S'':Nat→Prop} {O:List OB} {w0:World} {env:List (Nat×AV)} {Q:Exit→Act→WP}
variable {o:Oper} {a:Act} {w:World} {x y:Operand} {t:TypeId} {b:Nat} {cs:List CD}
theorem QP {fn:Func} {d m q u:Nat} {k:Nat} {cs':List CD} {r1 r2:AV} (hr:fn.results= #[.cell d t,.tmp u]) (h1:XZ P t k) (h:So J S w0 N (OB.var b cs::O) env a w) (he:env[m]?=some (d,.at b 0)) (hl:cs.length=k) (hE:cs=cs') (he2:env[q]?=some (u,r1)) (hE2:r1=r2):
 bodyPost P fn (fun e w'=>∃ v,e= .returned v∧Rel S w' (.tup [.agg cs',r2]) v∧Keeps All w0 w'∧J w') .ret a w:=by
 subst hE
 subst hE2
 obtain⟨h0,us,e,hb,hrd⟩:=h.x.2.1 (OB.var b cs) yz
 have hd:a.tmps.getD d undef= .pointer (some ⟨b,0,none⟩):=(h.get m he).lit
 have hrun:=YR (P:=P) b 0 w us 0 #[] fun j u hj=>by rw[Nat.zero_add];simp[World.cell?,hb,hj]
 rw[show us.length=k by rw[hrd.length,hl]]at hrun
 have hd':a.tmps[d]?.getD undef= .pointer (some ⟨b,0,none⟩):=by rw[←Array.getD_eq_getD_getElem?];exact hd
 refine⟨h.defs,.tuple #[.agg us.toArray,a.tmps.getD u undef],by simp[results,hr,hd',asAddr,Sem.run_bind,loadVar,loadCells,h1.1 w,h1.2 w,hrun],_,rfl,?_,h.keep,h.x.1⟩
 have h2:=(h.get q he2).sub (T:=S) fun _ _ hk=>hk.1
 simp only[Rel,RelL]
 exact⟨_,rfl,_,_,rfl,⟨us,rfl,hrd.sub fun _ _ hk=>hk.1⟩,_,_,rfl,h2,rfl⟩
end
section
variable {N:Nat} {J:WP} {S:Nat→Prop} {O:List OB} {w0:World} {env:List (Nat×AV)} {a:Act} {w:World} {b:Nat} {cs cs':List CD}
theorem ZjE {k:Nat} (h:SO S (OB.var b cs::O) k):SO S (OB.var b cs'::O) k:=⟨h.1,fun p hp=>by
 rcases List.mem_cons.1 hp with rfl | hp
 · exact h.2 (OB.var b cs) yz
 · exact h.2 p (by simp[hp])⟩
theorem Zaw {v:Value} {e:TypeId} {size:Nat} {rows:List (List CD)} {j:Nat} (hS:∀ b,w0.heap.size≤b→S b) (hj:cs[j]?=some (.lit v)) (hc:cs'=cs.set j (.sl rows)) (h:So J S w0 N (OB.row v e size rows::OB.var b cs::O) env a w):
 So J S w0 N (OB.var b cs'::O) env a w:=by
 have h':=YB h
 have hrow:=ZmB (v:=v) (e:=e) (size:=size) (rows:=rows) (ZeT hS h) (OB.sub (h.x.2.1 (OB.row v e size rows) yz) fun k _ hk=>hk.drop)
 refine⟨h'.defs,h'.size,h'.keep,⟨h'.x.1,fun p hp=>?_,?_⟩,fun p hp=>⟨(h'.env p hp).1,(h'.env p hp).2.sub fun _ _ hk=>ZjE hk⟩⟩
 · rcases List.mem_cons.1 hp with rfl | hp
   · obtain⟨h0,us,e',hb,hr⟩:=h'.x.2.1 (OB.var b cs) yz
     refine⟨h0,us,e',hb,RdL.of_get (by rw[hc,List.length_set];exact hr.length) fun i c u h1 h2=>?_⟩
     rw[hc,List.getElem?_set]at h1
     split at h1
     · rename_i hij
       subst hij
       split at h1
       · cases h1
         obtain rfl:=(hr.get hj h2).of_lit
         simp only[Rel]at hrow
         exact hrow.sub fun _ _ hk=>ZjE hk
       · cases h1
     · exact(hr.get h1 h2).sub fun _ _ hk=>ZjE hk
   · exact OB.sub (h'.x.2.1 p (List.mem_cons_of_mem _ hp)) fun _ _ hk=>ZjE hk
 · have:=List.pairwise_cons.1 h'.x.2.2
   exact List.pairwise_cons.2 ⟨fun p hp k h1 h2=>this.1 p hp k h1 h2,this.2⟩
end
theorem two_at {α:Type} {f:α→CD} {x y:α} {k:Nat} (h:k<2):([f x,f y]:List CD)[((k:Nat):Int).toNat]?=some (f (ZcR x y k)):=by
 match k,h with
 | 0,_=>rfl
 | 1,_=>rfl
set_option maxHeartbeats 8000000
set_option maxRecDepth 100000
section
variable {J:WP} (hJ:Stab J)
include hJ
theorem ZmX (s:BA)  :Fn Tryz.prog J 226 [.str s] (.bool false):=by
 refine fE Tryz.func226 fun S w0 hS hJ0=>?_
 clear hJ0
 refine qs tb hJ [0] [_] [_] ?_
 refine qs tb hJ [1003] U4 [_] ?_
 exact tRn 0 (hE:=eB yz)
theorem Zsq (x y:BA)  :Fn Tryz.prog J 206 [.str x,.str y] (.int (ZaV x y)):=by
 refine fE Tryz.func206 fun S w0 hS hJ0=>?_
 clear hJ0
 refine qs tb hJ [0,1] [_] U2 ?_
 refine hqs tb hJ [0,1,1002] [_,.bool false,_] [1] U3 rfl ⟨iFn hS hJ (ZmX hJ x) Zkv,trivial⟩ ?_
 refine hqs tb hJ [0,1,2,1002] [_,.bool false,_] [1] U4 rfl ⟨iFn hS hJ (ZmX hJ y) Zkv,trivial⟩ ?_
 refine Zd (qs tb hJ [0,1,3,1000] [_] U4 ?_)
 refine cj 3 (fun hb1=>?_) fun hb1=>?_
 ·
  exact False.elim (by cases hb1)
 ·
  refine Za (nx (Zd (qs tb hJ [0,1,1000] [_] U3 ?_)))
  refine cj 2 (fun hb3=>?_) fun hb3=>?_
  ·
   exact False.elim (by cases hb3)
  ·
   refine Za (nx (Zd (qs tb hJ [0,1,1002] U3 U3 ?_)))
   refine cj 2 (fun hb4=>?_) fun hb4=>?_
   ·
    try simp at hb4
    refine qs tb hJ [1000] [_] [_] ?_
    exact tRn 0 (hE:=eI (by first | (simp_all[ZaV];done) | grind[ZaV]))
   ·
    try simp at hb4
    refine Za (nx (Zd (hqs tb hJ [1002] [_,_,.bool (!(Op.bytesLess x.toList y.toList||decide (x=y)))] [2] [_] rfl ⟨fun _ _ _ hx hl _=>r_gtrS rfl (hl.D 0 17 rfl rfl) (hl.D 1 18 rfl rfl) hx,trivial⟩ ?_)))
    refine cj 0 (fun hb5=>?_) fun hb5=>?_
    ·
     try simp at hb5
     refine qs tb hJ [1000] [_] [_] ?_
     exact tRn 0 (hE:=eI (by first | (simp_all[ZaV];done) | grind[ZaV]))
    ·
     try simp at hb5
     refine Za (nx (qs tb hJ [1000] [_] [_] ?_))
     exact tRn 0 (hE:=eI (by first | (simp_all[ZaV];done) | grind[ZaV]))
theorem p_OrI (l:List Int)  :Fn Tryz.prog J 205 [.rd (Qx l)] (.int (orI l)):=by
 refine fE Tryz.func205 fun S w0 hS hJ0=>?_
 clear hJ0
 refine ln 0 fun hl1=>?_
 refine qs tb hJ [0] [_] [_] ?_
 refine qs tb hJ [0,1000] [_] U2 ?_
 refine Zd (hqs tb hJ [1,1000,1001,1002] [_,.int (l.length:Nat),_] [1] U4 rfl ⟨ZX YV,trivial⟩ ?_)
 refine Zc (lp (ι:=Nat) (fun k=>(k≤l.length)∧(∀ j,j<k→ge l j=0)) (fun k=>[(8,.int (k:Nat))]) (fun k=>l.length-k) [0,1,2,3] U3 0 ⟨nzl,fun j hj=>by omega⟩ ?_)
 rintro k ⟨f1_1,f1_2⟩
 refine qs tb hJ [0,1,2,3,1000] [_] U5 ?_
 refine cjS 4 (fun hb1=>?_) fun hb1=>?_
 ·
  try simp at hb1
  refine Za (nx (Zd (Zc (hqs tb hJ [0,1,2,3,1002] [.ptr [lI (ge l k)],_,_] [0] U5 rfl ⟨iIx ZP,trivial⟩ ?_))))
  refine qs tb hJ (r5 [1002]) U3 U6 ?_
  refine cj 5 (fun hb2=>?_) fun hb2=>?_
  ·
   try simp at hb2
   refine qs tb hJ [1001] U2 [_] ?_
   exact tRn 0 (hE:=eI (by first | exact(Zm3 hb1 f1_2 (by simpa using hb2)).symm | exact(Zsr fun j hj=>f1_2 j oz).symm))
  ·
   try simp at hb2
   refine Za (nx (hqp tb hJ [0,1,2,1001] [.int (k+1:Nat),_] [0] U4 rfl ⟨Yf,trivial⟩ ?_))
   exact lpE (k+1) [0,1,2,3] ⟨oz,ZG f1_2 (by simpa using hb2)⟩
 ·
  try simp at hb1
  refine Zp (nx (qs tb hJ [1001] U2 [_] ?_))
  exact tRn 0 (hE:=eI (by first | exact(Zm3 hb1 f1_2 (by simpa using hb2)).symm | exact(Zsr fun j hj=>f1_2 j oz).symm))
theorem ZmY (p q:Pr)  :Fn Tryz.prog J 162 [.agg (prC p),.agg (prC q)] (.int (ZfZ p q)):=by
 refine fE Tryz.func162 fun S w0 hS hJ0=>?_
 clear hJ0
 refine hqs tb hJ [1000,1001] [.ptr (prC p),.ptr (prC q),_] [0,1] U2 rfl ⟨iBs hS hJ,iBs hS hJ,trivial⟩ ?_
 refine hqs tb hJ [1010,1012] (V4 [.int (ZaV p.a q.a),_,_,_,_,.int (ZaV p.b q.b),.rd (Qx ([ZaV p.a q.a,ZaV p.b q.b]:List Int)),.int (orI ([ZaV p.a q.a,ZaV p.b q.b]:List Int)),_]) [4,9,10,11] U2 rfl ⟨iFn hS hJ (Zsq hJ p.a q.a) ZdZ,iFn hS hJ (Zsq hJ p.b q.b) ZdZ,fun a _ hk hx hl _=>ZdP (k:=2) (us:=[a.eval (.tmp 9),a.eval (.tmp 14)]) ZP Zg2 rfl yz (ZJ (hl.D 4 9 rfl rfl) (ZJ (hl.D 9 14 rfl rfl) Yp)) rfl dz dz (hS _ hk.size) (js hJ hx),iFn hS hJ (p_OrI hJ ([ZaV p.a q.a,ZaV p.b q.b]:List Int)) Zkz,trivial⟩ ?_
 refine ln 0 fun hl1=>?_
 exact tRn 1 (hE:=eI (Zog p q))
end
end Go.Proofs.YtaigaoflehfdcaaGreatDoor
