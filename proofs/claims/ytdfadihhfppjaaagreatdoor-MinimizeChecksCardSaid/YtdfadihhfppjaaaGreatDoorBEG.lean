/-
  Part of the proof that MinimizeChecks returns true. Conditions: none.
-/
import Derived.Test.YtdfadihhfppjaaaGreatDoorBEF
import Derived.Laws.CopyRow
open List (mem_cons)
namespace Go.Proofs.YtdfadihhfppjaaaGreatDoor
open Go.RowKit
def OB.var (b:Nat) (cs:List CD):OB where
 blk:=λk=>k=b
 inv:=λlo S w=>lo<=b/\∃ us e,w.heap[b]?=some (.cells us.toArray e)/\bE S w cs us
 mv:=λ{_ _ _ _ w w'} h hk hb hs=>by
  obtain⟨h0,us,e,h1,h2⟩:=h
  exact⟨h0,us,e,(hk.block b (Array.getElem?_eq_some_iff.1 h1).1 (hb b rfl)).trans h1,h2.move hk hs⟩
 lt:=λ⟨h0,_,_,h1,_⟩ k hk=>by subst hk;exact⟨h0,(Array.getElem?_eq_some_iff.1 h1).1⟩
abbrev AV.at (b off:Nat):AV:=.lit (.pointer (some ⟨b,off,none⟩))
def gm (P:Program) (t:TypeId) (cs:List CD):Prop:=∃ z,(∀ w,(zeroValue t).run P w= .ok z w)/\∀ S w,bE S w cs z.cells.toList
def dV (P:Program) (t:TypeId) (k:Nat):Prop:=∀ w,(sizeOf t).run P w= .ok k w
theorem pH (b off j:Nat):(⟨b,off,none⟩:Addr).add j=⟨b,off+j,none⟩:=by
 unfold Addr.add
 split
 ·rename_i h;subst h;rfl
 ·rfl
theorem BS {P:Program} {w:World} {g o:Nat} {t ty:TypeId} {cur:List Value} {v:Value} {vs:List Value} (hv:v.cells.toList=vs) (hs:dV P ty vs.length) (hg:w.heap[g]?=some (.cells cur.toArray t)) (hl:o+vs.length<=cur.length) (h1:∀ v∈vs,v.oneCell'=true):
 (Instr.storeAt ty (.pointer (some ⟨g,o,none⟩)) v).run P w= .ok () (w.setRow g (cur.take o++vs++cur.drop (o+vs.length)).toArray):=by
 have:=run_storeCells_at (P:=P) g o t vs 0 cur.toArray w hg (by simpa using hl) h1
 simp only[Nat.add_zero]at this
 have hsz:v.cells.size=vs.length:=by rw[<-hv];simp
 simp[Instr.storeAt,Instr.sureAddr,storeVar,Sem.run_bind,hs w,hsz,hv,this]
theorem wY {w:World} {g:Nat} {c:Array Value}:Keeps (λb=>¬ b=g) w (w.setRow g c):=by
 refine⟨rfl,rfl,rfl,by simp[World.setRow],λk _ hk=>?_⟩
 simp only[World.setRow]
 rw[Array.getElem?_modify,if_neg (λe=>hk e.symm)]
section
variable {n:Rn} {N:Nat} {P:Program} {J X:WP} {S S':Nat->Prop} {O:List OB} {w0:World} {env:List (Nat×AV)} {Q:Exit->Act->WP}
variable {o:Oper} {a:Act} {w:World} {x y:Operand} {t:TypeId} {b off:Nat} {cs ds:List CD}
theorem bE.one {cs:List CD} {us:List Value} (h:bE S w cs us):∀ u∈us,u.oneCell'=true:=(yC h).2
theorem cx {ops:Array Oper} {rest:List Oper} {d:Nat} (hz:gm P t cs) (V:aR J) (hg:o.guard=none) (hop:o.op= .alloc t) (hd:o.dst=some d) (hN:d<N)
 (next:∀ b a w,So J S w0 N (OB.var b cs::O) ((d,.at b 0)::dP d env) a w->wpListIn n.F n.d P ops Q rest a w):
 ∀ a w,So J S w0 N O env a w->wpListIn n.F n.d P ops Q (o::rest) a w:=by
 refine kK (O2:=λb=>OB.var b cs::O) (av:=λb=>.at b 0) hg hd hN (λa w h=>?_) next
 obtain⟨z,f9,oa⟩:=hz
 have hk:Keeps All w (w.alloc (.cells z.cells t)):=(Keeps.refl _ _).alloc _
 refine en (v:=.pointer (some ⟨w.heap.size,0,none⟩)) (w':=w.alloc (.cells z.cells t)) ?_ ⟨w.heap.size,lh V h.keep h.x hk (λb hb=>Nat.le_of_eq hb.symm) ⟨h.keep.size,z.cells.toList,t,by simpa using heap_alloc_new w _,oa _ _⟩,Rel.aH _⟩
 simp[execOp,hop,Instr.alloc,newVar,newRow,newObj,Sem.run_bind,f9,Sem.run]
theorem gD (hz:gm P t cs) (V:aR J) (hop:o.op= .alloc t) (hk0:Keeps All w0 w) (Z:XO J S w0.heap.size O w):
 Does n P o a w λv w'=>∃ b:Nat,v= .pointer (some ⟨b,0,none⟩)/\dc J S w0 O w (OB.var b cs::O) w':=by
 obtain⟨z,f9,oa⟩:=hz
 have hk:Keeps All w (w.alloc (.cells z.cells t)):=(Keeps.refl _ _).alloc _
 refine en (v:=.pointer (some ⟨w.heap.size,0,none⟩)) (w':=w.alloc (.cells z.cells t)) ?_ ⟨w.heap.size,rfl,lh V hk0 Z hk (λb hb=>Nat.le_of_eq hb.symm) ⟨hk0.size,z.cells.toList,t,by simpa using heap_alloc_new w _,oa _ _⟩⟩
 simp[execOp,hop,Instr.alloc,newVar,newRow,newObj,Sem.run_bind,f9,Sem.run]
theorem iw {es news:List CD} {us:List Value} (V:aR J) (hJ0:J w0) (hs:dV P t news.length) (hop:o.op= .store t x y) (hk0:Keeps All w0 w) (Z:XO J S w0.heap.size (OB.var b cs::O) w) (h1:Rel S' w (.at b off) (a.eval x))
 (hv:(a.eval y).cells.toList=us) (hr:bE (SO S (OB.var b cs::O)) w news us) (hl:off+news.length<=cs.length) (he:cs.take off++news++cs.drop (off+news.length)=es):
 Does n P o a w λ_ w'=>dc J S w0 (OB.var b cs::O) w (OB.var b es::O) w':=by
 subst he
 obtain⟨h0,cur,e,hb,hc⟩:=Z.2.1 (OB.var b cs) yz
 have hlen:=hr.length
 have XK:=hc.length
 have hrun:=BS (P:=P) (ty:=t) (o:=off) hv (by rw[hlen];exact hs) hb oz hr.one
 have hlt:b<w.heap.size:=(Array.getElem?_eq_some_iff.1 hb).1
 have hk:Keeps (λk=>¬ (OB.var b cs).blk k) w (w.setRow b (cur.take off++us++cur.drop (off+us.length)).toArray):=wY
 have hsub:∀ k,k<w.heap.size->SO S (OB.var b cs::O) k->(¬ (OB.var b cs).blk k)/\SO S (OB.var b (cs.take off++news++cs.drop (off+news.length))::O) k:=λk _ hs=>⟨hs.2 (OB.var b cs) yz,hs.1,λp hp=>by
  rcases mem_cons.1 hp with rfl | hp
  ·exact hs.2 (OB.var b cs) yz
  ·exact hs.2 p (List.mem_cons_of_mem _ hp)⟩
 refine td (w':=w.setRow b (cur.take off++us++cur.drop (off+us.length)).toArray) ?_ (pu V hJ0 hk0 Z hk (λk hb=>.inl hb) ⟨h0,_,e,setRow_heap w b _ _ e _ hb,?_⟩)
 ·rw[execOp,hop]
  simp only[h1.lit,Sem.run_bind,hrun]
  rfl
 ·have FD:∀ {S:Nat->Prop} {w:World} {l:List CD} {m:List Value} (k:Nat),bE S w l m->bE S w (l.take k) (m.take k)/\bE S w (l.drop k) (m.drop k):=by
   intro S w l m k h
   refine⟨bE.kp (by simp[h.length]) λi c v h1 h2=>?_,bE.kp (by simp[h.length]) λi c v h1 h2=>?_⟩
   ·rw[List.getElem?_take]at h1 h2
    split at h1
    ·rename_i hi;rw[if_pos hi]at h2;exact h.get h1 h2
    ·cases h1
   ·rw[List.getElem?_drop]at h1 h2;exact h.get h1 h2
  have aF:=hc.move hk hsub
  rw[<-hlen]at aF ⊢
  exact((FD off aF).1.append (by rw[<-hlen]at hsub;exact hr.move hk hsub)).append (FD (off+us.length) aF).2
theorem rp {v:Value} (h:v.oneCell'=true):v.cells.toList=[v]:=by cases v<;>simp_all[Value.cells,Value.oneCell']
theorem gI {ops:Array Oper} {rest:List Oper} {es:List CD} {c:CD} (V:aR J) (hJ0:J w0) (hs:dV P t 1) (hg:o.guard=none) (hd:o.dst=none) (hop:o.op= .store t x y) (hl:off+1<=cs.length) (he:cs.take off++[c]++cs.drop (off+1)=es)
 (h1:∀ a w,So J S w0 N (OB.var b cs::O) env a w->Rel (SO S (OB.var b cs::O)) w (.at b off) (a.eval x)/\Rel (SO S (OB.var b cs::O)) w (.rd c) (a.eval y))
 (next:∀ a w,So J S w0 N (OB.var b es::O) env a w->wpListIn n.F n.d P ops Q rest a w):
 ∀ a w,So J S w0 N (OB.var b cs::O) env a w->wpListIn n.F n.d P ops Q (o::rest) a w:=
 qU (O2:=λ_:Unit=>_) hg hd (λa w h=>by
  obtain⟨g1,g2⟩:=h1 a w h
  simp only[Rel]at g2
  exact bD (iw (news:=[c]) V hJ0 hs hop h.keep h.x g1 (rp g2.one) ⟨g2,trivial⟩ hl he) λ_ _ hp=>⟨(),hp⟩) λ_=>next
theorem ce {ops:Array Oper} {rest:List Oper} {es news:List CD} (V:aR J) (hJ0:J w0) (hs:dV P t news.length) (hg:o.guard=none) (hd:o.dst=none) (hop:o.op= .store t x y) (hl:off+news.length<=cs.length) (he:cs.take off++news++cs.drop (off+news.length)=es)
 (h1:∀ a w,So J S w0 N (OB.var b cs::O) env a w->Rel (SO S (OB.var b cs::O)) w (.at b off) (a.eval x)/\Rel (SO S (OB.var b cs::O)) w (.agg news) (a.eval y))
 (next:∀ a w,So J S w0 N (OB.var b es::O) env a w->wpListIn n.F n.d P ops Q rest a w):
 ∀ a w,So J S w0 N (OB.var b cs::O) env a w->wpListIn n.F n.d P ops Q (o::rest) a w:=
 qU (O2:=λ_:Unit=>_) hg hd (λa w h=>by
  obtain⟨g1,g2⟩:=h1 a w h
  simp only[Rel]at g2
  obtain⟨us,hv,hr⟩:=g2
  exact bD (iw (us:=us) V hJ0 hs hop h.keep h.x g1 (by rw[hv];rfl) hr hl he) λ_ _ hp=>⟨(),hp⟩) λ_=>next
theorem cy {s:TypeId} {k d:Nat} (h1:db P s k d) (hop:o.op= .fieldAddr s x k) (h:Rel S' w (.at b off) (a.eval x)) (Z:X w):Does n P o a w (bG S X (.at b (off+d)) w):=by
 refine cN (v:=.pointer (some ⟨b,off+d,none⟩)) ?_ (Rel.aH _) Z
 simp[execOp,hop,h.lit,h1 b off w]
theorem jv (hop:o.op= .nilCheck x) (h:Rel S' w (.at b off) (a.eval x)) (Z:X w):Does n P o a w (bG S X (.at b off) w):=by
 refine cN (v:=a.eval x) ?_ (by rw[h.lit];exact Rel.aH _) Z
 simp[execOp,hop,h.lit]
theorem cg {c:CD} (h1:eu P t) (hop:o.op= .load t x) (hi:∃ lo,(OB.var b cs).inv lo S w) (h:Rel S' w (.at b off) (a.eval x)) (hc:cs[off]?=some c) (Z:X w):Does n P o a w (bG S X (.rd c) w):=by
 obtain⟨lo,h0,us,e,hb,hr⟩:=hi
 have hlt:off<us.length:=by rw[hr.length];exact(List.getElem?_eq_some_iff.1 hc).1
 have hcell:w.cell? ⟨b,off,none⟩=some us[off]:=by simp[World.cell?,hb,hlt]
 refine cN (v:=us[off]) ?_ (by simp only[Rel];exact hr.get hc (List.getElem?_eq_getElem hlt)) Z
 simp[execOp,hop,h.lit,Instr.loadAt,Instr.sureAddr,loadVar,Sem.run_bind,h1 w,hcell]
theorem fA {k:Nat} (h1:fY P t k) (hop:o.op= .load t x) (hi:∃ lo,(OB.var b cs).inv lo S w) (h:Rel S' w (.at b off) (a.eval x)) (hc:(cs.drop off).take k=ds) (hl:ds.length=k) (Z:X w):Does n P o a w (bG S X (.agg ds) w):=by
 subst hc
 obtain⟨lo,h0,us,e,hb,hr⟩:=hi
 have hlen:=hr.length
 have hl2:((us.drop off).take k).length=k:=by simp at hl ⊢;omega
 have hrun:=mq (P:=P) b off w ((us.drop off).take k) 0 #[] λj u hj=>by
  have hj':us[off+j]?=some u:=by
   rw[List.getElem?_take]at hj
   split at hj
   ·rwa [List.getElem?_drop]at hj
   ·cases hj
  simp[World.cell?,hb,hj']
 rw[hl2]at hrun
 refine cN (v:=.agg ((us.drop off).take k).toArray) ?_ ?_ Z
 ·simp[execOp,hop,h.lit,Instr.loadAt,Instr.sureAddr,loadVar,loadCells,Sem.run_bind,h1.1 w,h1.2 w,hrun]
 ·simp only[Rel]
  refine⟨_,rfl,bE.kp (by simp[hlen]) λi c v h1 h2=>?_⟩
  rw[List.getElem?_take]at h1 h2
  split at h1
  ·rename_i hi;rw[if_pos hi]at h2
   rw[List.getElem?_drop]at h1 h2;exact hr.get h1 h2
  ·cases h1
theorem fB {s m:Nat} (hS:∀ b,w0.heap.size<=b->S b) (h:So J S w0 N (OB.var b cs::O) env a w) (he:env[m]?=some (s,.at b 0)):
 So J S w0 N O ((s,.ptr cs)::dP s env) a w:=by
 have h':=cK h
 refine⟨h.defs,h.size,h.keep,h'.x,λp hp=>?_⟩
 rcases mem_cons.1 hp with rfl | hp
 ·refine⟨(h.env _ (List.mem_of_getElem? he)).1,?_⟩
  have ei:a.tmps.getD s undef= .pointer (some ⟨b,0,none⟩):=(h.get m he).lit
  obtain⟨h0,us,e,hb,hr⟩:=h.x.2.1 (OB.var b cs) yz
  simp only[Rel]
  refine⟨b,0,us,ei,(Array.getElem?_eq_some_iff.1 hb).1,vY hS h b rfl,hr.sub λk _ hk=>hk.drop,λj u hj=>?_⟩
  simp[World.cell?,hb,hj]
 ·exact h'.env p (List.mem_filter.1 hp).1
end

section
variable {n:Rn} {P:Program} {l:List Oper} {Q:Exit->Act->WP}
theorem Ij {I:(Nat->Bool)->Act->WP} {id:Nat} {draw:Bool} {a:Act} {w:World} (hm:P.follows .mixedOrders=true) (hback:lq l=true)
 (hstep:∀(Q:Exit->Act->WP) (b:Nat->Bool) (a:Act) (w:World) (i:Nat) (o:Oper) (rest:List Oper),l[i]?=some o->b i=false->(∀ j∈cp o,b j=true)->I b a w->(∀ a' w',I (cP b i) a' w'->wpListIn n.F n.d P l.toArray Q rest a' w')->wpListIn n.F n.d P l.toArray Q (o::rest) a w)
 (hend:∀ a w,I (λi=>decide (i<l.length)) a w->Q .normal a w) (h0:I (λ_=>false) a w) (hd:I (λ_=>false) a w.drew):(Code.region id l.toArray draw).wpIn n.F n.d P Q a w:=
 xH (Pn:=λ_ _ _=>False) (λ_ _ _ h=>h.elim) hm hback (λQ _=>hstep Q) hend h0 hd
def under (l:List Oper):Nat->Nat->Nat->Bool
 | 0,_,_=>false
 | f+1,k,i=>match l[k]? with
  | some o=>(cp o).any λj=>j==i||under l f j i
  | none=>false
theorem qX {b:Nat->Bool} (hc:∀ i o,l[i]?=some o->b i=true->∀ j∈cp o,b j=true):∀(f k i:Nat) (o:Oper),l[k]?=some o->(∀ j∈cp o,b j=true)->under l f k i=true->b i=true
 | 0,_,_,_,_,_,h=>by simp[under]at h
 | f+1,k,i,o,hk,hd,h=>by
  simp only[under,hk,List.any_eq_true,Bool.or_eq_true,beq_iff_eq]at h
  obtain⟨j,hj,Px⟩:=h
  rcases Px with rfl | h
  ·exact hd _ hj
  ·cases hp:l[j]? with
   | none=>cases f<;>simp[under,hp]at h
   | some p=>exact qX hc f j i p hp (hc j p hp (hd j hj)) h
variable {N:Nat} {J:WP} {S:Nat->Prop} {O:List OB} {w0:World} {env:List (Nat×AV)} {am:Nat->AV} {conds:Nat->Bool} {T:Array Value} {γ:Type}
theorem RInv.B8 {S':Nat->Prop} {X X':WP} {b:Nat->Bool} {a:Act} {w w':World} (h:RInv All S S w0 N env X l am conds T b a w) (hu:jP l=true) (hN:jg l N=true) {i:Nat} {o:Oper} (hi:l[i]?=some o) (hd:∀ j∈cp o,b j=true)
 (v:Value) (hk0:Keeps All w0 w') (hm:∀ av v,Rel S w av v->Rel S' w' av v) (Z:X' w') (hc:conds i=true) (hv:Rel S' w' (am i) v):RInv All S' S' w0 N env X' l am conds T (cP b i) (a.put o.dst v) w' where
 defs:=by rw[uB];exact h.defs
 size:=by rw[uC];exact h.size
 keep:=hk0
 x:=Z
 old:=λs hs=>by
  have hne:o.dst≠some s:=λe=>by
   have:=hs i o hi e
   simp[cP]at this
  rw[ju _ _ _ _ hne]
  refine h.old s λm p hm hp=>?_
  have:=hs m p hm hp
  unfold cP at this
  split at this
  ·cases this
  ·exact this
 new:=λm p d hm' hp fw dg=>by
  by_cases e:m=i
  ·subst e
   rw[hi]at hm';cases hm'
   rw[hp,la _ _ _ (by rw[h.size];exact ix hN hi hp)]
   exact hv
  ·have hne:o.dst≠some d:=λe'=>e (kA hu hm' hi hp e')
   rw[ju _ _ _ _ hne]
   simp only[cP,if_neg e]at fw
   exact hm _ _ (h.new m p d hm' hp fw dg)
 skip:=λm p d hm hp fw dg=>by
  by_cases e:m=i
  ·subst e
   rw[hc]at dg;cases dg
  ·have hne:o.dst≠some d:=λe'=>e (kA hu hm hi hp e')
   rw[ju _ _ _ _ hne]
   simp only[cP,if_neg e]at fw
   exact h.skip m p d hm hp fw dg
 closed:=λm p hm fw j hj=>by
  by_cases e:j=i
  ·simp[cP,e]
  ·simp only[cP,if_neg e]
   by_cases e2:m=i
   ·subst e2
    rw[hi]at hm;cases hm
    exact hd j hj
   ·simp only[cP,if_neg e2]at fw
    exact h.closed m p hm fw j hj
 sub:=λ_ h=>h
 env:=λp hp=>⟨(h.env p hp).1,hm _ _ (h.env p hp).2⟩
theorem kt {S:Nat->Prop} {w:World} {v:Value} {b off:Nat} (h:v= .pointer (some ⟨b,off,none⟩)):Rel S w (.at b off) v:=by rw[h];exact Rel.aH _
theorem B9 {w:World} (hk:Keeps All w0 w) (Z:XO J S w0.heap.size O w):dc J S w0 O w O w:=⟨hk,Z,λ_ _ h=>h⟩
theorem rq {o:Oper} {a:Act} {w:World} {x:Operand} {v:Value} (hop:o.op= .assign x∨o.op= .move x) (hv:a.eval x=v) (hk:Keeps All w0 w) (Z:XO J S w0.heap.size O w):Does n P o a w λu w'=>u=v/\dc J S w0 O w O w':=by
 refine en (v:=v) (w':=w) ?_ ⟨rfl,B9 hk Z⟩
 rcases hop with hop | hop<;>simp[execOp,hop,hv]
theorem eM {A B:List OB} {x:OB}:(A++x::B).Perm (x::(A++B)):=List.perm_middle
def CA (n:Rn) (P:Program) (J:WP) (S:Nat->Prop) (w0:World) (env:List (Nat×AV)) (l:List Oper) (am:Nat->AV) (conds:Nat->Bool) (ck:Nat->γ->List OB) (sv:Nat->γ->Value) (ch:List Nat) (k i:Nat):Prop:=
 ∃ o,l[i]?=some o/\o.guard=none/\am i= .any/\conds i=true/\
  ∀ g a w,Keeps All w0 w->XO J S w0.heap.size (ck k g) w->Look (SO S (ck k g)) w env l am conds i a->(∀(k' i':Nat) (o':Oper) (d:Nat),k'<k->ch[k']?=some i'->l[i']?=some o'->o'.dst=some d->a.eval (.tmp d)=sv k' g)->
   Does n P o a w λv w'=>∃ g',ck k g'=ck k g/\(∀ k',k'<k->sv k' g'=sv k' g)/\(o.dst.isSome=true->v=sv k g')/\dc J S w0 (ck k g) w (ck (k+1) g') w'
def mx (p:Nat->Nat->Prop):Nat->List Nat->Prop
 | _,[]=>True
 | k,i::r=>p k i/\mx p (k+1) r
theorem mx.get {p:Nat->Nat->Prop}:∀ {c:List Nat} {k:Nat},mx p k c->∀(i:Nat) (x:Nat),c[i]?=some x->p (k+i) x
 | [],_,_,i,x,h=>by simp at h
 | y::r,k,⟨h1,h2⟩,i,x,h=>by
  cases i with
  | zero=>simp at h;subst h;exact h1
  | succ i=>have:=h2.get i x (by simpa using h);rwa [Nat.add_assoc,Nat.add_comm 1 i]at this
def nC (n:Rn) (P:Program) (J:WP) (S:Nat->Prop) (O:List OB) (w0:World) (env:List (Nat×AV)) (l:List Oper) (am:Nat->AV) (conds:Nat->Bool) (ch:List Nat) (i:Nat) (o:Oper):Prop:=
 ch.contains i=false->∀ O',(∀ p,p∈O->p∈O')->Ob n P All (SO S O') w0 env (XO J S w0.heap.size O') l am conds i o
def D2 (l:List Oper) (i j s:Nat):Bool:=
 (match l[j]? with | some o=>(match o.dst with | some d=>Nat.beq d s | none=>false) | none=>false)&& (match l[i]? with | some o=>(cp o).contains j | none=>false)
theorem Look.D {S:Nat->Prop} {w:World} {env:List (Nat×AV)} {l:List Oper} {am:Nat->AV} {conds:Nat->Bool} {i:Nat} {a:Act} (hl:Look S w env l am conds i a) (j s:Nat) (h:D2 l i j s=true) (hc:conds j=true):Rel S w (am j) (a.eval (.tmp s)):=by
 simp only[D2,Bool.and_eq_true]at h
 cases hj:l[j]? with
 | none=>rw[hj]at h;cases h.1
 | some o=>
  rw[hj]at h
  cases hd:o.dst with
  | none=>simp[hd]at h
  | some d=>
   simp only[hd]at h
   exact hl.dep j s o hj (by rw[hd,Nat.eq_of_beq_eq_true h.1]) h.2 hc
theorem oX {n:Rn} {P:Program} {J:WP} {S:Nat->Prop} {O:List OB} {w0:World} {env:List (Nat×AV)} {l:List Oper} {am:Nat->AV} {conds:Nat->Bool} {ch:List Nat} {i:Nat} {o:Oper} (hg:lO l am conds i o)
 (h:∀ {O':List OB} {a:Act} {w:World},XO J S w0.heap.size O' w->Look (SO S O') w env l am conds i a->Does n P o a w (bG (SO S O') (XO J S w0.heap.size O') (am i) w)):nC n P J S O w0 env l am conds ch i o:=λ_ _ _=>⟨hg,λ_ _ _ Z hl _=>h Z hl⟩
theorem oY {n:Rn} {P:Program} {J:WP} {S:Nat->Prop} {O:List OB} {w0:World} {env:List (Nat×AV)} {l:List Oper} {am:Nat->AV} {conds:Nat->Bool} {ch:List Nat} {i:Nat} {o:Oper} (hg:lO l am conds i o)
 (h:∀ {O':List OB} {a:Act} {w:World},Keeps All w0 w->XO J S w0.heap.size O' w->Look (SO S O') w env l am conds i a->Does n P o a w (bG (SO S O') (XO J S w0.heap.size O') (am i) w)):nC n P J S O w0 env l am conds ch i o:=λ_ _ _=>⟨hg,λ_ _ hk Z hl _=>h hk Z hl⟩
inductive py (env:List (Nat×AV)) (l:List Oper) (am:Nat->AV) (conds:Nat->Bool) (sv:Nat->γ->Value) (ch:List Nat):Nat×(γ->AV)->Prop where
 | old (m s:Nat) (av:AV) (h:env[m]?=some (s,av):=by exact rfl) (hn:(l.all λo=>o.dst !=some s)=true:=by exact rfl):py env l am conds sv ch (s,λ_=>av)
 | new (i s:Nat) (av:AV) (h:(l[i]?).bind (·.dst)=some s:=by exact rfl) (hc:conds i=true:=by exact rfl) (he:am i=av:=by exact rfl):py env l am conds sv ch (s,λ_=>av)
 | d6 (k i s:Nat) (f:γ->Value) (hk:ch[k]?=some i) (h:(l[i]?).bind (·.dst)=some s) (hf:∀ g,sv k g=f g) (ho:∀ g,io (f g)):py env l am conds sv ch (s,λg=>.lit (f g))
def lj (env:List (Nat×AV)) (l:List Oper) (am:Nat->AV) (conds:Nat->Bool) (sv:Nat->γ->Value) (ch:List Nat):List (Nat×(γ->AV))->Prop
 | []=>True
 | p::r=>py env l am conds sv ch p/\lj env l am conds sv ch r
theorem lj.mem {sv:Nat->γ->Value} {ch:List Nat} {env':List (Nat×(γ->AV))} (h:lj env l am conds sv ch env'):∀ p∈env',py env l am conds sv ch p:=by
 induction env' with
 | nil=>intro p hp;cases hp
 | cons q r ih=>
  intro p hp
  rcases mem_cons.1 hp with rfl | hp
  ·exact h.1
  ·exact ih h.2 p hp
structure CG (J:WP) (S:Nat->Prop) (w0:World) (N:Nat) (env:List (Nat×AV)) (l:List Oper) (am:Nat->AV) (conds:Nat->Bool) (T:Array Value) (ck:Nat->γ->List OB) (sv:Nat->γ->Value) (ch:List Nat) (j:Nat) (g:γ) (b:Nat->Bool) (a:Act) (w:World):Prop where
 inv:RInv All (SO S (ck j g)) (SO S (ck j g)) w0 N env (XO J S w0.heap.size (ck j g)) l am conds T b a w
 done:∀(k i:Nat),ch[k]?=some i->b i=decide (k<j)
 le:j<=ch.length
 slot:∀(k i:Nat) (o:Oper) (d:Nat),k<j->ch[k]?=some i->l[i]?=some o->o.dst=some d->a.tmps.getD d undef=sv k g
def DF (l:List Oper) (ch:List Nat):Bool:=(List.range (ch.length-1)).all λk=>under l l.length (ch.getD (k+1) 0) (ch.getD k 0)
def Ca (l:List Oper) (ch:List Nat) (m:Nat):Bool:=match ch[m]? with
 | none=>true
 | some c=>(List.range l.length).all λi=>ch.contains i||under l l.length c i
def qy (ch:List Nat):Bool:=ch.zipIdx.all λx=>ch.zipIdx.all λy=>x.2==y.2||x.1 !=y.1
theorem hsb {γ:Type} {O:List OB} {ck:Nat->γ->List OB} {m:Nat} (h:∀ j' g,j'<=m->∀ p,p∈O->p∈ck j' g:=by intro j' g hj p hp;rcases j' with _ | _ | _ | _ | _ | j'<;>first | exact hp | exact .tail _ hp | exact .tail _ (.tail _ hp) | (exfalso;omega)):
 ∀ j g,j<=m->∀ p,p∈O->p∈ck j g:=h
end
end Go.Proofs.YtdfadihhfppjaaaGreatDoor
