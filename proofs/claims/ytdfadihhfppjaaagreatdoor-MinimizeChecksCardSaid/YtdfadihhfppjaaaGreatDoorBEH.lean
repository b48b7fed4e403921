/-
  Part of the proof that MinimizeChecks returns true. Conditions: none.
-/
import Derived.Test.YtdfadihhfppjaaaGreatDoorBEG
import Derived.Laws.OwnMore
open List (flatten_cons mem_cons take_take)
namespace Go.Proofs.YtdfadihhfppjaaaGreatDoor
open Go.RowKit
theorem zC {α:Type} {k:Nat}:∀(l:List (List α)) (i:Nat),(∀ r∈l,r.length=k)->l.flatten.take (i*k)=(l.take i).flatten
 | [],i,_=>by simp
 | a::l,0,_=>by simp
 | a::l,i+1,h=>by
  have ha:=h a yz
  simp only[flatten_cons,List.take_succ_cons]
  rw[List.take_append,ha,show(i+1)*k-k=i*k by rw[Nat.add_mul];omega,zC l i λr hr=>h r (by simp[hr]),List.take_of_length_le (by rw[ha,Nat.add_mul];omega)]
theorem oM {α:Type} {k:Nat}:∀(l:List (List α)) (i:Nat),(∀ r∈l,r.length=k)->l.flatten.drop (i*k)=(l.drop i).flatten
 | [],i,_=>by simp
 | a::l,0,_=>by simp
 | a::l,i+1,h=>by
  have ha:=h a yz
  simp only[flatten_cons,List.drop_succ_cons]
  rw[List.drop_append,ha,show(i+1)*k-k=i*k by rw[Nat.add_mul];omega,oM l i λr hr=>h r (by simp[hr]),List.drop_of_length_le (by rw[ha,Nat.add_mul];omega)]
  simp
theorem zB {α:Type} {k:Nat} (l:List (List α)) (i:Nat) (r:List α) (h:∀ r∈l,r.length=k) (hi:i<l.length):(l.set i r).flatten=l.flatten.take (i*k)++r++l.flatten.drop (i*k+k):=by
 rw[zC l i h,show i*k+k=(i+1)*k by rw[Nat.add_mul];omega,oM l (i+1) h,List.set_eq_take_append_cons_drop,if_pos hi]
 simp
theorem I4 {α:Type} (C:List α) (p q:Nat) (us:List α) (h:p+us.length<=q) (hq:q<=C.length):(C.take p++us++C.drop (p+us.length)).take q=(C.take q).take p++us++(C.take q).drop (p+us.length):=by
 rw[take_take,Nat.min_eq_left oz,List.drop_take,List.take_append,List.take_of_length_le (by simp;omega)]
 congr 2
 simp;omega
section
variable {S T:Nat->Prop} {w:World}
theorem bE.take {l:List CD} {m:List Value} (k:Nat) (h:bE S w l m):bE S w (l.take k) (m.take k):=
 bE.kp (by simp[h.length]) λi c v h1 h2=>by
  rw[List.getElem?_take]at h1 h2
  split at h1
  ·rename_i hi;rw[if_pos hi]at h2;exact h.get h1 h2
  ·cases h1
theorem bE.drop {l:List CD} {m:List Value} (k:Nat) (h:bE S w l m):bE S w (l.drop k) (m.drop k):=
 bE.kp (by simp[h.length]) λi c v h1 h2=>by
  rw[List.getElem?_drop]at h1 h2;exact h.get h1 h2
end
def cG (v:Value) (j:Nat):Value:=match v with | .slice (some a) _ _=>.pointer (some ⟨a.block,j,none⟩) | _=>.pointer none
def jN (v:Value) (lo k:Nat):Value:=match v with | .slice ad n cap=>.slice (if cap=lo then ad else ad.map (·.add (lo*k))) (n-lo) (cap-lo) | _=>v
def dB (v:Value) (hi:Nat):Value:=match v with | .slice ad _ cap=>.slice ad hi cap | _=>v
section
variable {n:Rn} {N:Nat} {P:Program} {J X:WP} {S S' gK:Nat->Prop} {O:List OB} {w0:World} {env:List (Nat×AV)} {Q:Exit->Act->WP}
variable {o:Oper} {a:Act} {w:World} {x y:Operand} {t e:TypeId} {v:Value} {k:Nat} {rows:List (List CD)} {i:Int}
theorem qJ {lo:Nat} (h:(OB.row v e k rows).inv lo S w) (h0:0<rows.length):∃ g cap us cur,v= .slice (some ⟨g,0,none⟩) rows.length cap/\lo<=g/\w.heap[g]?=some (.cells cur e)/\rows.length<=cap/\cap<=maxLen/\cur.size=cap*k/\cur.toList.take (rows.length*k)=us/\
 us.length=rows.length*k/\bE S w rows.flatten us/\∀ r∈rows,r.length=k:=by
 obtain⟨us,h1,h2,h3⟩:=h
 rcases h1.2 with⟨_,h4⟩ | ⟨g,cap,cur,hv,hb,hg,er,dg,iP,htake⟩
 ·omega
 ·exact⟨g,cap,us,cur,hv,hb,hg,er,dg,iP,htake,h1.1,h2,h3⟩
theorem eZ (h1:dA P t e k) (hop:o.op= .indexAddr t x y) (hi:∃ lo,(OB.row v e k rows).inv lo S w) (h:Rel S' w (.lit v) (a.eval x)) (hy:Rel gK w (.int i) (a.eval y)) (h0:0<=i) (hl:i< (rows.length:Int)) (Z:X w):
 Does n P o a w (bG S X (.lit (cG v (i.toNat*k))) w):=by
 obtain⟨lo,hi⟩:=hi
 obtain⟨g,cap,us,cur,rfl,_⟩:=qJ hi oz
 refine cN (v:=.pointer (some ⟨g,i.toNat*k,none⟩)) ?_ (Rel.aH _) Z
 simp[execOp,hop,h.lit,hy.lit,Instr.indexAt,asIntOf,Sem.run_bind,run_underlying h1.1,h1.2 w,h0,hl,pH]
theorem BP {lo:Nat} (h:(OB.row v e k rows).inv lo S w) {i:Nat} {r:List CD} (hr:rows[i]?=some r):∃ g cap,v= .slice (some ⟨g,0,none⟩) rows.length cap/\∃ us,bE S w r us/\∀ j u,us[j]?=some u->w.cell? ⟨g,i*k+j,none⟩=some u:=by
 have hlt:i<rows.length:=(List.getElem?_eq_some_iff.1 hr).1
 obtain⟨g,cap,us,cur,hv,m6,hg,er,dg,iP,htake,kE,hrd,hlen⟩:=qJ h oz
 have hge:rows[i]=r:=(List.getElem?_eq_some_iff.1 hr).2
 have Ax:r.length=k:=hlen r (hge▸List.getElem_mem hlt)
 have PD:(rows.flatten.drop (i*k)).take k=r:=by
  rw[oM rows i hlen,List.drop_eq_getElem_cons hlt,hge,flatten_cons,List.take_append_of_le_length oz,List.take_of_length_le oz]
 have h2:=(hrd.drop (i*k)).take k
 rw[PD]at h2
 refine⟨g,cap,hv,_,h2,λj u hj=>?_⟩
 rw[List.getElem?_take]at hj
 split at hj
 ·rw[List.getElem?_drop,<-htake,List.getElem?_take]at hj
  split at hj
  ·simpa [World.cell?,hg]using hj
  ·cases hj
 ·cases hj
theorem nn {c:CD} {i:Nat} (h1:eu P t) (hop:o.op= .load t x) (hi:∃ lo,(OB.row v e 1 rows).inv lo S w) (h:Rel S' w (.lit (cG v (i*1))) (a.eval x)) (hr:rows[i]?=some [c]) (Z:X w):Does n P o a w (bG S X (.rd c) w):=by
 obtain⟨lo,hi⟩:=hi
 obtain⟨g,cap,rfl,us,hrd,hc⟩:=BP hi hr
 match us,hrd with
 | [u],hrd=>
  have h0:=hc 0 u rfl
  refine cN (v:=u) ?_ (by simp only[Rel];exact hrd.1) Z
  have hv:=h.lit
  simp only[cG]at hv
  simp[execOp,hop,hv,Instr.loadAt,Instr.sureAddr,loadVar,Sem.run_bind,h1 w]at h0 ⊢
  simp[h0]
theorem pn {r:List CD} {i:Nat} (h1:fY P t k) (hop:o.op= .load t x) (hi:∃ lo,(OB.row v e k rows).inv lo S w) (h:Rel S' w (.lit (cG v (i*k))) (a.eval x)) (hr:rows[i]?=some r) (hk:r.length=k) (Z:X w):Does n P o a w (bG S X (.agg r) w):=by
 obtain⟨lo,hi⟩:=hi
 obtain⟨g,cap,rfl,us,hrd,hc⟩:=BP hi hr
 have hrun:=mq (P:=P) g (i*k) w us 0 #[] λj u hj=>by rw[Nat.zero_add];exact hc j u hj
 rw[hrd.length,hk]at hrun
 have hv:=h.lit
 simp only[cG]at hv
 refine cN (v:=.agg us.toArray) ?_ (by simp only[Rel];exact⟨_,rfl,hrd⟩) Z
 simp[execOp,hop,hv,Instr.loadAt,Instr.sureAddr,loadVar,loadCells,Sem.run_bind,h1.1 w,h1.2 w,hrun]
theorem vS {news:List CD} {us:List Value} {i:Nat} (V:aR J) (hJ0:J w0) (hs:dV P t k) (hop:o.op= .store t x y) (hk0:Keeps All w0 w) (Z:XO J S w0.heap.size (OB.row v e k rows::O) w) (h1:Rel S' w (.lit (cG v (i*k))) (a.eval x))
 (hv:(a.eval y).cells.toList=us) (hr:bE (SO S (OB.row v e k rows::O)) w news us) (hl:i<rows.length) (hn:news.length=k):
 Does n P o a w λ_ w'=>∃ _:Unit,dc J S w0 (OB.row v e k rows::O) w (OB.row v e k (rows.set i news)::O) w':=by
 obtain⟨g,cap,old,cur,rfl,m6,hg,er,dg,iP,htake,kE,hrd,hlen⟩:=qJ (Z.2.1 (OB.row v e k rows) yz) oz
 have FG:=hr.length
 have qi:i*k+k<=rows.length*k:=by
  have:=Nat.mul_le_mul_right k hl
  rwa [Nat.succ_mul]at this
 have Fz:rows.length*k<=cap*k:=Nat.mul_le_mul_right k er
 have hrun:=BS (P:=P) (ty:=t) (o:=i*k) (cur:=cur.toList) (t:=e) hv (by rw[FG,hn];exact hs) (by simpa using hg) (by simp;omega) hr.one
 have hlt:g<w.heap.size:=(Array.getElem?_eq_some_iff.1 hg).1
 have hk:Keeps (λb=>¬ (OB.row (.slice (some ⟨g,0,none⟩) rows.length cap) e k rows).blk b) w (w.setRow g (cur.toList.take (i*k)++us++cur.toList.drop (i*k+us.length)).toArray):=
  (wY (g:=g)).sub λb _ hb e=>hb (by simp[OB.row,Value.ownBlock,e])
 have hsub:∀ b,b<w.heap.size->SO S (OB.row (.slice (some ⟨g,0,none⟩) rows.length cap) e k rows::O) b->(¬ (OB.row (.slice (some ⟨g,0,none⟩) rows.length cap) e k rows).blk b)/\SO S (OB.row (.slice (some ⟨g,0,none⟩) rows.length cap) e k (rows.set i news)::O) b:=λb _ hs=>⟨hs.2 (OB.row (.slice (some ⟨g,0,none⟩) rows.length cap) e k rows) yz,hs.1,λp hp=>by
  rcases mem_cons.1 hp with rfl | hp
  ·exact hs.2 (OB.row (.slice (some ⟨g,0,none⟩) rows.length cap) e k rows) yz
  ·exact hs.2 p (List.mem_cons_of_mem _ hp)⟩
 refine td (w':=w.setRow g (cur.toList.take (i*k)++us++cur.toList.drop (i*k+us.length)).toArray) ?_ ⟨(),pu V hJ0 hk0 Z hk (λb hb=>.inl hb) ⟨old.take (i*k)++us++old.drop (i*k+k),⟨?_,.inr ⟨g,cap,_,?_,m6,setRow_heap w g _ _ e _ hg,?_,dg,?_,?_⟩⟩,?_,λr hr'=>?_⟩⟩
 ·have hv':=h1.lit
  simp only[cG]at hv'
  rw[execOp,hop]
  simp only[hv',Sem.run_bind,hrun]
  rfl
 ·simp;omega
 ·simp
 ·simpa using er
 ·simp;omega
 ·simp only[List.length_set]
  rw[<-htake]
  have:=I4 cur.toList (i*k) (rows.length*k) us oz (by simp;omega)
  rw[FG,hn]at this ⊢
  exact this
 ·rw[zB rows i news hlen hl]
  exact(((hrd.take (i*k)).move hk hsub).append (hr.move hk hsub)).append ((hrd.drop (i*k+k)).move hk hsub)
 ·rcases List.mem_or_eq_of_mem_set hr' with h | rfl
  ·exact hlen r h
  ·exact hn
theorem qT {ops:Array Oper} {rest:List Oper} {c:CD} {i:Nat} (V:aR J) (hJ0:J w0) (hs:dV P t 1) (hg:o.guard=none) (hd:o.dst=none) (hop:o.op= .store t x y) (hl:i<rows.length)
 (h1:∀ a w,So J S w0 N (OB.row v e 1 rows::O) env a w->Rel (SO S (OB.row v e 1 rows::O)) w (.lit (cG v (i*1))) (a.eval x)/\Rel (SO S (OB.row v e 1 rows::O)) w (.rd c) (a.eval y))
 (next:∀ a w,So J S w0 N (OB.row v e 1 (rows.set i [c])::O) env a w->wpListIn n.F n.d P ops Q rest a w):
 ∀ a w,So J S w0 N (OB.row v e 1 rows::O) env a w->wpListIn n.F n.d P ops Q (o::rest) a w:=
 qU (O2:=λ_:Unit=>_) hg hd (λa w h=>by
  obtain⟨g1,g2⟩:=h1 a w h
  simp only[Rel]at g2
  exact vS V hJ0 hs hop h.keep h.x g1 (rp g2.one) ⟨g2,trivial⟩ hl rfl) λ_=>next
theorem xZ {ops:Array Oper} {rest:List Oper} {news:List CD} {i:Nat} (V:aR J) (hJ0:J w0) (hs:dV P t k) (hg:o.guard=none) (hd:o.dst=none) (hop:o.op= .store t x y) (hl:i<rows.length) (hn:news.length=k)
 (h1:∀ a w,So J S w0 N (OB.row v e k rows::O) env a w->Rel (SO S (OB.row v e k rows::O)) w (.lit (cG v (i*k))) (a.eval x)/\Rel (SO S (OB.row v e k rows::O)) w (.agg news) (a.eval y))
 (next:∀ a w,So J S w0 N (OB.row v e k (rows.set i news)::O) env a w->wpListIn n.F n.d P ops Q rest a w):
 ∀ a w,So J S w0 N (OB.row v e k rows::O) env a w->wpListIn n.F n.d P ops Q (o::rest) a w:=
 qU (O2:=λ_:Unit=>_) hg hd (λa w h=>by
  obtain⟨g1,g2⟩:=h1 a w h
  simp only[Rel]at g2
  obtain⟨us,hv,hr⟩:=g2
  exact vS V hJ0 hs hop h.keep h.x g1 (by rw[hv];rfl) hr hl hn) λ_=>next
theorem iG {α:Type} [Inhabited α] {f:α->List CD} {xs:List α} {k:Nat} (h:k<xs.length):(xs.map f)[k]?=some (f (G xs k)):=by rw[List.getElem?_map,mU h];rfl
theorem cM {S:Nat->Prop} {w:World}:bE S w [] []:=trivial
theorem b6 {S:Nat->Prop} {w:World} {c:CD} {cs:List CD} {u:Value} {us:List Value} (h:Rel S w (.rd c) u) (k:bE S w cs us):bE S w (c::cs) (u::us):=by simp only[Rel]at h;exact⟨h,k⟩
theorem wc {k:Nat} {place:Nat->Option (Nat×Nat)} (hp:∀ j,j<k->place j=some (j,1)):∀(us:List Value) (i:Nat) (cells:Array Value),cells.size=k->i+us.length<=k->(∀ u∈us,u.oneCell'=true)->
 Instr.fill place cells ((us.zipIdx i).map λp=>(p.2,p.1))=some (cells.toList.take i++us++cells.toList.drop (i+us.length)).toArray
 | [],i,cells,_,_,_=>by simp[Instr.fill]
 | u::us,i,cells,hc,hl,h1=>by
  have hcell:u.cells= #[u]:=by have:=h1 u yz;revert this;cases u<;>simp[Value.cells,Value.oneCell']
  simp only[List.length_cons]at hl
  simp only[List.zipIdx_cons,List.map_cons,Instr.fill,hp i oz,hcell]
  rw[if_neg (by simp;omega)]
  have:=wc hp us (i+1) (cells.setIfInBounds i u) (by simpa using hc) oz λv hv=>h1 v (by simp[hv])
  have e:(Array.foldl (λcs (x:Value×Nat)=>cs.setIfInBounds (i+x.snd) x.fst) cells #[u].zipIdx)=cells.setIfInBounds i u:=rfl
  rw[e]
  rw[this]
  have hi:i<cells.toList.length:=by simp;omega
  congr 2
  simp only[Array.toList_setIfInBounds,List.length_cons]
  rw[List.take_set,List.drop_set,if_pos oz,List.take_succ_eq_append_getElem hi,List.set_append_right _ _ (by simp;omega)]
  simp[show i+(us.length+1)=i+1+us.length by omega,Nat.min_eq_left (show i<=cells.size by simpa using Nat.le_of_lt hi)]
def lN (P:Program) (t:TypeId) (k:Nat):Prop:=∃ z:Array Value,z.size=k/\∃ place:Nat->Option (Nat×Nat),(∀ j,j<k->place j=some (j,1))/\∀ parts,P.built t parts=Instr.fill place z parts
theorem gq {P:Program} {n:Rn} {S:Nat->Prop} {X:WP} {o:Oper} {a:Act} {w:World} {t:TypeId} {k:Nat} {parts:Array (Nat×Operand)} {us:List Value} {cs:List CD} (h1:lN P t k) (hop:o.op= .build t parts) (hp:(parts.map λ(i,x)=>(i,a.eval x)).toList=us.zipIdx.map λp=>(p.2,p.1)) (h:bE S w cs us) (hk:us.length=k) (Z:X w):Does n P o a w (bG S X (.agg cs) w):=by
 obtain⟨z,hz,place,qk,hb⟩:=h1
 have hf:=wc qk us 0 z hz oz h.one
 have hrun:=run_build (P:=P) w t (parts.map λ(i,x)=>(i,a.eval x)) us.toArray (by
  rw[hp,hb,hf]
  simp
  omega)
 refine cN (v:=.agg us.toArray) ?_ (by simp only[Rel];exact⟨us,rfl,h⟩) Z
 rw[execOp,hop]
 simp only[Sem.run_bind]
 rw[hrun]
 rfl

theorem xE {lo:Nat} {v2:Operand} (h1:dA P t e k) (hop:o.op= .slice t x (some v2) none none) (hi:∃ l,(OB.row v e k rows).inv l S w) (h:Rel S' w (.lit v) (a.eval x)) (hy:Rel gK w (.int (lo:Int)) (a.eval v2)) (hl:lo<=rows.length) (Z:X w):
 Does n P o a w (bG S X (.lit (jN v lo k)) w):=by
 obtain⟨l,us,hw,_⟩:=hi
 have hv:∃ ad cap,v= .slice ad rows.length cap/\rows.length<=cap:=by
  rcases hw.2 with⟨rfl,h0⟩ | ⟨g,cap,cur,rfl,hb,hg,er,rest⟩
  ·exact⟨none,0,by rw[h0],oz⟩
  ·exact⟨_,_,rfl,er⟩
 obtain⟨ad,cap,rfl,er⟩:=hv
 refine cN (v:=jN (.slice ad rows.length cap) lo k) ?_ (Rel.aH _) Z
 simp[execOp,hop,h.lit,hy.lit,Instr.sliceAt,Instr.slice,Instr.sliceBounds,Instr.sliceBound,asIntOf,Sem.run_bind,run_underlying h1.1,h1.2 w,hl,jN]
theorem qG {m:Nat} {v2:Operand} (h1:dA P t e k) (hop:o.op= .slice t x none (some v2) none) (hi:∃ l,(OB.row (dB v m) e k rows).inv l S w) (hm:rows.length=m) (h:Rel S' w (.lit v) (a.eval x)) (hy:Rel gK w (.int (m:Int)) (a.eval v2)) (Z:X w):
 Does n P o a w (bG S X (.lit (dB v m)) w):=by
 obtain⟨l,us,hw,_⟩:=hi
 have hv:∃ ad n cap,v= .slice ad n cap/\m<=cap:=by
  rcases hw.2 with⟨e1,h0⟩ | ⟨g,cap,cur,e1,hb,hg,er,rest⟩
  ·cases v<;>simp[dB]at e1
   exact⟨_,_,_,rfl,oz⟩
  ·cases v<;>simp[dB]at e1
   exact⟨_,_,_,rfl,oz⟩
 obtain⟨ad,n',cap,rfl,er⟩:=hv
 refine cN (v:=dB (.slice ad n' cap) m) ?_ (Rel.aH _) Z
 simp[execOp,hop,h.lit,hy.lit,Instr.sliceAt,Instr.slice,Instr.sliceBounds,Instr.sliceBound,asIntOf,Sem.run_bind,run_underlying h1.1,h1.2 w,er,dB]
 intro _
 cases ad<;>simp[Addr.add]
def mA (P:Program) (e:TypeId) (k:Nat):Prop:=∃ z:Value,(∀ w,(zeroValue e).run P w= .ok z w)/\z.cells.size=k/\z.cells.all (·.oneCell')=true
theorem LX {lo:Nat} (hz:mA P e k) (h1:P.underlying t=some (.slice e)) (hk0':0<k) (V:aR J) (hJ0:J w0) (hop:o.op= .call { callee:=.builtin .clear,args:= #[x],argTypes:= #[t] }) (hk0:Keeps All w0 w) (Z:XO J S w0.heap.size (OB.row v e k rows::O) w) (h:Rel S' w (.lit (jN v lo k)) (a.eval x)) (hl:lo<=rows.length):
 Does n P o a w λ_ w'=>∃ _:Unit,dc J S w0 (OB.row v e k rows::O) w (OB.row (dB v lo) e k (rows.take lo)::O) w':=by
 obtain⟨z,f9,lD,P5⟩:=hz
 have hi:=Z.2.1 (OB.row v e k rows) yz
 obtain⟨us,hw,hrd,hlen⟩:=hi
 have hlt:(rows.take lo).length=lo:=by rw[List.length_take];omega
 have hlen':∀ r∈rows.take lo,r.length=k:=λr hr=>hlen r (List.mem_of_mem_take hr)
 by_cases h0:lo=rows.length
 ·subst h0
  rw[List.take_length]
  have hv:∃ ad cap,v= .slice ad rows.length cap:=by
   rcases hw.2 with⟨rfl,h0⟩ | ⟨g,cap,cur,rfl,hb,hg,er,rest⟩
   ·exact⟨none,0,by rw[h0]⟩
   ·exact⟨_,_,rfl⟩
  obtain⟨ad,cap,rfl⟩:=hv
  refine en (v:=.tuple #[]) (w':=w) ?_ ⟨(),B9 hk0 Z⟩
  have nX:=h.lit
  simp only[jN,Nat.sub_self]at nX
  simp only[execOp,hop,resolve,invoke,builtin,Sem.run_bind,Sem.run_pure,List.map_toArray,List.map_cons,List.map_nil,nX,Result.andThen_ok]
  cases(if cap=rows.length then ad else ad.map (·.add (rows.length*k)))<;>simp[Builtin.clear_,run_underlying h1]
 ·obtain⟨g,cap,old,cur,rfl,m6,hg,er,dg,iP,htake,kE,hrd,hlen⟩:=qJ (Z.2.1 (OB.row v e k rows) yz) oz
  have qi:lo*k<=rows.length*k:=Nat.mul_le_mul_right k hl
  have Fz:rows.length*k<=cap*k:=Nat.mul_le_mul_right k er
  let zs:=(Builtin.zeroCells z.cells (rows.length-lo)).toList
  have P4:zs.length=(rows.length-lo)*k:=by simp[zs,Builtin.zeroCells,lD]
  have P6:∀ u∈zs,u.oneCell'=true:=λu hu=>by
   simp only[zs,Builtin.zeroCells,Array.toList_map,List.mem_map]at hu
   obtain⟨j,_,rfl⟩:=hu
   have wI:j%z.cells.size<z.cells.size:=Nat.mod_lt _ oz
   rw[getElem!_pos z.cells _ wI]
   exact Array.all_eq_true.1 P5 _ wI
  have XV:lo*k+(rows.length-lo)*k=rows.length*k:=by rw[<-Nat.add_mul];congr 1;omega
  have hrun:=run_storeCells_at (P:=P) g (lo*k) e zs 0 cur w hg (by rw[P4];omega) P6
  simp only[Nat.add_zero]at hrun
  have hk:Keeps (λb=>¬ (OB.row (.slice (some ⟨g,0,none⟩) rows.length cap) e k rows).blk b) w (w.setRow g (cur.toList.take (lo*k)++zs++cur.toList.drop (lo*k+zs.length)).toArray):=
   (wY (g:=g)).sub λb _ hb e=>hb (by simp[OB.row,Value.ownBlock,e])
  have hsub:∀ b,b<w.heap.size->SO S (OB.row (.slice (some ⟨g,0,none⟩) rows.length cap) e k rows::O) b->(¬ (OB.row (.slice (some ⟨g,0,none⟩) rows.length cap) e k rows).blk b)/\SO S (OB.row (dB (.slice (some ⟨g,0,none⟩) rows.length cap) lo) e k (rows.take lo)::O) b:=λb _ hs=>⟨hs.2 (OB.row (.slice (some ⟨g,0,none⟩) rows.length cap) e k rows) yz,hs.1,λp hp=>by
   rcases mem_cons.1 hp with rfl | hp
   ·exact hs.2 (OB.row (.slice (some ⟨g,0,none⟩) rows.length cap) e k rows) yz
   ·exact hs.2 p (List.mem_cons_of_mem _ hp)⟩
  refine en (v:=.tuple #[]) (w':=w.setRow g (cur.toList.take (lo*k)++zs++cur.toList.drop (lo*k+zs.length)).toArray) ?_ ⟨(),pu V hJ0 hk0 Z hk (λb hb=>.inl hb) ⟨old.take (lo*k),⟨?_,.inr ⟨g,cap,_,?_,m6,setRow_heap w g _ _ e _ hg,?_,dg,?_,?_⟩⟩,?_,hlen'⟩⟩
  ·have nX:=h.lit
   simp only[jN,if_neg (show ¬ cap=lo by omega),Option.map_some,pH,Nat.zero_add]at nX
   obtain⟨m,hm⟩:∃ m,rows.length-lo=m+1:=⟨rows.length-lo-1,oz⟩
   simp only[execOp,hop,resolve,invoke,builtin,Sem.run_bind,Sem.run_pure,List.map_toArray,List.map_cons,List.map_nil,nX,Result.andThen_ok]
   simp only[zs,hm]at hrun ⊢
   simp[Builtin.clear_,Sem.run_bind,run_underlying h1,f9 w,hrun]
  ·rw[List.length_take,kE,hlt];omega
  ·simp[dB,hlt]
  ·rw[hlt];omega
  ·simp;omega
  ·rw[hlt,<-htake]
   rw[take_take,List.append_assoc,List.take_append_of_le_length (by simp;omega),take_take]
   congr 1
   omega
  ·rw[<-zC rows lo hlen]
   exact(hrd.take (lo*k)).move hk hsub
theorem B3 {ops:Array Oper} {rest:List Oper} {lo:Nat} (hz:mA P e k) (h1:P.underlying t=some (.slice e)) (hk0':0<k) (V:aR J) (hJ0:J w0) (hg:o.guard=none) (hd:o.dst=none) (hop:o.op= .call { callee:=.builtin .clear,args:= #[x],argTypes:= #[t] }) (hl:lo<=rows.length)
 (h:∀ a w,So J S w0 N (OB.row v e k rows::O) env a w->Rel (SO S (OB.row v e k rows::O)) w (.lit (jN v lo k)) (a.eval x))
 (next:∀ a w,So J S w0 N (OB.row (dB v lo) e k (rows.take lo)::O) env a w->wpListIn n.F n.d P ops Q rest a w):
 ∀ a w,So J S w0 N (OB.row v e k rows::O) env a w->wpListIn n.F n.d P ops Q (o::rest) a w:=
 qU (O2:=λ_:Unit=>_) hg hd (λa w hst=>LX hz h1 hk0' V hJ0 hop hst.keep hst.x (h a w hst) hl) λ_=>next
end
section
variable {n:Rn} {N:Nat} {P:Program} {J X:WP} {S S' gK:Nat->Prop} {O:List OB} {w0:World} {env:List (Nat×AV)} {Q:Exit->Act->WP}
variable {o:Oper} {a:Act} {w:World} {x y:Operand} {t:TypeId} {b:Nat} {cs:List CD}
theorem qQ {ops:Array Oper} {rest:List Oper} {d:Nat} (V:aR J) (hg:o.guard=none) (hop:o.op= .box t x) (hd:o.dst=some d) (hN:d<N) (h1:∀ a w,So J S w0 N O env a w->Rel (SO S O) w (.agg cs) (a.eval x))
 (next:∀ b a w,So J S w0 N (OB.var b cs::O) ((d,.at b 0)::dP d env) a w->wpListIn n.F n.d P ops Q rest a w):
 ∀ a w,So J S w0 N O env a w->wpListIn n.F n.d P ops Q (o::rest) a w:=by
 refine kK (O2:=λb=>OB.var b cs::O) (av:=λb=>.at b 0) hg hd hN (λa w h=>?_) next
 have hv:=h1 a w h
 simp only[Rel]at hv
 obtain⟨us,hv,hr⟩:=hv
 have hk:Keeps All w (w.alloc (.cells us.toArray t)):=(Keeps.refl _ _).alloc _
 have hsub:∀ k,k<w.heap.size->SO S O k->SO S (OB.var w.heap.size cs::O) k:=λk hlt hs=>⟨hs.1,λp hp=>by
  rcases mem_cons.1 hp with rfl | hp
  ·exact λe=>by have:k=w.heap.size:=e;omega
  ·exact hs.2 p hp⟩
 refine en (v:=.pointer (some ⟨w.heap.size,0,none⟩)) (w':=w.alloc (.cells us.toArray t)) ?_ ⟨w.heap.size,lh V h.keep h.x hk (λb hb=>Nat.le_of_eq hb.symm) ⟨h.keep.size,us,t,heap_alloc_new w _,hr.move hk λk hlt hs=>⟨trivial,hsub k hlt hs⟩⟩,Rel.aH _⟩
 simp[execOp,hop,hv,Instr.box,newVar,newRow,newObj,Sem.run,Value.cells]
theorem VD {ops:Array Oper} {rest:List Oper} {d:Nat} {c:CD} (V:aR J) (hg:o.guard=none) (hop:o.op= .box t x) (hd:o.dst=some d) (hN:d<N) (h1:∀ a w,So J S w0 N O env a w->Rel (SO S O) w (.rd c) (a.eval x))
 (next:∀ b a w,So J S w0 N (OB.var b [c]::O) ((d,.at b 0)::dP d env) a w->wpListIn n.F n.d P ops Q rest a w):
 ∀ a w,So J S w0 N O env a w->wpListIn n.F n.d P ops Q (o::rest) a w:=by
 refine kK (O2:=λb=>OB.var b [c]::O) (av:=λb=>.at b 0) hg hd hN (λa w h=>?_) next
 have hv:=h1 a w h
 simp only[Rel]at hv
 have hcell:(a.eval x).cells= #[a.eval x]:=by have:=hv.one;revert this;cases a.eval x<;>simp[Value.cells,Value.oneCell']
 have hk:Keeps All w (w.alloc (.cells [a.eval x].toArray t)):=(Keeps.refl _ _).alloc _
 have hsub:∀ k,k<w.heap.size->SO S O k->SO S (OB.var w.heap.size [c]::O) k:=λk hlt hs=>⟨hs.1,λp hp=>by
  rcases mem_cons.1 hp with rfl | hp
  ·exact λe=>by have:k=w.heap.size:=e;omega
  ·exact hs.2 p hp⟩
 refine en (v:=.pointer (some ⟨w.heap.size,0,none⟩)) (w':=w.alloc (.cells [a.eval x].toArray t)) ?_ ⟨w.heap.size,lh V h.keep h.x hk (λb hb=>Nat.le_of_eq hb.symm) ⟨h.keep.size,[a.eval x],t,heap_alloc_new w _,hv.move hk λk hlt hs=>⟨trivial,hsub k hlt hs⟩,trivial⟩,Rel.aH _⟩
 simp[execOp,hop,Instr.box,newVar,newRow,newObj,Sem.run,hcell]
theorem Vb {fn:Func} {d:Nat} {b:Nat} {us:List Value} {k:Nat} (hr:fn.results= #[.cell d t]) (h1:fY P t k) (hd:a.tmps.getD d undef= .pointer (some ⟨b,0,none⟩)) (hl:us.length=k) (hc:∀ j u,us[j]?=some u->w.cell? ⟨b,0+j,none⟩=some u):
 (results fn a.tmps).run P w= .ok (.agg us.toArray) w:=by
 have hrun:=mq (P:=P) b 0 w us 0 #[] λj u hj=>by rw[Nat.zero_add];exact hc j u hj
 rw[hl]at hrun
 have hd':a.tmps[d]?.getD undef= .pointer (some ⟨b,0,none⟩):=by rw[<-Array.getD_eq_getD_getElem?];exact hd
 simp[results,hr,hd',asAddr,Sem.run_bind,loadVar,loadCells,h1.1 w,h1.2 w,hrun]
theorem j0 {fn:Func} {d m:Nat} {k:Nat} {cs':List CD} (hr:fn.results= #[.cell d t]) (h1:fY P t k) (h:So J S w0 N (OB.var b cs::O) env a w) (he:env[m]?=some (d,.at b 0)) (hl:cs.length=k) (hE:cs=cs'):
 bodyPost P fn (λe w'=>∃ v,e= .returned v/\Rel S w' (.agg cs') v/\Keeps All w0 w'/\J w') .ret a w:=by
 subst hE
 obtain⟨h0,us,e,hb,hrd⟩:=h.x.2.1 (OB.var b cs) yz
 have hd:a.tmps.getD d undef= .pointer (some ⟨b,0,none⟩):=(h.get m he).lit
 exact⟨h.defs,.agg us.toArray,Vb hr h1 hd (by rw[hrd.length,hl]) (λj u hj=>by simp[World.cell?,hb,hj]),_,rfl,by simp only[Rel];exact⟨us,rfl,hrd.sub λ_ _ hk=>hk.1⟩,h.keep,h.x.1⟩
end
end Go.Proofs.YtdfadihhfppjaaaGreatDoor
