/-
  THE ENGINE: variables of the call's own; elements of rows of the call's own; regions, drawn or not, in which what is owned turns.
-/
import Derived.Test.YtneapgbkkkjagaaGreatDoorQE
import Derived.Laws.CopyRow
namespace Go.Proofs.YtneapgbkkkjagaaGreatDoor
open Go.RowKit
def OB.var (b:Nat) (cs:List CD):OB where
 blk:=fun k=>k=b
 inv:=fun lo S w=>lo≤b∧∃ us e,w.heap[b]?=some (.cells us.toArray e)∧RdL S w cs us
 mv:=fun {_ _ _ _ w w'} h hk hb hs=>by
  obtain⟨h0,us,e,h1,h2⟩:=h
  exact⟨h0,us,e,(hk.block b (Array.getElem?_eq_some_iff.1 h1).1 (hb b rfl)).trans h1,h2.move hk hs⟩
 lt:=fun⟨h0,_,_,h1,_⟩ k hk=>by subst hk;exact⟨h0,(Array.getElem?_eq_some_iff.1 h1).1⟩
abbrev AV.at (b off:Nat):AV:=.lit (.pointer (some ⟨b,off,none⟩))
def Zhh (P:Program) (t:TypeId) (cs:List CD):Prop:=∃ z,(∀ w,(zeroValue t).run P w= .ok z w)∧∀ S w,RdL S w cs z.cells.toList
def Qi (P:Program) (t:TypeId) (k:Nat):Prop:=∀ w,(sizeOf t).run P w= .ok k w
theorem Zcv (b off j:Nat):(⟨b,off,none⟩:Addr).add j=⟨b,off+j,none⟩:=by
 unfold Addr.add
 split
 · rename_i h;subst h;rfl
 · rfl
theorem Zal {P:Program} {w:World} {g o:Nat} {t ty:TypeId} {cur:List Value} {v:Value} {vs:List Value} (hv:v.cells.toList=vs) (hs:Qi P ty vs.length) (hg:w.heap[g]?=some (.cells cur.toArray t)) (hl:o+vs.length≤cur.length) (h1:∀ v∈vs,v.oneCell'=true):
 (Instr.storeAt ty (.pointer (some ⟨g,o,none⟩)) v).run P w= .ok () (w.setRow g (cur.take o++vs++cur.drop (o+vs.length)).toArray):=by
 have:=run_storeCells_at (P:=P) g o t vs 0 cur.toArray w hg (by simpa using hl) h1
 simp only[Nat.add_zero]at this
 have hsz:v.cells.size=vs.length:=by rw[←hv];simp
 simp[Instr.storeAt,Instr.sureAddr,storeVar,Sem.run_bind,hs w,hsz,hv,this]
theorem ZaH {w:World} {g:Nat} {c:Array Value}:Keeps (fun b=>¬ b=g) w (w.setRow g c):=by
 refine⟨rfl,rfl,rfl,by simp[World.setRow],fun k _ hk=>?_⟩
 simp only[World.setRow]
 rw[Array.getElem?_modify,if_neg (fun e=>hk e.symm)]
section
variable {n:Rn} {N:Nat} {P:Program} {J X:World→Prop} {S S':Nat→Prop} {O:List OB} {w0:World} {env:List (Nat×AV)} {Q:Exit→Act→World→Prop}
variable {o:Oper} {a:Act} {w:World} {x y:Operand} {t:TypeId} {b off:Nat} {cs ds:List CD}
theorem RdL.one {cs:List CD} {us:List Value} (h:RdL S w cs us):∀ u∈us,u.oneCell'=true:=(ZjJ h).2
theorem Z4 {ops:Array Oper} {rest:List Oper} {d:Nat} (hz:Zhh P t cs) (hJ:Stab J) (hg:o.guard=none) (hop:o.op= .alloc t) (hd:o.dst=some d) (hN:d<N)
 (next:∀ b a w,So J S w0 N (OB.var b cs::O) ((d,.at b 0)::YR d env) a w→wpListIn n.F n.d P ops Q rest a w):
 ∀ a w,So J S w0 N O env a w→wpListIn n.F n.d P ops Q (o::rest) a w:=by
 refine Zdp (O2:=fun b=>OB.var b cs::O) (av:=fun b=>.at b 0) hg hd hN (fun a w h=>?_) next
 obtain⟨z,hz1,hz2⟩:=hz
 have hk:Keeps All w (w.alloc (.cells z.cells t)):=(Keeps.refl _ _).alloc _
 refine Z8 (v:=.pointer (some ⟨w.heap.size,0,none⟩)) (w':=w.alloc (.cells z.cells t)) ?_ ⟨w.heap.size,Qj hJ h.keep h.x hk (fun b hb=>Nat.le_of_eq hb.symm) ⟨h.keep.size,z.cells.toList,t,by simpa using heap_alloc_new w _,hz2 _ _⟩,Rel.of_lit _⟩
 simp[execOp,hop,Instr.alloc,newVar,newRow,newObj,Sem.run_bind,hz1,Sem.run]
theorem Zbl (hz:Zhh P t cs) (hJ:Stab J) (hop:o.op= .alloc t) (hk0:Keeps All w0 w) (hx:XO J S w0.heap.size O w):
 Yk n P o a w fun v w'=>∃ b:Nat,v= .pointer (some ⟨b,0,none⟩)∧Zbv J S w0 O w (OB.var b cs::O) w':=by
 obtain⟨z,hz1,hz2⟩:=hz
 have hk:Keeps All w (w.alloc (.cells z.cells t)):=(Keeps.refl _ _).alloc _
 refine Z8 (v:=.pointer (some ⟨w.heap.size,0,none⟩)) (w':=w.alloc (.cells z.cells t)) ?_ ⟨w.heap.size,rfl,Qj hJ hk0 hx hk (fun b hb=>Nat.le_of_eq hb.symm) ⟨hk0.size,z.cells.toList,t,by simpa using heap_alloc_new w _,hz2 _ _⟩⟩
 simp[execOp,hop,Instr.alloc,newVar,newRow,newObj,Sem.run_bind,hz1,Sem.run]
theorem Xt {es news:List CD} {us:List Value} (hJ:Stab J) (hJ0:J w0) (hs:Qi P t news.length) (hop:o.op= .store t x y) (hk0:Keeps All w0 w) (hx:XO J S w0.heap.size (OB.var b cs::O) w) (h1:Rel S' w (.at b off) (a.eval x))
 (hv:(a.eval y).cells.toList=us) (hr:RdL (SO S (OB.var b cs::O)) w news us) (hl:off+news.length≤cs.length) (he:cs.take off++news++cs.drop (off+news.length)=es):
 Yk n P o a w fun _ w'=>Zbv J S w0 (OB.var b cs::O) w (OB.var b es::O) w':=by
 subst he
 obtain⟨h0,cur,e,hb,hc⟩:=hx.2.1 (OB.var b cs) (by simp)
 have hlen:=hr.length
 have hclen:=hc.length
 have hrun:=Zal (P:=P) (ty:=t) (o:=off) hv (by rw[hlen];exact hs) hb (by omega) hr.one
 have hlt:b<w.heap.size:=(Array.getElem?_eq_some_iff.1 hb).1
 have hk:Keeps (fun k=>¬ (OB.var b cs).blk k) w (w.setRow b (cur.take off++us++cur.drop (off+us.length)).toArray):=ZaH
 have hsub:∀ k,k<w.heap.size→SO S (OB.var b cs::O) k→(¬ (OB.var b cs).blk k)∧SO S (OB.var b (cs.take off++news++cs.drop (off+news.length))::O) k:=fun k _ hs=>⟨hs.2 (OB.var b cs) (by simp),hs.1,fun p hp=>by
  rcases List.mem_cons.1 hp with rfl | hp
  · exact hs.2 (OB.var b cs) (by simp)
  · exact hs.2 p (List.mem_cons_of_mem _ hp)⟩
 refine ZbS (w':=w.setRow b (cur.take off++us++cur.drop (off+us.length)).toArray) ?_ (Zbb hJ hJ0 hk0 hx hk (fun k hb=>.inl hb) ⟨h0,_,e,setRow_heap w b _ _ e _ hb,?_⟩)
 · rw[execOp,hop]
   simp only[h1.lit,Sem.run_bind,hrun]
   rfl
 · have htd:∀ {S:Nat→Prop} {w:World} {l:List CD} {m:List Value} (k:Nat),RdL S w l m→RdL S w (l.take k) (m.take k)∧RdL S w (l.drop k) (m.drop k):=by
    intro S w l m k h
    refine⟨RdL.of_get (by simp[h.length]) fun i c v h1 h2=>?_,RdL.of_get (by simp[h.length]) fun i c v h1 h2=>?_⟩
    · rw[List.getElem?_take]at h1 h2
      split at h1
      · rename_i hi;rw[if_pos hi]at h2;exact h.get h1 h2
      · cases h1
    · rw[List.getElem?_drop]at h1 h2;exact h.get h1 h2
   have hc':=hc.move hk hsub
   rw[←hlen]at hc' ⊢
   exact((htd off hc').1.append (by rw[←hlen]at hsub;exact hr.move hk hsub)).append (htd (off+us.length) hc').2
theorem Ze4 {v:Value} (h:v.oneCell'=true):v.cells.toList=[v]:=by cases v<;>simp_all[Value.cells,Value.oneCell']
theorem Yc {ops:Array Oper} {rest:List Oper} {es:List CD} {c:CD} (hJ:Stab J) (hJ0:J w0) (hs:Qi P t 1) (hg:o.guard=none) (hd:o.dst=none) (hop:o.op= .store t x y) (hl:off+1≤cs.length) (he:cs.take off++[c]++cs.drop (off+1)=es)
 (h1:∀ a w,So J S w0 N (OB.var b cs::O) env a w→Rel (SO S (OB.var b cs::O)) w (.at b off) (a.eval x)∧Rel (SO S (OB.var b cs::O)) w (.rd c) (a.eval y))
 (next:∀ a w,So J S w0 N (OB.var b es::O) env a w→wpListIn n.F n.d P ops Q rest a w):
 ∀ a w,So J S w0 N (OB.var b cs::O) env a w→wpListIn n.F n.d P ops Q (o::rest) a w:=
 ZfC (O2:=fun _:Unit=>_) hg hd (fun a w h=>by
  obtain⟨g1,g2⟩:=h1 a w h
  simp only[Rel]at g2
  exact ZB (Xt (news:=[c]) hJ hJ0 hs hop h.keep h.x g1 (Ze4 g2.one) ⟨g2,trivial⟩ hl he) fun _ _ hp=>⟨(),hp⟩) fun _=>next
theorem ZD {ops:Array Oper} {rest:List Oper} {es news:List CD} (hJ:Stab J) (hJ0:J w0) (hs:Qi P t news.length) (hg:o.guard=none) (hd:o.dst=none) (hop:o.op= .store t x y) (hl:off+news.length≤cs.length) (he:cs.take off++news++cs.drop (off+news.length)=es)
 (h1:∀ a w,So J S w0 N (OB.var b cs::O) env a w→Rel (SO S (OB.var b cs::O)) w (.at b off) (a.eval x)∧Rel (SO S (OB.var b cs::O)) w (.agg news) (a.eval y))
 (next:∀ a w,So J S w0 N (OB.var b es::O) env a w→wpListIn n.F n.d P ops Q rest a w):
 ∀ a w,So J S w0 N (OB.var b cs::O) env a w→wpListIn n.F n.d P ops Q (o::rest) a w:=
 ZfC (O2:=fun _:Unit=>_) hg hd (fun a w h=>by
  obtain⟨g1,g2⟩:=h1 a w h
  simp only[Rel]at g2
  obtain⟨us,hv,hr⟩:=g2
  exact ZB (Xt (us:=us) hJ hJ0 hs hop h.keep h.x g1 (by rw[hv];rfl) hr hl he) fun _ _ hp=>⟨(),hp⟩) fun _=>next
theorem Zw {s:TypeId} {k d:Nat} (h1:ZV P s k d) (hop:o.op= .fieldAddr s x k) (h:Rel S' w (.at b off) (a.eval x)) (hx:X w):Yk n P o a w (YG S X (.at b (off+d)) w):=by
 refine ZC (v:=.pointer (some ⟨b,off+d,none⟩)) ?_ (Rel.of_lit _) hx
 simp[execOp,hop,h.lit,h1 b off w]
theorem ZA (hop:o.op= .nilCheck x) (h:Rel S' w (.at b off) (a.eval x)) (hx:X w):Yk n P o a w (YG S X (.at b off) w):=by
 refine ZC (v:=a.eval x) ?_ (by rw[h.lit];exact Rel.of_lit _) hx
 simp[execOp,hop,h.lit]
theorem Zz {c:CD} (h1:Q3 P t) (hop:o.op= .load t x) (hi:∃ lo,(OB.var b cs).inv lo S w) (h:Rel S' w (.at b off) (a.eval x)) (hc:cs[off]?=some c) (hx:X w):Yk n P o a w (YG S X (.rd c) w):=by
 obtain⟨lo,h0,us,e,hb,hr⟩:=hi
 have hlt:off<us.length:=by rw[hr.length];exact(List.getElem?_eq_some_iff.1 hc).1
 have hcell:w.cell? ⟨b,off,none⟩=some us[off]:=by simp[World.cell?,hb,hlt]
 refine ZC (v:=us[off]) ?_ (by simp only[Rel];exact hr.get hc (List.getElem?_eq_getElem hlt)) hx
 simp[execOp,hop,h.lit,Instr.loadAt,Instr.sureAddr,loadVar,Sem.run_bind,h1 w,hcell]
theorem YP {k:Nat} (h1:XV P t k) (hop:o.op= .load t x) (hi:∃ lo,(OB.var b cs).inv lo S w) (h:Rel S' w (.at b off) (a.eval x)) (hc:(cs.drop off).take k=ds) (hl:ds.length=k) (hx:X w):Yk n P o a w (YG S X (.agg ds) w):=by
 subst hc
 obtain⟨lo,h0,us,e,hb,hr⟩:=hi
 have hlen:=hr.length
 have hl2:((us.drop off).take k).length=k:=by simp at hl ⊢;omega
 have hrun:=Y5 (P:=P) b off w ((us.drop off).take k) 0 #[] fun j u hj=>by
  have hj':us[off+j]?=some u:=by
   rw[List.getElem?_take]at hj
   split at hj
   · rwa [List.getElem?_drop]at hj
   · cases hj
  simp[World.cell?,hb,hj']
 rw[hl2]at hrun
 refine ZC (v:=.agg ((us.drop off).take k).toArray) ?_ ?_ hx
 · simp[execOp,hop,h.lit,Instr.loadAt,Instr.sureAddr,loadVar,loadCells,Sem.run_bind,h1.1 w,h1.2 w,hrun]
 · simp only[Rel]
   refine⟨_,rfl,RdL.of_get (by simp[hlen]) fun i c v h1 h2=>?_⟩
   rw[List.getElem?_take]at h1 h2
   split at h1
   · rename_i hi;rw[if_pos hi]at h2
     rw[List.getElem?_drop]at h1 h2;exact hr.get h1 h2
   · cases h1
theorem YO {s m:Nat} (hS:∀ b,w0.heap.size≤b→S b) (h:So J S w0 N (OB.var b cs::O) env a w) (he:env[m]?=some (s,.at b 0)):
 So J S w0 N O ((s,.ptr cs)::YR s env) a w:=by
 have h':=ZM h
 refine⟨h.defs,h.size,h.keep,h'.x,fun p hp=>?_⟩
 rcases List.mem_cons.1 hp with rfl | hp
 · refine⟨(h.env _ (List.mem_of_getElem? he)).1,?_⟩
   have hval:a.tmps.getD s undef= .pointer (some ⟨b,0,none⟩):=(h.get m he).lit
   obtain⟨h0,us,e,hb,hr⟩:=h.x.2.1 (OB.var b cs) (by simp)
   simp only[Rel]
   refine⟨b,0,us,hval,(Array.getElem?_eq_some_iff.1 hb).1,ZeX hS h b rfl,hr.sub fun k _ hk=>hk.drop,fun j u hj=>?_⟩
   simp[World.cell?,hb,hj]
 · exact h'.env p (List.mem_filter.1 hp).1
end

section
variable {n:Rn} {P:Program} {l:List Oper} {Q:Exit→Act→World→Prop}
theorem Zgv {I:(Nat→Bool)→Act→World→Prop} {id:Nat} {draw:Bool} {a:Act} {w:World} (hm:P.follows .mixedOrders=true) (hback:Zcj l=true)
 (hstep:∀(Q:Exit→Act→World→Prop) (b:Nat→Bool) (a:Act) (w:World) (i:Nat) (o:Oper) (rest:List Oper),l[i]?=some o→b i=false→(∀ j∈ZY o,b j=true)→I b a w→(∀ a' w',I (Yi b i) a' w'→wpListIn n.F n.d P l.toArray Q rest a' w')→wpListIn n.F n.d P l.toArray Q (o::rest) a w)
 (hend:∀ a w,I (fun i=>decide (i<l.length)) a w→Q .normal a w) (h0:I (fun _=>false) a w) (hd:I (fun _=>false) a w.drew):(Code.region id l.toArray draw).wpIn n.F n.d P Q a w:=by
 have text:∀(r:List Oper) (k:Nat) (a:Act) (w:World),k+r.length=l.length→l.drop k=r→I (fun i=>decide (i<k)) a w→wpListIn n.F n.d P l.toArray Q r a w:=by
  intro r
  induction r with
  | nil=>
   intro k a w hl _ h
   simp only[List.length_nil,Nat.add_zero]at hl
   subst hl
   exact wpListIn_nil (hend _ _ h)
  | cons o r ih=>
   intro k a w hl hr h
   simp only[List.length_cons]at hl
   have hi:l[k]?=some o:=by
    have:(l.drop k)[0]?=some o:=by rw[hr];rfl
    simpa [List.getElem?_drop]using this
   refine hstep Q _ a w k o r hi (by simp) (fun j hj=>by have:=Za6 hback hi hj;simpa using this) h fun a' w' h'=>?_
   refine ih (k+1) a' w' (by omega) ?_ ?_
   · have:l.drop (k+1)=(l.drop k).drop 1:=by rw[List.drop_drop]
     rw[this,hr];rfl
   · have he:(fun i=>decide (i<k+1))=Yi (fun i=>decide (i<k)) k:=by
      funext i
      unfold Yi
      by_cases e:i=k
      · simp[e]
      · rw[if_neg e]
        congr 1
        apply propext
        omega
     rw[he];exact h'
 have fin:∀(d:Array Bool) (a:Act) (w:World),d.size=l.length→I (fun i=>d.getD i false) a w→Region.ready .any l.toArray d=[]→Q .normal a w:=fun d a w hl h hnil=>by
  have hall:=Zb0 hl hback hnil
  have he:(fun i=>d.getD i false)=fun i=>decide (i<l.length):=by
   funext i
   by_cases hi:i<l.length
   · simp[hall i hi,hi]
   · simp only[hi,decide_false]
     rw[Array.getD_eq_getD_getElem?,Array.getElem?_eq_none (by omega)]
     rfl
  rw[he]at h
  exact hend _ _ h
 have any:∀(fuel:Nat) (d:Array Bool) (a:Act) (w:World),d.size=l.length→ZeE d≤fuel→I (fun i=>d.getD i false) a w→wpAnyIn n.F n.d P .any l.toArray Q fuel d a w:=by
  intro fuel
  induction fuel with
  | zero=>
   intro d a w hl hf h
   have hnil:Region.ready .any l.toArray d=[]:=by
    cases hr:Region.ready .any l.toArray d with
    | nil=>rfl
    | cons x xs=>
     have hx:x∈Region.ready .any l.toArray d:=by rw[hr];simp
     have:=QT (mem_ready.1 hx).1
     omega
   exact⟨hnil,fin d a w hl h hnil⟩
  | succ fuel ih=>
   intro d a w hl hf h
   refine⟨fun hnil=>fin d a w hl h hnil,fun i hr=>?_⟩
   obtain⟨h1,o,ho,h2⟩:=mem_ready.1 hr
   have ho':l[i]?=some o:=by simpa using ho
   have hil:i<d.size:=by rw[hl];exact(List.getElem?_eq_some_iff.1 ho').1
   refine Q6 ho (hstep _ _ a w i o [] ho' (by simpa [Array.getD,hil]using h1) (fun j hj=>?_) h fun a' w' h'=>?_)
   · obtain⟨e,he,hb,rfl⟩:=mem_depsOf.1 hj
     exact h2 e he hb
   · refine wpListIn_nil ?_
     refine ih _ a' w' (by simpa using hl) (by have:=QT h1;omega) ?_
     have he:(fun j=>(d.setIfInBounds i true).getD j false)=Yi (fun j=>d.getD j false) i:=by
      funext j
      by_cases hj:j=i
      · subst hj
        simp[Yi,Array.getD,hil]
      · simp only[Yi,if_neg hj,Array.getD_eq_getD_getElem?]
        rw[Array.getElem?_setIfInBounds_ne (fun e=>hj e.symm)]
     rw[he];exact h'
 cases draw with
 | false=>
  refine wpIn_region_lit (text l 0 a w (by simp) rfl ?_)
  have he:(fun i=>decide (i<0))=fun _:Nat=>false:=by funext i;simp
  rw[he];exact h0
 | true=>
  refine wpIn_region_any hm (any _ _ a _ (by simp) ?_ ?_)
  · simp only[ZeE]
    exact Nat.le_trans List.countP_le_length (by simp)
  · have he:(fun i=>(Array.replicate l.toArray.size false).getD i false)=fun _=>false:=by
     funext i
     simp[Array.getD]
    rw[he]
    exact hd
def Zbq (l:List Oper):Nat→Nat→Nat→Bool
 | 0,_,_=>false
 | f+1,k,i=>match l[k]? with
  | some o=>(ZY o).any fun j=>j==i||Zbq l f j i
  | none=>false
theorem Qc {b:Nat→Bool} (hc:∀ i o,l[i]?=some o→b i=true→∀ j∈ZY o,b j=true):∀(f k i:Nat) (o:Oper),l[k]?=some o→(∀ j∈ZY o,b j=true)→Zbq l f k i=true→b i=true
 | 0,_,_,_,_,_,h=>by simp[Zbq]at h
 | f+1,k,i,o,hk,hd,h=>by
  simp only[Zbq,hk,List.any_eq_true,Bool.or_eq_true,beq_iff_eq]at h
  obtain⟨j,hj,hor⟩:=h
  rcases hor with rfl | h
  · exact hd _ hj
  · cases hp:l[j]? with
    | none=>cases f<;>simp[Zbq,hp]at h
    | some p=>exact Qc hc f j i p hp (hc j p hp (hd j hj)) h
variable {N:Nat} {J:World→Prop} {S:Nat→Prop} {O:List OB} {w0:World} {env:List (Nat×AV)} {avs:Nat→AV} {conds:Nat→Bool} {T:Array Value} {γ:Type}
theorem RInv.step3 {S':Nat→Prop} {X X':World→Prop} {b:Nat→Bool} {a:Act} {w w':World} (h:RInv All S S w0 N env X l avs conds T b a w) (hu:Xo l=true) (hN:Zbj l N=true) {i:Nat} {o:Oper} (hi:l[i]?=some o) (hd:∀ j∈ZY o,b j=true)
 (v:Value) (hk0:Keeps All w0 w') (hm:∀ av v,Rel S w av v→Rel S' w' av v) (hx:X' w') (hc:conds i=true) (hv:Rel S' w' (avs i) v):RInv All S' S' w0 N env X' l avs conds T (Yi b i) (a.put o.dst v) w' where
 defs:=by rw[Zae];exact h.defs
 size:=by rw[ZcP];exact h.size
 keep:=hk0
 x:=hx
 old:=fun s hs=>by
  have hne:o.dst≠some s:=fun e=>by
   have:=hs i o hi e
   simp[Yi]at this
  rw[YF _ _ _ _ hne]
  refine h.old s fun m p hm hp=>?_
  have:=hs m p hm hp
  unfold Yi at this
  split at this
  · cases this
  · exact this
 new:=fun m p d hm' hp hbm hcm=>by
  by_cases e:m=i
  · subst e
    rw[hi]at hm';cases hm'
    rw[hp,XS _ _ _ (by rw[h.size];exact Yj hN hi hp)]
    exact hv
  · have hne:o.dst≠some d:=fun e'=>e (Yl hu hm' hi hp e')
    rw[YF _ _ _ _ hne]
    simp only[Yi,if_neg e]at hbm
    exact hm _ _ (h.new m p d hm' hp hbm hcm)
 skip:=fun m p d hm hp hbm hcm=>by
  by_cases e:m=i
  · subst e
    rw[hc]at hcm;cases hcm
  · have hne:o.dst≠some d:=fun e'=>e (Yl hu hm hi hp e')
    rw[YF _ _ _ _ hne]
    simp only[Yi,if_neg e]at hbm
    exact h.skip m p d hm hp hbm hcm
 closed:=fun m p hm hbm j hj=>by
  by_cases e:j=i
  · simp[Yi,e]
  · simp only[Yi,if_neg e]
    by_cases e2:m=i
    · subst e2
      rw[hi]at hm;cases hm
      exact hd j hj
    · simp only[Yi,if_neg e2]at hbm
      exact h.closed m p hm hbm j hj
 sub:=fun _ h=>h
 env:=fun p hp=>⟨(h.env p hp).1,hm _ _ (h.env p hp).2⟩
theorem ZcM {S:Nat→Prop} {w:World} {v:Value} {b off:Nat} (h:v= .pointer (some ⟨b,off,none⟩)):Rel S w (.at b off) v:=by rw[h];exact Rel.of_lit _
theorem Zen {w:World} (hk:Keeps All w0 w) (hx:XO J S w0.heap.size O w):Zbv J S w0 O w O w:=⟨hk,hx,fun _ _ h=>h⟩
theorem Zbk {o:Oper} {a:Act} {w:World} {x:Operand} {v:Value} (hop:o.op= .assign x∨o.op= .move x) (hv:a.eval x=v) (hk:Keeps All w0 w) (hx:XO J S w0.heap.size O w):Yk n P o a w fun u w'=>u=v∧Zbv J S w0 O w O w':=by
 refine Z8 (v:=v) (w':=w) ?_ ⟨rfl,Zen hk hx⟩
 rcases hop with hop | hop<;>simp[execOp,hop,hv]
theorem Zds {A B:List OB} {x:OB}:(A++x::B).Perm (x::(A++B)):=List.perm_middle
def EffOb (n:Rn) (P:Program) (J:World→Prop) (S:Nat→Prop) (w0:World) (env:List (Nat×AV)) (l:List Oper) (avs:Nat→AV) (conds:Nat→Bool) (Stg:Nat→γ→List OB) (sv:Nat→γ→Value) (ch:List Nat) (k i:Nat):Prop:=
 ∃ o,l[i]?=some o∧o.guard=none∧avs i= .any∧conds i=true∧
  ∀ g a w,Keeps All w0 w→XO J S w0.heap.size (Stg k g) w→Look (SO S (Stg k g)) w env l avs conds i a→(∀(k' i':Nat) (o':Oper) (d:Nat),k'<k→ch[k']?=some i'→l[i']?=some o'→o'.dst=some d→a.eval (.tmp d)=sv k' g)→
   Yk n P o a w fun v w'=>∃ g',Stg k g'=Stg k g∧(∀ k',k'<k→sv k' g'=sv k' g)∧(o.dst.isSome=true→v=sv k g')∧Zbv J S w0 (Stg k g) w (Stg (k+1) g') w'
def Effs (p:Nat→Nat→Prop):Nat→List Nat→Prop
 | _,[]=>True
 | k,i::r=>p k i∧Effs p (k+1) r
theorem Effs.get {p:Nat→Nat→Prop}:∀ {c:List Nat} {k:Nat},Effs p k c→∀(i:Nat) (x:Nat),c[i]?=some x→p (k+i) x
 | [],_,_,i,x,h=>by simp at h
 | y::r,k,⟨h1,h2⟩,i,x,h=>by
  cases i with
  | zero=>simp at h;subst h;exact h1
  | succ i=>have:=h2.get i x (by simpa using h);rwa [Nat.add_assoc,Nat.add_comm 1 i]at this
def ObP (n:Rn) (P:Program) (J:World→Prop) (S:Nat→Prop) (O:List OB) (w0:World) (env:List (Nat×AV)) (l:List Oper) (avs:Nat→AV) (conds:Nat→Bool) (ch:List Nat) (i:Nat) (o:Oper):Prop:=
 ch.contains i=false→∀ O',(∀ p,p∈O→p∈O')→Ob n P All (SO S O') w0 env (XO J S w0.heap.size O') l avs conds i o
def depOB (l:List Oper) (i j s:Nat):Bool:=
 (match l[j]? with | some o=>(match o.dst with | some d=>Nat.beq d s | none=>false) | none=>false)&& (match l[i]? with | some o=>(ZY o).contains j | none=>false)
theorem Look.D {S:Nat→Prop} {w:World} {env:List (Nat×AV)} {l:List Oper} {avs:Nat→AV} {conds:Nat→Bool} {i:Nat} {a:Act} (hl:Look S w env l avs conds i a) (j s:Nat) (h:depOB l i j s=true) (hc:conds j=true):Rel S w (avs j) (a.eval (.tmp s)):=by
 simp only[depOB,Bool.and_eq_true]at h
 cases hj:l[j]? with
 | none=>rw[hj]at h;cases h.1
 | some o=>
  rw[hj]at h
  cases hd:o.dst with
  | none=>simp[hd]at h
  | some d=>
   simp only[hd]at h
   exact hl.dep j s o hj (by rw[hd,Nat.eq_of_beq_eq_true h.1]) h.2 hc
theorem oX {n:Rn} {P:Program} {J:World→Prop} {S:Nat→Prop} {O:List OB} {w0:World} {env:List (Nat×AV)} {l:List Oper} {avs:Nat→AV} {conds:Nat→Bool} {ch:List Nat} {i:Nat} {o:Oper} (hg:Zcx l avs conds i o)
 (h:∀ {O':List OB} {a:Act} {w:World},XO J S w0.heap.size O' w→Look (SO S O') w env l avs conds i a→Yk n P o a w (YG (SO S O') (XO J S w0.heap.size O') (avs i) w)):ObP n P J S O w0 env l avs conds ch i o:=fun _ _ _=>⟨hg,fun _ _ _ hx hl _=>h hx hl⟩
theorem oY {n:Rn} {P:Program} {J:World→Prop} {S:Nat→Prop} {O:List OB} {w0:World} {env:List (Nat×AV)} {l:List Oper} {avs:Nat→AV} {conds:Nat→Bool} {ch:List Nat} {i:Nat} {o:Oper} (hg:Zcx l avs conds i o)
 (h:∀ {O':List OB} {a:Act} {w:World},Keeps All w0 w→XO J S w0.heap.size O' w→Look (SO S O') w env l avs conds i a→Yk n P o a w (YG (SO S O') (XO J S w0.heap.size O') (avs i) w)):ObP n P J S O w0 env l avs conds ch i o:=fun _ _ _=>⟨hg,fun _ _ hk hx hl _=>h hk hx hl⟩
inductive ZpT (env:List (Nat×AV)) (l:List Oper) (avs:Nat→AV) (conds:Nat→Bool) (sv:Nat→γ→Value) (ch:List Nat):Nat×(γ→AV)→Prop where
 | old (m s:Nat) (av:AV) (h:env[m]?=some (s,av)) (hn:(l.all fun o=>o.dst !=some s)=true):ZpT env l avs conds sv ch (s,fun _=>av)
 | new (i s:Nat) (av:AV) (h:(l[i]?).bind (·.dst)=some s) (hc:conds i=true) (he:avs i=av):ZpT env l avs conds sv ch (s,fun _=>av)
 | eff (k i s:Nat) (f:γ→Value) (hk:ch[k]?=some i) (h:(l[i]?).bind (·.dst)=some s) (hf:∀ g,sv k g=f g) (ho:∀ g,okLit (f g)):ZpT env l avs conds sv ch (s,fun g=>.lit (f g))
def FromGs (env:List (Nat×AV)) (l:List Oper) (avs:Nat→AV) (conds:Nat→Bool) (sv:Nat→γ→Value) (ch:List Nat):List (Nat×(γ→AV))→Prop
 | []=>True
 | p::r=>ZpT env l avs conds sv ch p∧FromGs env l avs conds sv ch r
theorem FromGs.mem {sv:Nat→γ→Value} {ch:List Nat} {env':List (Nat×(γ→AV))} (h:FromGs env l avs conds sv ch env'):∀ p∈env',ZpT env l avs conds sv ch p:=by
 induction env' with
 | nil=>intro p hp;cases hp
 | cons q r ih=>
  intro p hp
  rcases List.mem_cons.1 hp with rfl | hp
  · exact h.1
  · exact ih h.2 p hp
structure GInv (J:World→Prop) (S:Nat→Prop) (w0:World) (N:Nat) (env:List (Nat×AV)) (l:List Oper) (avs:Nat→AV) (conds:Nat→Bool) (T:Array Value) (Stg:Nat→γ→List OB) (sv:Nat→γ→Value) (ch:List Nat) (j:Nat) (g:γ) (b:Nat→Bool) (a:Act) (w:World):Prop where
 inv:RInv All (SO S (Stg j g)) (SO S (Stg j g)) w0 N env (XO J S w0.heap.size (Stg j g)) l avs conds T b a w
 done:∀(k i:Nat),ch[k]?=some i→b i=decide (k<j)
 le:j≤ch.length
 slot:∀(k i:Nat) (o:Oper) (d:Nat),k<j→ch[k]?=some i→l[i]?=some o→o.dst=some d→a.tmps.getD d undef=sv k g
def Zpa (l:List Oper) (ch:List Nat):Bool:=(List.range (ch.length-1)).all fun k=>Zbq l l.length (ch.getD (k+1) 0) (ch.getD k 0)
def Zj0 (l:List Oper) (ch:List Nat) (m:Nat):Bool:=match ch[m]? with
 | none=>true
 | some c=>(List.range l.length).all fun i=>ch.contains i||Zbq l l.length c i
def Zku (ch:List Nat):Bool:=ch.zipIdx.all fun x=>ch.zipIdx.all fun y=>x.2==y.2||x.1 !=y.1
theorem hsb {γ:Type} {O:List OB} {Stg:Nat→γ→List OB} {m:Nat} (h:∀ j' g,j'≤m→∀ p,p∈O→p∈Stg j' g:=by intro j' g hj p hp;rcases j' with _ | _ | _ | _ | _ | j'<;>first | exact hp | exact List.mem_cons_of_mem _ hp | exact List.mem_cons_of_mem _ (List.mem_cons_of_mem _ hp) | (exfalso;omega)):
 ∀ j g,j≤m→∀ p,p∈O→p∈Stg j g:=h
theorem Y0 {id:Nat} {draw:Bool} {a:Act} {w:World} (avs:Nat→AV) (conds:Nat→Bool) (env':List (Nat×(γ→AV))) (Stg:Nat→γ→List OB) (sv:Nat→γ→Value) (ch:List Nat) (m:Nat) (g0:γ) (h0:∀ g,Stg 0 g=O)
 (h:So J S w0 N O env a w) (hJ:Stab J) (hm:P.follows .mixedOrders=true) (hu:Xo l=true) (hN:Zbj l N=true) (hback:Zcj l=true) (hch:Zpa l ch=true) (htl:Zj0 l ch m=true) (hnd:Zku ch=true)
 (hsub:∀ j g,j≤m→∀ p,p∈O→p∈Stg j g) (ob:Obs (ObP n P J S O w0 env l avs conds ch) 0 l) (eff:Effs (EffOb n P J S w0 env l avs conds Stg sv ch) 0 ch) (hf:FromGs env l avs conds sv ch env')
 (hq:∀ g a w,So J S w0 N (Stg ch.length g) (env'.map fun p=>(p.1,p.2 g)) a w→Q .normal a w):(Code.region id l.toArray draw).wpIn n.F n.d P Q a w:=by
 have start:∀ w',Keeps All w w'→GInv J S w0 N env l avs conds a.tmps Stg sv ch 0 g0 (fun _=>false) a w':=fun w' hk=>
  ⟨by
   rw[h0]
   exact⟨h.defs,h.size,h.keep.trans hk,Yz hJ _ _ hk h.x,fun _ _=>rfl,fun _ _ _ _ _ e _=>(by cases e),fun _ _ _ _ _ e _=>(by cases e),fun _ _ _ e=>(by cases e),fun _ h=>h,fun p hp=>⟨(h.env p hp).1,(h.env p hp).2.on hk⟩⟩,
   fun _ _ _=>by simp,Nat.zero_le _,fun _ _ _ _ hk=>by omega⟩
 have hnodup:∀(k k' i:Nat),ch[k]?=some i→ch[k']?=some i→k=k':=fun k k' i h1 h2=>by
  have g1:=List.all_eq_true.1 hnd (i,k) (by rw[List.mem_zipIdx_iff_getElem?];simpa using h1)
  have g2:=List.all_eq_true.1 g1 (i,k') (by rw[List.mem_zipIdx_iff_getElem?];simpa using h2)
  simpa using g2
 refine Zgv (I:=fun b a' w'=>∃ j g,GInv J S w0 N env l avs conds a.tmps Stg sv ch j g b a' w') hm hback ?_ ?_ ⟨0,g0,start w (Keeps.refl _ _)⟩ ⟨0,g0,start _ (Keeps.refl _ _).drew⟩
 · rintro Q b a1 w1 i o rest hi hb hd ⟨j,g,hg⟩ hK
   by_cases hin:∃ k:Nat,ch[k]?=some i
   · obtain⟨k,hk⟩:=hin
     obtain⟨o',ho',hgd,hav,hc,hob⟩:=eff.get k i hk
     rw[hi]at ho';cases ho'
     simp only[Nat.zero_add]at hob
     have hjk:j=k:=by
      have h1:=hg.done k i hk
      rw[hb]at h1
      have h2:¬ k<j:=by simpa using h1.symm
      rcases Nat.lt_or_ge j k with hlt | hge
      · exfalso
        obtain⟨k1,rfl⟩:∃ k1,k=k1+1:=⟨k-1,by omega⟩
        have hkl:k1+1<ch.length:=(List.getElem?_eq_some_iff.1 hk).1
        have hget:ch[k1]?=some (ch[k1]'(by omega)):=List.getElem?_eq_getElem _
        have h3:=List.all_eq_true.1 hch k1 (by simp;omega)
        simp only[List.getD_eq_getElem?_getD,hk,hget,Option.getD_some]at h3
        have h4:=Qc hg.inv.closed _ i _ o hi hd h3
        rw[hg.done k1 _ hget]at h4
        have:k1<j:=by simpa using h4
        omega
      · omega
     subst hjk
     refine wpListIn_plain hgd fun K' hKr=>?_
     refine hob g a1 w1 hg.inv.keep hg.inv.x (hg.inv.look hi hb hd) (fun k' i' o' d hk' hi' hl' hd'=>hg.slot k' i' o' d hk' hi' hl' hd') K' Q fun u w2 ⟨g',e1,e2,e3,hs⟩=>?_
     have hlt:j<ch.length:=(List.getElem?_eq_some_iff.1 hk).1
     refine hKr _ _ (hK _ _ ⟨j+1,g',hg.inv.step3 hu hN hi hd u hs.1 hs.2.2 hs.2.1 hc (by rw[hav];simp only[Rel]),fun k' i' hk'=>?_,by omega,fun k' i' o' d hk' hi' hl' hd'=>?_⟩)
     · by_cases e:i'=i
       · subst e
         have:=hnodup k' j i' hk' hk
         subst this
         simp[Yi]
       · simp only[Yi,if_neg e]
         rw[hg.done k' i' hk']
         congr 1
         apply propext
         constructor
         · intro h;omega
         · intro h
           have:k'≠j:=fun e'=>by subst e';rw[hk]at hk';cases hk';exact e rfl
           omega
     · by_cases e:k'=j
       · subst e
         rw[hk]at hi';cases hi'
         rw[hi]at hl';cases hl'
         rw[hd',XS _ _ _ (by rw[hg.inv.size];exact Yj hN hi hd')]
         exact e3 (by simp[hd'])
       · have hne:i'≠i:=fun e'=>e (by subst e';exact hnodup k' j i' hi' hk)
         rw[YF _ _ _ _ (fun e'=>hne (Yl hu hl' hi hd' e'))]
         rw[hg.slot k' i' o' d (by omega) hi' hl' hd',e2 k' (by omega)]
   · have hnin:ch.contains i=false:=by
      simp only[List.contains_eq_mem,decide_eq_false_iff_not]
      intro hmem
      obtain⟨k,hk,he⟩:=List.getElem_of_mem hmem
      exact hin ⟨k,by rw[List.getElem?_eq_getElem hk,he]⟩
     have hjm:j≤m:=by
      rcases Nat.lt_or_ge m j with hlt | hge
      · exfalso
        have hml:m<ch.length:=by have:=hg.le;omega
        have hget:ch[m]?=some (ch[m]'hml):=List.getElem?_eq_getElem _
        unfold Zj0 at htl
        rw[hget]at htl
        simp only at htl
        have h1:=List.all_eq_true.1 htl i (by simp;exact(List.getElem?_eq_some_iff.1 hi).1)
        rw[hnin,Bool.false_or]at h1
        have hbm:=hg.done m _ hget
        have hbm':b ch[m]=true:=by rw[hbm];simpa using hlt
        cases hl:l[ch[m]]? with
        | none=>
         have:∀ f,Zbq l f ch[m] i=false:=fun f=>by cases f<;>simp[Zbq,hl]
         rw[this]at h1;cases h1
        | some p=>
         have:=Qc hg.inv.closed _ _ i p hl (hg.inv.closed _ p hl hbm') h1
         rw[hb]at this;cases this
      · exact hge
     have hobi:=ZbK l 0 ob i o hi
     rw[Nat.zero_add]at hobi
     refine hg.inv.does2 hu hN hi hb hd (hobi hnin _ (hsub j g hjm)) fun a' w' h' hsl=>hK _ _ ⟨j,g,h',fun k' i' hk'=>?_,hg.le,fun k' i' o' d hk' hi' hl' hd'=>?_⟩
     · have:i'≠i:=fun e=>hin ⟨k',e▸hk'⟩
       simp only[Yi,if_neg this]
       exact hg.done k' i' hk'
     · have hne:i'≠i:=fun e=>hin ⟨k',e▸hi'⟩
       rw[hsl d (fun e'=>hne (Yl hu hl' hi hd' e'))]
       exact hg.slot k' i' o' d hk' hi' hl' hd'
 · rintro a1 w1 ⟨j,g,hg⟩
   have hj:j=ch.length:=by
    rcases Nat.lt_or_ge j ch.length with hlt | hge
    · exfalso
      have hget:ch[j]?=some (ch[j]'hlt):=List.getElem?_eq_getElem _
      obtain⟨o',ho',_⟩:=eff.get j _ hget
      have hb:=hg.done j _ hget
      have hlt2:ch[j]<l.length:=(List.getElem?_eq_some_iff.1 ho').1
      simp[hlt2]at hb
    · have:=hg.le;omega
   subst hj
   refine hq g a1 w1 ⟨hg.inv.defs,hg.inv.size,hg.inv.keep,hg.inv.x,fun p hp=>?_⟩
   obtain⟨q,hq',rfl⟩:=List.mem_map.1 hp
   cases hf.mem q hq' with
   | old m s av he hn=>
    have h1:=hg.inv.env (s,av) (List.mem_of_getElem? he)
    refine⟨h1.1,?_⟩
    show Rel _ w1 av (a1.tmps.getD s undef)
    rw[hg.inv.old s fun i o hi ho=>by
     have:=List.all_eq_true.1 hn o (List.mem_of_getElem? hi)
     simp[ho]at this]
    exact h1.2
   | new i s av hs hc he=>
    cases hi:l[i]? with
    | none=>rw[hi]at hs;cases hs
    | some o=>
     rw[hi]at hs
     have hs':o.dst=some s:=hs
     have hlt:i<l.length:=(List.getElem?_eq_some_iff.1 hi).1
     refine⟨Yj hN hi hs',?_⟩
     have hr:=hg.inv.new i o s hi hs' (by simpa using hlt) hc
     rw[he]at hr
     exact hr
   | eff k i s f hk hs hf ho=>
    cases hi:l[i]? with
    | none=>rw[hi]at hs;cases hs
    | some o=>
     rw[hi]at hs
     have hs':o.dst=some s:=hs
     refine⟨Yj hN hi hs',?_⟩
     have hr:=hg.slot k i o s (List.getElem?_eq_some_iff.1 hk).1 hk hi hs'
     simp only
     rw[hr,hf]
     exact Rel.of_lit _ (ho g)
end
end Go.Proofs.YtneapgbkkkjagaaGreatDoor
