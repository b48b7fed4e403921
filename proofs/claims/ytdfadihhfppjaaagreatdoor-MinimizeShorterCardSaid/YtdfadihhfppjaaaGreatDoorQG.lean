/-
  THE ENGINE: variables of the call's own; elements of rows of the call's own; regions, drawn or not, in which what is owned turns.
-/
import Derived.Test.YtdfadihhfppjaaaGreatDoorQF
import Derived.Laws.CopyRow
namespace Go.Proofs.YtdfadihhfppjaaaGreatDoor
open Go.RowKit
def OB.var (b:Nat) (cs:List CD):OB where
 blk:=fun k=>k=b
 inv:=fun lo S w=>lo≤b∧∃ us e,w.heap[b]?=some (.cells us.toArray e)∧RdL S w cs us
 mv:=fun {_ _ _ _ w w'} h hk hb hs=>by
  obtain⟨h0,us,e,h1,h2⟩:=h
  exact⟨h0,us,e,(hk.block b (Array.getElem?_eq_some_iff.1 h1).1 (hb b rfl)).trans h1,h2.move hk hs⟩
 lt:=fun⟨h0,_,_,h1,_⟩ k hk=>by subst hk;exact⟨h0,(Array.getElem?_eq_some_iff.1 h1).1⟩
abbrev AV.at (b off:Nat):AV:=.lit (.pointer (some ⟨b,off,none⟩))
def ZdG (P:Program) (t:TypeId) (cs:List CD):Prop:=∃ z,(∀ w,(zeroValue t).run P w= .ok z w)∧∀ S w,RdL S w cs z.cells.toList
def Xf (P:Program) (t:TypeId) (k:Nat):Prop:=∀ w,(sizeOf t).run P w= .ok k w
theorem Zck (b off j:Nat):(⟨b,off,none⟩:Addr).add j=⟨b,off+j,none⟩:=by
 unfold Addr.add
 split
 · rename_i h;subst h;rfl
 · rfl
theorem QY {P:Program} {w:World} {g o:Nat} {t ty:TypeId} {cur:List Value} {v:Value} {vs:List Value} (hv:v.cells.toList=vs) (hs:Xf P ty vs.length) (hg:w.heap[g]?=some (.cells cur.toArray t)) (hl:o+vs.length≤cur.length) (h1:∀ v∈vs,v.oneCell'=true):
 (Instr.storeAt ty (.pointer (some ⟨g,o,none⟩)) v).run P w= .ok () (w.setRow g (cur.take o++vs++cur.drop (o+vs.length)).toArray):=by
 have:=run_storeCells_at (P:=P) g o t vs 0 cur.toArray w hg (by simpa using hl) h1
 simp only[Nat.add_zero]at this
 have hsz:v.cells.size=vs.length:=by rw[←hv];simp
 simp[Instr.storeAt,Instr.sureAddr,storeVar,Sem.run_bind,hs w,hsz,hv,this]
theorem Zat {w:World} {g:Nat} {c:Array Value}:Keeps (fun b=>¬ b=g) w (w.setRow g c):=by
 refine⟨rfl,rfl,rfl,by simp[World.setRow],fun k _ hk=>?_⟩
 simp only[World.setRow]
 rw[Array.getElem?_modify,if_neg (fun e=>hk e.symm)]
section
variable {n:Rn} {N:Nat} {P:Program} {J X:WP} {S S':Nat→Prop} {O:List OB} {w0:World} {env:List (Nat×AV)} {Q:Exit→Act→WP}
variable {o:Oper} {a:Act} {w:World} {x y:Operand} {t:TypeId} {b off:Nat} {cs ds:List CD}
theorem RdL.one {cs:List CD} {us:List Value} (h:RdL S w cs us):∀ u∈us,u.oneCell'=true:=(ZkM h).2
theorem Zv {ops:Array Oper} {rest:List Oper} {d:Nat} (hz:ZdG P t cs) (hJ:Stab J) (hg:o.guard=none) (hop:o.op= .alloc t) (hd:o.dst=some d) (hN:d<N)
 (next:∀ b a w,So J S w0 N (OB.var b cs::O) ((d,.at b 0)::Yn d env) a w→wpListIn n.F n.d P ops Q rest a w):
 ∀ a w,So J S w0 N O env a w→wpListIn n.F n.d P ops Q (o::rest) a w:=by
 refine Zc7 (O2:=fun b=>OB.var b cs::O) (av:=fun b=>.at b 0) hg hd hN (fun a w h=>?_) next
 obtain⟨z,hz1,hz2⟩:=hz
 have hk:Keeps All w (w.alloc (.cells z.cells t)):=(Keeps.refl _ _).alloc _
 refine ZS (v:=.pointer (some ⟨w.heap.size,0,none⟩)) (w':=w.alloc (.cells z.cells t)) ?_ ⟨w.heap.size,X9 hJ h.keep h.x hk (fun b hb=>Nat.le_of_eq hb.symm) ⟨h.keep.size,z.cells.toList,t,by simpa using heap_alloc_new w _,hz2 _ _⟩,Rel.of_lit _⟩
 simp[execOp,hop,Instr.alloc,newVar,newRow,newObj,Sem.run_bind,hz1,Sem.run]
theorem Qs (hz:ZdG P t cs) (hJ:Stab J) (hop:o.op= .alloc t) (hk0:Keeps All w0 w) (hx:XO J S w0.heap.size O w):
 Does n P o a w fun v w'=>∃ b:Nat,v= .pointer (some ⟨b,0,none⟩)∧Zag J S w0 O w (OB.var b cs::O) w':=by
 obtain⟨z,hz1,hz2⟩:=hz
 have hk:Keeps All w (w.alloc (.cells z.cells t)):=(Keeps.refl _ _).alloc _
 refine ZS (v:=.pointer (some ⟨w.heap.size,0,none⟩)) (w':=w.alloc (.cells z.cells t)) ?_ ⟨w.heap.size,rfl,X9 hJ hk0 hx hk (fun b hb=>Nat.le_of_eq hb.symm) ⟨hk0.size,z.cells.toList,t,by simpa using heap_alloc_new w _,hz2 _ _⟩⟩
 simp[execOp,hop,Instr.alloc,newVar,newRow,newObj,Sem.run_bind,hz1,Sem.run]
theorem Xz {es news:List CD} {us:List Value} (hJ:Stab J) (hJ0:J w0) (hs:Xf P t news.length) (hop:o.op= .store t x y) (hk0:Keeps All w0 w) (hx:XO J S w0.heap.size (OB.var b cs::O) w) (h1:Rel S' w (.at b off) (a.eval x))
 (hv:(a.eval y).cells.toList=us) (hr:RdL (SO S (OB.var b cs::O)) w news us) (hl:off+news.length≤cs.length) (he:cs.take off++news++cs.drop (off+news.length)=es):
 Does n P o a w fun _ w'=>Zag J S w0 (OB.var b cs::O) w (OB.var b es::O) w':=by
 subst he
 obtain⟨h0,cur,e,hb,hc⟩:=hx.2.1 (OB.var b cs) yz
 have hlen:=hr.length
 have hclen:=hc.length
 have hrun:=QY (P:=P) (ty:=t) (o:=off) hv (by rw[hlen];exact hs) hb oz hr.one
 have hlt:b<w.heap.size:=(Array.getElem?_eq_some_iff.1 hb).1
 have hk:Keeps (fun k=>¬ (OB.var b cs).blk k) w (w.setRow b (cur.take off++us++cur.drop (off+us.length)).toArray):=Zat
 have hsub:∀ k,k<w.heap.size→SO S (OB.var b cs::O) k→(¬ (OB.var b cs).blk k)∧SO S (OB.var b (cs.take off++news++cs.drop (off+news.length))::O) k:=fun k _ hs=>⟨hs.2 (OB.var b cs) yz,hs.1,fun p hp=>by
  rcases List.mem_cons.1 hp with rfl | hp
  · exact hs.2 (OB.var b cs) yz
  · exact hs.2 p (List.mem_cons_of_mem _ hp)⟩
 refine ZbG (w':=w.setRow b (cur.take off++us++cur.drop (off+us.length)).toArray) ?_ (Zaj hJ hJ0 hk0 hx hk (fun k hb=>.inl hb) ⟨h0,_,e,setRow_heap w b _ _ e _ hb,?_⟩)
 · rw[execOp,hop]
   simp only[h1.lit,Sem.run_bind,hrun]
   rfl
 · have htd:∀ {S:Nat→Prop} {w:World} {l:List CD} {m:List Value} (k:Nat),RdL S w l m→RdL S w (l.take k) (m.take k)∧RdL S w (l.drop k) (m.drop k):=by
    intro S w l m k h
    refine⟨RdL.of_get (by simp[h.length]) fun i c v h1 h2=>?_,RdL.of_get (by simp[h.length]) fun i c v h1 h2=>?_⟩
    · rw[List.getElem?_take]at h1 h2
      split at h1
      · rename_i hi;rw[if_pos hi]at h2;exact h.get h1 h2
      · cases h1
    · rw[List.getElem?_drop]at h1 h2;exact h.get h1 h2
   have hc':=hc.move hk hsub
   rw[←hlen]at hc' ⊢
   exact((htd off hc').1.append (by rw[←hlen]at hsub;exact hr.move hk hsub)).append (htd (off+us.length) hc').2
theorem ZaZ {v:Value} (h:v.oneCell'=true):v.cells.toList=[v]:=by cases v<;>simp_all[Value.cells,Value.oneCell']
theorem Z6 {ops:Array Oper} {rest:List Oper} {es:List CD} {c:CD} (hJ:Stab J) (hJ0:J w0) (hs:Xf P t 1) (hg:o.guard=none) (hd:o.dst=none) (hop:o.op= .store t x y) (hl:off+1≤cs.length) (he:cs.take off++[c]++cs.drop (off+1)=es)
 (h1:∀ a w,So J S w0 N (OB.var b cs::O) env a w→Rel (SO S (OB.var b cs::O)) w (.at b off) (a.eval x)∧Rel (SO S (OB.var b cs::O)) w (.rd c) (a.eval y))
 (next:∀ a w,So J S w0 N (OB.var b es::O) env a w→wpListIn n.F n.d P ops Q rest a w):
 ∀ a w,So J S w0 N (OB.var b cs::O) env a w→wpListIn n.F n.d P ops Q (o::rest) a w:=
 ZfS (O2:=fun _:Unit=>_) hg hd (fun a w h=>by
  obtain⟨g1,g2⟩:=h1 a w h
  simp only[Rel]at g2
  exact Zl (Xz (news:=[c]) hJ hJ0 hs hop h.keep h.x g1 (ZaZ g2.one) ⟨g2,trivial⟩ hl he) fun _ _ hp=>⟨(),hp⟩) fun _=>next
theorem Zn {ops:Array Oper} {rest:List Oper} {es news:List CD} (hJ:Stab J) (hJ0:J w0) (hs:Xf P t news.length) (hg:o.guard=none) (hd:o.dst=none) (hop:o.op= .store t x y) (hl:off+news.length≤cs.length) (he:cs.take off++news++cs.drop (off+news.length)=es)
 (h1:∀ a w,So J S w0 N (OB.var b cs::O) env a w→Rel (SO S (OB.var b cs::O)) w (.at b off) (a.eval x)∧Rel (SO S (OB.var b cs::O)) w (.agg news) (a.eval y))
 (next:∀ a w,So J S w0 N (OB.var b es::O) env a w→wpListIn n.F n.d P ops Q rest a w):
 ∀ a w,So J S w0 N (OB.var b cs::O) env a w→wpListIn n.F n.d P ops Q (o::rest) a w:=
 ZfS (O2:=fun _:Unit=>_) hg hd (fun a w h=>by
  obtain⟨g1,g2⟩:=h1 a w h
  simp only[Rel]at g2
  obtain⟨us,hv,hr⟩:=g2
  exact Zl (Xz (us:=us) hJ hJ0 hs hop h.keep h.x g1 (by rw[hv];rfl) hr hl he) fun _ _ hp=>⟨(),hp⟩) fun _=>next
theorem Zx {s:TypeId} {k d:Nat} (h1:ZW P s k d) (hop:o.op= .fieldAddr s x k) (h:Rel S' w (.at b off) (a.eval x)) (hx:X w):Does n P o a w (YC S X (.at b (off+d)) w):=by
 refine Zr (v:=.pointer (some ⟨b,off+d,none⟩)) ?_ (Rel.of_lit _) hx
 simp[execOp,hop,h.lit,h1 b off w]
theorem Z9 (hop:o.op= .nilCheck x) (h:Rel S' w (.at b off) (a.eval x)) (hx:X w):Does n P o a w (YC S X (.at b off) w):=by
 refine Zr (v:=a.eval x) ?_ (by rw[h.lit];exact Rel.of_lit _) hx
 simp[execOp,hop,h.lit]
theorem Zo {c:CD} (h1:XA P t) (hop:o.op= .load t x) (hi:∃ lo,(OB.var b cs).inv lo S w) (h:Rel S' w (.at b off) (a.eval x)) (hc:cs[off]?=some c) (hx:X w):Does n P o a w (YC S X (.rd c) w):=by
 obtain⟨lo,h0,us,e,hb,hr⟩:=hi
 have hlt:off<us.length:=by rw[hr.length];exact(List.getElem?_eq_some_iff.1 hc).1
 have hcell:w.cell? ⟨b,off,none⟩=some us[off]:=by simp[World.cell?,hb,hlt]
 refine Zr (v:=us[off]) ?_ (by simp only[Rel];exact hr.get hc (List.getElem?_eq_getElem hlt)) hx
 simp[execOp,hop,h.lit,Instr.loadAt,Instr.sureAddr,loadVar,Sem.run_bind,h1 w,hcell]
theorem Yb {k:Nat} (h1:Xl P t k) (hop:o.op= .load t x) (hi:∃ lo,(OB.var b cs).inv lo S w) (h:Rel S' w (.at b off) (a.eval x)) (hc:(cs.drop off).take k=ds) (hl:ds.length=k) (hx:X w):Does n P o a w (YC S X (.agg ds) w):=by
 subst hc
 obtain⟨lo,h0,us,e,hb,hr⟩:=hi
 have hlen:=hr.length
 have hl2:((us.drop off).take k).length=k:=by simp at hl ⊢;omega
 have hrun:=Yr (P:=P) b off w ((us.drop off).take k) 0 #[] fun j u hj=>by
  have hj':us[off+j]?=some u:=by
   rw[List.getElem?_take]at hj
   split at hj
   · rwa [List.getElem?_drop]at hj
   · cases hj
  simp[World.cell?,hb,hj']
 rw[hl2]at hrun
 refine Zr (v:=.agg ((us.drop off).take k).toArray) ?_ ?_ hx
 · simp[execOp,hop,h.lit,Instr.loadAt,Instr.sureAddr,loadVar,loadCells,Sem.run_bind,h1.1 w,h1.2 w,hrun]
 · simp only[Rel]
   refine⟨_,rfl,RdL.of_get (by simp[hlen]) fun i c v h1 h2=>?_⟩
   rw[List.getElem?_take]at h1 h2
   split at h1
   · rename_i hi;rw[if_pos hi]at h2
     rw[List.getElem?_drop]at h1 h2;exact hr.get h1 h2
   · cases h1
theorem ZP {s m:Nat} (hS:∀ b,w0.heap.size≤b→S b) (h:So J S w0 N (OB.var b cs::O) env a w) (he:env[m]?=some (s,.at b 0)):
 So J S w0 N O ((s,.ptr cs)::Yn s env) a w:=by
 have h':=Zz h
 refine⟨h.defs,h.size,h.keep,h'.x,fun p hp=>?_⟩
 rcases List.mem_cons.1 hp with rfl | hp
 · refine⟨(h.env _ (List.mem_of_getElem? he)).1,?_⟩
   have hval:a.tmps.getD s undef= .pointer (some ⟨b,0,none⟩):=(h.get m he).lit
   obtain⟨h0,us,e,hb,hr⟩:=h.x.2.1 (OB.var b cs) yz
   simp only[Rel]
   refine⟨b,0,us,hval,(Array.getElem?_eq_some_iff.1 hb).1,ZcR hS h b rfl,hr.sub fun k _ hk=>hk.drop,fun j u hj=>?_⟩
   simp[World.cell?,hb,hj]
 · exact h'.env p (List.mem_filter.1 hp).1
end

section
variable {n:Rn} {P:Program} {l:List Oper} {Q:Exit→Act→WP}
theorem ZgG {I:(Nat→Bool)→Act→WP} {id:Nat} {draw:Bool} {a:Act} {w:World} (hm:P.follows .mixedOrders=true) (hback:Zbm l=true)
 (hstep:∀(Q:Exit→Act→WP) (b:Nat→Bool) (a:Act) (w:World) (i:Nat) (o:Oper) (rest:List Oper),l[i]?=some o→b i=false→(∀ j∈ZL o,b j=true)→I b a w→(∀ a' w',I (Ye b i) a' w'→wpListIn n.F n.d P l.toArray Q rest a' w')→wpListIn n.F n.d P l.toArray Q (o::rest) a w)
 (hend:∀ a w,I (fun i=>decide (i<l.length)) a w→Q .normal a w) (h0:I (fun _=>false) a w) (hd:I (fun _=>false) a w.drew):(Code.region id l.toArray draw).wpIn n.F n.d P Q a w:=by
 have text:∀(r:List Oper) (k:Nat) (a:Act) (w:World),k+r.length=l.length→l.drop k=r→I (fun i=>decide (i<k)) a w→wpListIn n.F n.d P l.toArray Q r a w:=by
  intro r
  induction r with
  | nil=>
   intro k a w hl _ h
   simp only[List.length_nil,Nat.add_zero]at hl
   subst hl
   exact wpListIn_nil (hend _ _ h)
  | cons o r ih=>
   intro k a w hl hr h
   simp only[List.length_cons]at hl
   have hi:l[k]?=some o:=by
    have:(l.drop k)[0]?=some o:=by rw[hr];rfl
    simpa [List.getElem?_drop]using this
   refine hstep Q _ a w k o r hi yz (fun j hj=>by have:=Za1 hback hi hj;simpa using this) h fun a' w' h'=>?_
   refine ih (k+1) a' w' oz ?_ ?_
   · have:l.drop (k+1)=(l.drop k).drop 1:=by rw[List.drop_drop]
     rw[this,hr];rfl
   · have he:(fun i=>decide (i<k+1))=Ye (fun i=>decide (i<k)) k:=by
      funext i
      unfold Ye
      by_cases e:i=k
      · simp[e]
      · rw[if_neg e]
        congr 1
        apply propext
        omega
     rw[he];exact h'
 have fin:∀(d:Array Bool) (a:Act) (w:World),d.size=l.length→I (fun i=>d.getD i false) a w→Region.ready .any l.toArray d=[]→Q .normal a w:=fun d a w hl h hnil=>by
  have hall:=ZbM hl hback hnil
  have he:(fun i=>d.getD i false)=fun i=>decide (i<l.length):=by
   funext i
   by_cases hi:i<l.length
   · simp[hall i hi,hi]
   · simp only[hi,decide_false]
     rw[Array.getD_eq_getD_getElem?,Array.getElem?_eq_none oz]
     rfl
  rw[he]at h
  exact hend _ _ h
 have any:∀(fuel:Nat) (d:Array Bool) (a:Act) (w:World),d.size=l.length→ZeS d≤fuel→I (fun i=>d.getD i false) a w→wpAnyIn n.F n.d P .any l.toArray Q fuel d a w:=by
  intro fuel
  induction fuel with
  | zero=>
   intro d a w hl hf h
   have hnil:Region.ready .any l.toArray d=[]:=by
    cases hr:Region.ready .any l.toArray d with
    | nil=>rfl
    | cons x xs=>
     have hx:x∈Region.ready .any l.toArray d:=by rw[hr];simp
     have:=Qz (mem_ready.1 hx).1
     omega
   exact⟨hnil,fin d a w hl h hnil⟩
  | succ fuel ih=>
   intro d a w hl hf h
   refine⟨fun hnil=>fin d a w hl h hnil,fun i hr=>?_⟩
   obtain⟨h1,o,ho,h2⟩:=mem_ready.1 hr
   have ho':l[i]?=some o:=by simpa using ho
   have hil:i<d.size:=by rw[hl];exact(List.getElem?_eq_some_iff.1 ho').1
   refine QJ ho (hstep _ _ a w i o [] ho' (by simpa [Array.getD,hil]using h1) (fun j hj=>?_) h fun a' w' h'=>?_)
   · obtain⟨e,he,hb,rfl⟩:=mem_depsOf.1 hj
     exact h2 e he hb
   · refine wpListIn_nil ?_
     refine ih _ a' w' (by simpa using hl) (by have:=Qz h1;omega) ?_
     have he:(fun j=>(d.setIfInBounds i true).getD j false)=Ye (fun j=>d.getD j false) i:=by
      funext j
      by_cases hj:j=i
      · subst hj
        simp[Ye,Array.getD,hil]
      · simp only[Ye,if_neg hj,Array.getD_eq_getD_getElem?]
        rw[Array.getElem?_setIfInBounds_ne (fun e=>hj e.symm)]
     rw[he];exact h'
 cases draw with
 | false=>
  refine wpIn_region_lit (text l 0 a w yz rfl ?_)
  have he:(fun i=>decide (i<0))=fun _:Nat=>false:=by funext i;simp
  rw[he];exact h0
 | true=>
  refine wpIn_region_any hm (any _ _ a _ yz ?_ ?_)
  · simp only[ZeS]
    exact Nat.le_trans List.countP_le_length yz
  · have he:(fun i=>(Array.replicate l.toArray.size false).getD i false)=fun _=>false:=by
     funext i
     simp[Array.getD]
    rw[he]
    exact hd
def ZaH (l:List Oper):Nat→Nat→Nat→Bool
 | 0,_,_=>false
 | f+1,k,i=>match l[k]? with
  | some o=>(ZL o).any fun j=>j==i||ZaH l f j i
  | none=>false
theorem Qm {b:Nat→Bool} (hc:∀ i o,l[i]?=some o→b i=true→∀ j∈ZL o,b j=true):∀(f k i:Nat) (o:Oper),l[k]?=some o→(∀ j∈ZL o,b j=true)→ZaH l f k i=true→b i=true
 | 0,_,_,_,_,_,h=>by simp[ZaH]at h
 | f+1,k,i,o,hk,hd,h=>by
  simp only[ZaH,hk,List.any_eq_true,Bool.or_eq_true,beq_iff_eq]at h
  obtain⟨j,hj,hor⟩:=h
  rcases hor with rfl | h
  · exact hd _ hj
  · cases hp:l[j]? with
    | none=>cases f<;>simp[ZaH,hp]at h
    | some p=>exact Qm hc f j i p hp (hc j p hp (hd j hj)) h
variable {N:Nat} {J:WP} {S:Nat→Prop} {O:List OB} {w0:World} {env:List (Nat×AV)} {avs:Nat→AV} {conds:Nat→Bool} {T:Array Value} {γ:Type}
theorem RInv.step3 {S':Nat→Prop} {X X':WP} {b:Nat→Bool} {a:Act} {w w':World} (h:RInv All S S w0 N env X l avs conds T b a w) (hu:Y4 l=true) (hN:Q9 l N=true) {i:Nat} {o:Oper} (hi:l[i]?=some o) (hd:∀ j∈ZL o,b j=true)
 (v:Value) (hk0:Keeps All w0 w') (hm:∀ av v,Rel S w av v→Rel S' w' av v) (hx:X' w') (hc:conds i=true) (hv:Rel S' w' (avs i) v):RInv All S' S' w0 N env X' l avs conds T (Ye b i) (a.put o.dst v) w' where
 defs:=by rw[ZaN];exact h.defs
 size:=by rw[ZcE];exact h.size
 keep:=hk0
 x:=hx
 old:=fun s hs=>by
  have hne:o.dst≠some s:=fun e=>by
   have:=hs i o hi e
   simp[Ye]at this
  rw[YB _ _ _ _ hne]
  refine h.old s fun m p hm hp=>?_
  have:=hs m p hm hp
  unfold Ye at this
  split at this
  · cases this
  · exact this
 new:=fun m p d hm' hp hbm hcm=>by
  by_cases e:m=i
  · subst e
    rw[hi]at hm';cases hm'
    rw[hp,XM _ _ _ (by rw[h.size];exact Z7 hN hi hp)]
    exact hv
  · have hne:o.dst≠some d:=fun e'=>e (Yg hu hm' hi hp e')
    rw[YB _ _ _ _ hne]
    simp only[Ye,if_neg e]at hbm
    exact hm _ _ (h.new m p d hm' hp hbm hcm)
 skip:=fun m p d hm hp hbm hcm=>by
  by_cases e:m=i
  · subst e
    rw[hc]at hcm;cases hcm
  · have hne:o.dst≠some d:=fun e'=>e (Yg hu hm hi hp e')
    rw[YB _ _ _ _ hne]
    simp only[Ye,if_neg e]at hbm
    exact h.skip m p d hm hp hbm hcm
 closed:=fun m p hm hbm j hj=>by
  by_cases e:j=i
  · simp[Ye,e]
  · simp only[Ye,if_neg e]
    by_cases e2:m=i
    · subst e2
      rw[hi]at hm;cases hm
      exact hd j hj
    · simp only[Ye,if_neg e2]at hbm
      exact h.closed m p hm hbm j hj
 sub:=fun _ h=>h
 env:=fun p hp=>⟨(h.env p hp).1,hm _ _ (h.env p hp).2⟩
theorem ZcA {S:Nat→Prop} {w:World} {v:Value} {b off:Nat} (h:v= .pointer (some ⟨b,off,none⟩)):Rel S w (.at b off) v:=by rw[h];exact Rel.of_lit _
theorem Zeo {w:World} (hk:Keeps All w0 w) (hx:XO J S w0.heap.size O w):Zag J S w0 O w O w:=⟨hk,hx,fun _ _ h=>h⟩
theorem Zd1 {o:Oper} {a:Act} {w:World} {x:Operand} {v:Value} (hop:o.op= .assign x∨o.op= .move x) (hv:a.eval x=v) (hk:Keeps All w0 w) (hx:XO J S w0.heap.size O w):Does n P o a w fun u w'=>u=v∧Zag J S w0 O w O w':=by
 refine ZS (v:=v) (w':=w) ?_ ⟨rfl,Zeo hk hx⟩
 rcases hop with hop | hop<;>simp[execOp,hop,hv]
theorem YX {A B:List OB} {x:OB}:(A++x::B).Perm (x::(A++B)):=List.perm_middle
def EffOb (n:Rn) (P:Program) (J:WP) (S:Nat→Prop) (w0:World) (env:List (Nat×AV)) (l:List Oper) (avs:Nat→AV) (conds:Nat→Bool) (Stg:Nat→γ→List OB) (sv:Nat→γ→Value) (ch:List Nat) (k i:Nat):Prop:=
 ∃ o,l[i]?=some o∧o.guard=none∧avs i= .any∧conds i=true∧
  ∀ g a w,Keeps All w0 w→XO J S w0.heap.size (Stg k g) w→Look (SO S (Stg k g)) w env l avs conds i a→(∀(k' i':Nat) (o':Oper) (d:Nat),k'<k→ch[k']?=some i'→l[i']?=some o'→o'.dst=some d→a.eval (.tmp d)=sv k' g)→
   Does n P o a w fun v w'=>∃ g',Stg k g'=Stg k g∧(∀ k',k'<k→sv k' g'=sv k' g)∧(o.dst.isSome=true→v=sv k g')∧Zag J S w0 (Stg k g) w (Stg (k+1) g') w'
def Effs (p:Nat→Nat→Prop):Nat→List Nat→Prop
 | _,[]=>True
 | k,i::r=>p k i∧Effs p (k+1) r
theorem Effs.get {p:Nat→Nat→Prop}:∀ {c:List Nat} {k:Nat},Effs p k c→∀(i:Nat) (x:Nat),c[i]?=some x→p (k+i) x
 | [],_,_,i,x,h=>by simp at h
 | y::r,k,⟨h1,h2⟩,i,x,h=>by
  cases i with
  | zero=>simp at h;subst h;exact h1
  | succ i=>have:=h2.get i x (by simpa using h);rwa [Nat.add_assoc,Nat.add_comm 1 i]at this
def ObP (n:Rn) (P:Program) (J:WP) (S:Nat→Prop) (O:List OB) (w0:World) (env:List (Nat×AV)) (l:List Oper) (avs:Nat→AV) (conds:Nat→Bool) (ch:List Nat) (i:Nat) (o:Oper):Prop:=
 ch.contains i=false→∀ O',(∀ p,p∈O→p∈O')→Ob n P All (SO S O') w0 env (XO J S w0.heap.size O') l avs conds i o
def depOB (l:List Oper) (i j s:Nat):Bool:=
 (match l[j]? with | some o=>(match o.dst with | some d=>Nat.beq d s | none=>false) | none=>false)&& (match l[i]? with | some o=>(ZL o).contains j | none=>false)
theorem Look.D {S:Nat→Prop} {w:World} {env:List (Nat×AV)} {l:List Oper} {avs:Nat→AV} {conds:Nat→Bool} {i:Nat} {a:Act} (hl:Look S w env l avs conds i a) (j s:Nat) (h:depOB l i j s=true) (hc:conds j=true):Rel S w (avs j) (a.eval (.tmp s)):=by
 simp only[depOB,Bool.and_eq_true]at h
 cases hj:l[j]? with
 | none=>rw[hj]at h;cases h.1
 | some o=>
  rw[hj]at h
  cases hd:o.dst with
  | none=>simp[hd]at h
  | some d=>
   simp only[hd]at h
   exact hl.dep j s o hj (by rw[hd,Nat.eq_of_beq_eq_true h.1]) h.2 hc
theorem oX {n:Rn} {P:Program} {J:WP} {S:Nat→Prop} {O:List OB} {w0:World} {env:List (Nat×AV)} {l:List Oper} {avs:Nat→AV} {conds:Nat→Bool} {ch:List Nat} {i:Nat} {o:Oper} (hg:Zae l avs conds i o)
 (h:∀ {O':List OB} {a:Act} {w:World},XO J S w0.heap.size O' w→Look (SO S O') w env l avs conds i a→Does n P o a w (YC (SO S O') (XO J S w0.heap.size O') (avs i) w)):ObP n P J S O w0 env l avs conds ch i o:=fun _ _ _=>⟨hg,fun _ _ _ hx hl _=>h hx hl⟩
theorem oY {n:Rn} {P:Program} {J:WP} {S:Nat→Prop} {O:List OB} {w0:World} {env:List (Nat×AV)} {l:List Oper} {avs:Nat→AV} {conds:Nat→Bool} {ch:List Nat} {i:Nat} {o:Oper} (hg:Zae l avs conds i o)
 (h:∀ {O':List OB} {a:Act} {w:World},Keeps All w0 w→XO J S w0.heap.size O' w→Look (SO S O') w env l avs conds i a→Does n P o a w (YC (SO S O') (XO J S w0.heap.size O') (avs i) w)):ObP n P J S O w0 env l avs conds ch i o:=fun _ _ _=>⟨hg,fun _ _ hk hx hl _=>h hk hx hl⟩
inductive FromG (env:List (Nat×AV)) (l:List Oper) (avs:Nat→AV) (conds:Nat→Bool) (sv:Nat→γ→Value) (ch:List Nat):Nat×(γ→AV)→Prop where
 | old (m s:Nat) (av:AV) (h:env[m]?=some (s,av):=by exact rfl) (hn:(l.all fun o=>o.dst !=some s)=true:=by exact rfl):FromG env l avs conds sv ch (s,fun _=>av)
 | new (i s:Nat) (av:AV) (h:(l[i]?).bind (·.dst)=some s:=by exact rfl) (hc:conds i=true:=by exact rfl) (he:avs i=av:=by exact rfl):FromG env l avs conds sv ch (s,fun _=>av)
 | eff (k i s:Nat) (f:γ→Value) (hk:ch[k]?=some i) (h:(l[i]?).bind (·.dst)=some s) (hf:∀ g,sv k g=f g) (ho:∀ g,okLit (f g)):FromG env l avs conds sv ch (s,fun g=>.lit (f g))
def FromGs (env:List (Nat×AV)) (l:List Oper) (avs:Nat→AV) (conds:Nat→Bool) (sv:Nat→γ→Value) (ch:List Nat):List (Nat×(γ→AV))→Prop
 | []=>True
 | p::r=>FromG env l avs conds sv ch p∧FromGs env l avs conds sv ch r
theorem FromGs.mem {sv:Nat→γ→Value} {ch:List Nat} {env':List (Nat×(γ→AV))} (h:FromGs env l avs conds sv ch env'):∀ p∈env',FromG env l avs conds sv ch p:=by
 induction env' with
 | nil=>intro p hp;cases hp
 | cons q r ih=>
  intro p hp
  rcases List.mem_cons.1 hp with rfl | hp
  · exact h.1
  · exact ih h.2 p hp
structure GInv (J:WP) (S:Nat→Prop) (w0:World) (N:Nat) (env:List (Nat×AV)) (l:List Oper) (avs:Nat→AV) (conds:Nat→Bool) (T:Array Value) (Stg:Nat→γ→List OB) (sv:Nat→γ→Value) (ch:List Nat) (j:Nat) (g:γ) (b:Nat→Bool) (a:Act) (w:World):Prop where
 inv:RInv All (SO S (Stg j g)) (SO S (Stg j g)) w0 N env (XO J S w0.heap.size (Stg j g)) l avs conds T b a w
 done:∀(k i:Nat),ch[k]?=some i→b i=decide (k<j)
 le:j≤ch.length
 slot:∀(k i:Nat) (o:Oper) (d:Nat),k<j→ch[k]?=some i→l[i]?=some o→o.dst=some d→a.tmps.getD d undef=sv k g
def ZqI (l:List Oper) (ch:List Nat):Bool:=(List.range (ch.length-1)).all fun k=>ZaH l l.length (ch.getD (k+1) 0) (ch.getD k 0)
def Zol (l:List Oper) (ch:List Nat) (m:Nat):Bool:=match ch[m]? with
 | none=>true
 | some c=>(List.range l.length).all fun i=>ch.contains i||ZaH l l.length c i
def ZdA (ch:List Nat):Bool:=ch.zipIdx.all fun x=>ch.zipIdx.all fun y=>x.2==y.2||x.1 !=y.1
theorem hsb {γ:Type} {O:List OB} {Stg:Nat→γ→List OB} {m:Nat} (h:∀ j' g,j'≤m→∀ p,p∈O→p∈Stg j' g:=by intro j' g hj p hp;rcases j' with _ | _ | _ | _ | _ | j'<;>first | exact hp | exact List.mem_cons_of_mem _ hp | exact List.mem_cons_of_mem _ (List.mem_cons_of_mem _ hp) | (exfalso;omega)):
 ∀ j g,j≤m→∀ p,p∈O→p∈Stg j g:=h
end
end Go.Proofs.YtdfadihhfppjaaaGreatDoor
