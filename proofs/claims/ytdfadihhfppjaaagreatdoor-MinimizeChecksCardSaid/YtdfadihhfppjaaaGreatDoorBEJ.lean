/-
  Part of the proof that MinimizeChecks returns true. Conditions: none.
-/
import Derived.Test.YtdfadihhfppjaaaGreatDoorBEI
import Derived.Maps.RangeRun
namespace Go.Proofs.YtdfadihhfppjaaaGreatDoor
open List (all_eq_true length_map mem_cons mem_cons_of_mem mem_map nodup_cons)
section
open Go.RowKit Go.ChangeMaps
section
variable {κ:Type} [DecidableEq κ] {α:Type}
def OB.iter (b:Nat) (Kd:iu κ) (f:α->AV) (M:Nat) (L:List (κ×α)) (vis:List κ):OB where
 blk:=λk=>k=b∨k=M
 inv:=λlo S w=>lo<=b/\lo<=M/\b<w.heap.size/\∃ Lv,gy S w f L Lv/\(L.map (·.1)).Nodup/\∃(es:Array MapEntry) (clock:Nat) (seen:Array Nat) (since c0:Nat) (vs:List MapEntry),
  w.heap[M]?=some (.map es clock)/\w.heap[b]?=some (.mapIter (some M) since seen c0)/\gx Kd es.toList Lv/\(es.toList.map (·.born)).Pairwise (· < ·)/\(∀ e∈es.toList,e.born<clock)/\since=clock/\c0=clock/\
  seen.toList=vs.map (·.born)/\vs.map (·.key)=vis.map Kd.kv/\(∀ e∈vs,e∈es.toList)
 mv:=λ{_ _ _ _ w w'} h hk hb hs=>by
  obtain⟨h0,h1,h2,Lv,h3,h4,es,clock,seen,since,c0,vs,h5,h6,h7⟩:=h
  have hM:=(Array.getElem?_eq_some_iff.1 h5).1
  exact⟨h0,h1,Nat.lt_of_lt_of_le h2 hk.size,Lv,h3.move hk hs,h4,es,clock,seen,since,c0,vs,(hk.block M hM (hb M (.inr rfl))).trans h5,(hk.block b h2 (hb b (.inl rfl))).trans h6,h7⟩
 lt:=λ{_ _ w} h k hk=>by
  obtain⟨h0,h1,h2,Lv,h3,h4,es,clock,seen,since,c0,vs,h5,_⟩:=h
  rcases hk with rfl | rfl
  ·exact⟨h0,h2⟩
  ·exact⟨h1,(Array.getElem?_eq_some_iff.1 h5).1⟩
omit [DecidableEq κ]in
theorem uG {S:Nat->Prop} {w:World} {f:α->AV}:∀ {L:List (κ×α)} {Lv:List (κ×Value)},gy S w f L Lv->Lv.map (·.1)=L.map (·.1)
 | [],[],_=>rfl
 | _::_,_::_,h=>by simp only[List.map_cons,h.1,uG h.2.2]
 | [],_::_,h=>h.elim
 | _::_,[],h=>h.elim
theorem AM (Kd:iu κ) {a b:κ} (h:Kd.kv a=Kd.kv b):a=b:=by
 have h1:=Kd.same a b
 rw[h,Kd.same b b]at h1
 simpa using h1
theorem zv {Kd:iu κ} {S:Nat->Prop} {w:World} {f:α->AV}:∀ {es:List MapEntry} {L:List (κ×α)} {Lv:List (κ×Value)},gx Kd es Lv->gy S w f L Lv->(L.map (·.1)).Nodup->∀ e∈es,∃ k x,e.key=Kd.kv k/\aw L k=some x/\Rel S w (f x) e.val
 | [],_,_,_,_,_,e,he=>by cases he
 | e0::es,p::L,q::Lv,h,hr,hn,e,he=>by
  simp only[gx,List.map_cons,List.cons.injEq,Prod.mk.injEq]at h
  obtain⟨⟨h1,h2⟩,h3⟩:=h
  rcases mem_cons.1 he with rfl | he
  ·exact⟨p.1,p.2,by rw[h1,hr.1],by rw[mg,if_pos rfl],by rw[h2];exact hr.2.1⟩
  ·obtain⟨k,x,g1,g2,g3⟩:=zv h3 hr.2.2 (nodup_cons.1 hn).2 e he
   refine⟨k,x,g1,?_,g3⟩
   rw[mg,if_neg]
   ·exact g2
   ·intro e'
    have:=lH L k
    rw[g2]at this
    have hk:k∈L.map (·.1):=by simpa using this.symm
    rw[e']at hk
    exact(nodup_cons.1 hn).1 hk
 | _::_,[],[],h,_,_,_,_=>by simp[gx]at h
 | _::_,_::_,[],_,hr,_,_,_=>hr.elim
 | _::_,[],_::_,_,hr,_,_,_=>hr.elim
theorem Bc {β γ:Type} {g:β->γ}:∀ {l:List β},(l.map g).Nodup->∀ {a b:β},a∈l->b∈l->g a=g b->a=b
 | x::l,h,a,b,ha,hb,e=>by
  rw[List.map_cons,nodup_cons]at h
  rcases mem_cons.1 ha with ha' | ha'
  ·rcases mem_cons.1 hb with hb' | hb'
   ·rw[ha',hb']
   ·exact absurd (show g x∈l.map g from mem_map.2 ⟨b,hb',by rw[<-e,ha']⟩) h.1
  ·rcases mem_cons.1 hb with hb' | hb'
   ·exact absurd (show g x∈l.map g from mem_map.2 ⟨a,ha',by rw[e,hb']⟩) h.1
   ·exact Bc h.2 ha' hb' e
theorem D7 {Kd:iu κ} {es:List MapEntry} {Lv:List (κ×Value)} (h:gx Kd es Lv):es.map (·.key)=(Lv.map (·.1)).map Kd.kv:=by
 have:=congrArg (List.map Prod.fst) h
 simpa [List.map_map,Function.comp_def]using this
end
section
variable {n:Rn} {N:Nat} {P:Program} {J X:WP} {S S' gK:Nat->Prop} {O:List OB} {w0:World} {env:List (Nat×AV)} {Q:Exit->Act->WP}
variable {κ:Type} [DecidableEq κ] {α:Type} {Kd:iu κ} {f:α->AV} {M b:Nat} {L:List (κ×α)} {vis:List κ}
variable {o:Oper} {a:Act} {w:World} {x y:Operand} {t K E:TypeId}
theorem Qk {r:Nat} {ob:Obj}:Keeps (λk=>¬ k=r) w (setBlock w r ob):=
 (Keeps.refl _ _).putObj (λ_ h=>h rfl) _
theorem IU {ops:Array Oper} {rest:List Oper} {d:Nat} (hT:P.underlying t=some (.map K E)) (V:aR J) (hJ0:J w0) (hg:o.guard=none) (hop:o.op= .range t x) (hd:o.dst=some d) (hN:d<N)
 (h1:∀ a w,So J S w0 N (OB.map Kd f M L::O) env a w->Rel (SO S (OB.map Kd f M L::O)) w (.lit (.map (some M))) (a.eval x))
 (next:∀ b a w,So J S w0 N (OB.iter b Kd f M L []::O) ((d,.at b 0)::dP d env) a w->wpListIn n.F n.d P ops Q rest a w):
 ∀ a w,So J S w0 N (OB.map Kd f M L::O) env a w->wpListIn n.F n.d P ops Q (o::rest) a w:=by
 refine kK (O2:=λb=>OB.iter b Kd f M L []::O) (av:=λb=>.at b 0) hg hd hN (λa w h=>?_) next
 obtain⟨h0,Lv,⟨es,clock,hm,mX,d8,jY,dl⟩,hr⟩:=h.x.2.1 (OB.map Kd f M L) yz
 have hlt:M<w.heap.size:=(Array.getElem?_eq_some_iff.1 hm).1
 have hk:Keeps All w (w.alloc (.mapIter (some M) clock #[] clock)):=(Keeps.refl _ _).alloc _
 have hsub:∀ k,k<w.heap.size->SO S (OB.map Kd f M L::O) k->(¬ (OB.map Kd f M L).blk k)/\SO S (OB.iter w.heap.size Kd f M L []::O) k:=λk hlt hs=>⟨hs.2 (OB.map Kd f M L) yz,hs.1,λp hp=>by
  rcases mem_cons.1 hp with rfl | hp
  ·rintro(e | e)
   ·omega
   ·exact hs.2 (OB.map Kd f M L) yz e
  ·exact hs.2 p (mem_cons_of_mem _ hp)⟩
 refine en (v:=.pointer (some ⟨w.heap.size,0,none⟩)) (w':=w.alloc (.mapIter (some M) clock #[] clock)) ?_ ⟨w.heap.size,pu V hJ0 h.keep h.x (hk.sub λ_ _ _=>trivial) (λk hb=>?_) ⟨h.keep.size,h0,by simp,Lv,hr.move (hk.sub λ_ _ _=>trivial) hsub,by rw[<-uG hr];exact d8,es,clock, #[],clock,clock,[],by rw[heap_alloc_old w _ hlt];exact hm,heap_alloc_new w _,mX,jY,dl,rfl,rfl,rfl,rfl,λe he=>by cases he⟩,Rel.aH _⟩
 ·have hg:(getObj M).run P w= .ok (.map es clock) w:=by simp[getObj,Sem.run,hm]
  simp[execOp,hop,(h1 a w h).lit,Instr.range,Sem.run_bind,run_underlying hT,hg,newObj,Sem.run]
 ·rcases hb with e | e
  ·exact .inr (Nat.le_of_eq e.symm)
  ·exact .inl e
abbrev AV.GE (Kd:iu κ) (g:Bool×κ):AV:=.bF (.bool g.1::(if g.1 then [.lit (Kd.kv g.2),.any]else []))
theorem IQ [Inhabited κ] {ops:Array Oper} {rest:List Oper} {d:Nat} (bw:∀ k∈L.map (·.1),io (Kd.kv k)) (V:aR J) (hJ0:J w0) (hg:o.guard=none) (hop:o.op= .next x false) (hd:o.dst=some d) (hN:d<N)
 (h1:∀ a w,So J S w0 N (OB.iter b Kd f M L vis::O) env a w->Rel (SO S (OB.iter b Kd f M L vis::O)) w (.at b 0) (a.eval x))
 (next:∀ g:Bool×κ,(g.1=false->∀ k,(aw L k).isSome=true->k∈vis)->(g.1=true->g.2∉vis/\(aw L g.2).isSome=true)->∀ a w,So J S w0 N (OB.iter b Kd f M L (if g.1 then vis++[g.2]else vis)::O) ((d,.GE Kd g)::dP d env) a w->wpListIn n.F n.d P ops Q rest a w):
 ∀ a w,So J S w0 N (OB.iter b Kd f M L vis::O) env a w->wpListIn n.F n.d P ops Q (o::rest) a w:=by
 refine kK (ι:= { g:Bool×κ // (g.1=false->∀ k,(aw L k).isSome=true->k∈vis)/\(g.1=true->g.2∉vis/\(aw L g.2).isSome=true) }) (O2:=λg=>OB.iter b Kd f M L (if g.1.1 then vis++[g.1.2]else vis)::O) (av:=λg=>.GE Kd g.1) hg hd hN (λa w h=>?_) λg=>next g.1 g.2.1 g.2.2
 obtain⟨h0,h2,h3,Lv,hr,d8,es,clock,seen,since,c0,vs,hm,hb,mX,jY,dl,f8,hc1,oZ,hvk,tX⟩:=h.x.2.1 (OB.iter b Kd f M L vis) yz
 subst f8
 subst hc1
 have Ae:(es.toList.map (·.born)).Nodup:=by
  rw[List.nodup_iff_pairwise_ne]
  exact jY.imp λh=>Nat.ne_of_lt h
 have Ph:(es.toList.map (·.key)).Nodup:=by
  rw[D7 mX,uG hr]
  rw[List.nodup_iff_pairwise_ne,List.pairwise_map]
  rw[List.nodup_iff_pairwise_ne]at d8
  exact d8.imp λh e=>h (AM Kd e)
 have Z:=(h1 a w h).lit
 rcases run_next_at (P:=P) w o.type b M c0 c0 seen es c0 hb hm dl aV with⟨hz,hrun⟩ | ⟨e,he,w1,tY,hrun⟩
 ·refine en (v:=.tuple #[.bool false]) (w':=w) ?_ ⟨⟨(false,default),λ_ k hk=>?_,(λh=>by cases h)⟩,?_,?_⟩
  ·simp[execOp,hop,Z,hrun]
  ·have k6:k∈L.map (·.1):=by rw[lH]at hk;simpa using hk
   have tQ:Kd.kv k∈es.toList.map (·.key):=by rw[D7 mX,uG hr];exact mem_map.2 ⟨k,k6,rfl⟩
   obtain⟨e,he,oR⟩:=mem_map.1 tQ
   have rQ:e∉ (leftOf es seen).toList:=by
    rw[List.eq_nil_of_length_eq_zero (l:=(leftOf es seen).toList) (by simpa using hz)];simp
   have wQ:e.born∈seen.toList:=by
    simp only[leftOf,Array.toList_filter,List.mem_filter,not_and,Bool.not_eq_true',Bool.not_eq_false]at rQ
    have:=rQ he
    simpa using this
   rw[oZ]at wQ
   obtain⟨e',he',ON⟩:=mem_map.1 wQ
   have:e'=e:=Bc Ae (tX e' he') he ON
   subst this
   have hkm:Kd.kv k∈vis.map Kd.kv:=by rw[<-hvk,<-oR];exact mem_map.2 ⟨e',he',rfl⟩
   obtain⟨k',hk',e2⟩:=mem_map.1 hkm
   rw[<-AM Kd e2];exact hk'
  ·exact B9 h.keep h.x
  ·simp only[Rel,bi,Bool.false_eq_true,if_false]
   exact⟨[.bool false],rfl,_,_,rfl,.lit _ True.intro,rfl⟩
 ·have wF:e∈es.toList/\¬ e.born∈seen.toList:=by
   simp only[leftOf,Array.toList_filter,List.mem_filter,Bool.not_eq_true']at he
   exact⟨he.1,by simpa using he.2⟩
  obtain⟨k,xv,oR,wL,qm⟩:=zv mX hr d8 e wF.1
  have Pg:Keeps All w w1:=by rcases tY with rfl | rfl;exact Keeps.refl _ _;exact(Keeps.refl _ _).drew
  have hk:Keeps (λj=>¬ (OB.iter b Kd f M L vis).blk j) w (setBlock w1 b (.mapIter (some M) c0 (seen.push e.born) c0)):=
   (Pg.sub λ_ _ _=>trivial).trans (Qk.sub λj _ hj e=>hj (.inl e))
  have hsub:∀ j,j<w.heap.size->SO S (OB.iter b Kd f M L vis::O) j->(¬ (OB.iter b Kd f M L vis).blk j)/\SO S (OB.iter b Kd f M L (vis++[k])::O) j:=λj _ hs=>⟨hs.2 (OB.iter b Kd f M L vis) yz,hs.1,λp hp=>by
   rcases mem_cons.1 hp with rfl | hp
   ·exact hs.2 (OB.iter b Kd f M L vis) yz
   ·exact hs.2 p (mem_cons_of_mem _ hp)⟩
  have OJ:¬ M=b:=λe=>by subst e;rw[hm]at hb;cases hb
  have AB:w1.heap=w.heap:=by rcases tY with rfl | rfl<;>rfl
  refine en (v:=.tuple #[.bool true,e.key,e.val]) (w':=setBlock w1 b (.mapIter (some M) c0 (seen.push e.born) c0)) ?_ ⟨⟨(true,k),(λh=>by cases h),λ_=>⟨λtQ=>?_,by rw[wL];rfl⟩⟩,pu V hJ0 h.keep h.x hk (λj hj=>.inl hj) ⟨h0,h2,?_,Lv,hr.move hk hsub,d8,es,c0,seen.push e.born,c0,c0,vs++[e],?_,?_,mX,jY,dl,rfl,rfl,?_,?_,λe' he'=>?_⟩,?_⟩
  ·simp[execOp,hop,Z,hrun]
  ·have:Kd.kv k∈vs.map (·.key):=by rw[hvk];exact mem_map.2 ⟨k,tQ,rfl⟩
   obtain⟨e',he',hk'⟩:=mem_map.1 this
   have:e'=e:=Bc Ph (tX e' he') wF.1 (by rw[hk',oR])
   subst this
   exact wF.2 (by rw[oZ];exact mem_map.2 ⟨e',he',rfl⟩)
  ·simp[setBlock,AB,h3]
  ·simp only[setBlock,AB]
   rw[Array.getElem?_setIfInBounds_ne (λe=>OJ e.symm)];exact hm
  ·simp only[setBlock,AB]
   exact Array.getElem?_setIfInBounds_self_of_lt h3
  ·simp[oZ]
  ·simp[hvk,oR]
  ·rcases List.mem_append.1 he' with h | h
   ·exact tX e' h
   ·rw[List.mem_singleton.1 h];exact wF.1
  ·have k6:k∈L.map (·.1):=by have:=lH L k;rw[wL]at this;simpa using this.symm
   simp only[Rel,bi,if_true]
   exact⟨[.bool true,e.key,e.val],rfl,_,_,rfl,.lit _ True.intro,_,_,rfl,by rw[oR];exact .lit _ (bw k k6),_,_,rfl,trivial,rfl⟩
theorem HS [Inhabited α] {k:κ} (hop:o.op= .entry x) (hi:∃ lo,(OB.iter b Kd f M L (vis++[k])).inv lo S w) (bw:io (Kd.kv k)) (h1:Rel S' w (.at b 0) (a.eval x)) (Z:X w):
 Does n P o a w (bG S X (.bF [.lit (Kd.kv k),f ((aw L k).getD default)]) w):=by
 obtain⟨lo,h0,h2,h3,Lv,hr,d8,es,clock,seen,since,c0,vs,hm,hb,mX,jY,dl,f8,hc1,oZ,hvk,tX⟩:=hi
 have Ae:(es.toList.map (·.born)).Nodup:=by
  rw[List.nodup_iff_pairwise_ne]
  exact jY.imp λh=>Nat.ne_of_lt h
 rw[List.map_append]at hvk
 obtain⟨vs1,vs2,rfl,e1,e2⟩:=List.map_eq_append_iff.1 hvk
 obtain⟨e,rfl⟩:∃ e,vs2=[e]:=List.length_eq_one_iff.1 (by have:=congrArg List.length e2;simpa using this)
 ·simp only[List.map_cons,List.map_nil,List.cons.injEq,and_true]at e2
  have he:=tX e yz
  obtain⟨k',xv,oR,wL,qm⟩:=zv mX hr d8 e he
  have hkk:k'=k:=AM Kd (by rw[<-oR,e2])
  subst hkk
  have wQ:seen=(vs1.map (·.born)).toArray.push e.born:=by
   apply Array.toList_inj.1
   simp[oZ]
  subst hc1
  rw[wQ]at hb
  have hrun:=run_entry_at (P:=P) w b M since _ es c0 e hb hm he Ae
  refine cN (v:=.tuple #[e.key,e.val]) ?_ ?_ Z
  ·simp[execOp,hop,h1.lit,hrun]
  ·simp only[Rel,bi]
   exact⟨[e.key,e.val],rfl,_,_,rfl,by rw[oR];exact .lit _ bw,_,_,rfl,by rw[wL];exact qm,rfl⟩
theorem UI {v:Value} (h:Rel S w (.bF []) v):v= .tuple #[]:=by
 simp only[Rel,bi]at h
 obtain⟨us,rfl,rfl⟩:=h
 rfl
theorem Ul {β:Type} {e:TypeId} {g:β->List CD} {xs ys:List β} {k lo:Nat} {v1 v2 v3:Operand} (he:xs.drop lo=ys) (h1:dA P t e k) (hf:∀ x,(g x).length=k) (hop:o.op= .slice t x (some v1) (some v2) (some v3)) (h:Rel S w (.rd (.sl (xs.map g))) (a.eval x))
 (hl:Rel S w (.int (lo:Int)) (a.eval v1)) (hh:Rel S w (.int (xs.length:Int)) (a.eval v2)) (hm:Rel S w (.int (xs.length:Int)) (a.eval v3)) (h2:lo<=xs.length) (Z:X w):Does n P o a w (bG S X (.rd (.sl (ys.map g))) w):=by
 subst he
 simp only[Rel]at h
 obtain⟨ad,cap,hv,l7,dg⟩:=h.form
 rw[length_map]at hv l7
 have hrun:(execOp a.eval o).run P w= .ok (.value (.slice (if xs.length=lo then ad else ad.map (·.add (lo*k))) (xs.length-lo) (xs.length-lo))) w:=by
  rw[execOp,hop]
  simp[hv,hl.lit,hh.lit,hm.lit,Instr.sliceAt,Instr.slice,Instr.sliceBounds,Instr.sliceBound,asIntOf,Sem.run_bind,run_underlying h1.1,h1.2 w,h2,l7]
 refine cN hrun ?_ Z
 simp only[Rel]
 have hlen:((xs.map g).drop lo).length=xs.length-lo:=by rw[List.length_drop,length_map]
 rw[List.map_drop]
 by_cases h0:xs.length=lo
 ·have:(xs.map g).drop lo=[]:=List.eq_nil_of_length_eq_zero oz
  rw[this,h0,Nat.sub_self]
  exact .nil _ _ oz
 ·rw[if_neg h0]
  rw[hv]at h
  have m8:0< (xs.map g).length:=by rw[length_map];omega
  obtain⟨b,off,rfl,_⟩:=h.at (List.getElem?_eq_getElem m8)
  have hp:=h.part (jm hf) (lo:=lo) (hi:=(xs.map g).length) (by rw[length_map];exact h2) aV m8
  rw[List.take_length,length_map]at hp
  simp only[Option.map_some,pH]
  exact hp.UA hlen (Nat.le_trans (Nat.sub_le _ _) (Nat.le_trans l7 dg))
theorem Wa {S:Nat->Prop} {w:World} {xs:List BA} {v:Value} (h:Rd S w (ai xs) v):∀ s∈xs,s.size<=9223372036854775807:=λs hs=>by
 obtain⟨i,hi,rfl⟩:=List.getElem_of_mem hs
 obtain⟨ad,cap,rfl,_⟩:=h.form
 obtain⟨b,off,_,_,_,us,hr,_⟩:=h.at (i:=i) (r:=[.lit (.string xs[i])]) (by simp[hi,dO])
 match us,hr with
 | [u],hr=>exact hr.1.sf
theorem FO {S:Nat->Prop} {w:World} {hs:List Hy} {v:Value} (h:Rd S w (bX hs) v):∀ y∈hs,∀ s∈y.ac,s.size<=9223372036854775807:=λy hy=>by
 obtain⟨i,hi,rfl⟩:=List.getElem_of_mem hy
 obtain⟨ad,cap,rfl,_⟩:=h.form
 obtain⟨b,off,_,_,_,us,hr,_⟩:=h.at (i:=i) (r:=aP hs[i]) (by simp[hi])
 match us,hr with
 | [_,_,u],hr=>exact Wa hr.2.2.1
theorem Oa {S:Nat->Prop} {w:World} {f:Fr} {v:Value} (h:Rel S w (.agg (a8 f)) v):∀ y∈f.aa++f.bB,∀ s∈y.ac,s.size<=9223372036854775807:=by
 obtain⟨us,_,hr⟩:=jw h
 match us,hr with
 | [_,_,u1,_,_,u2,_,_],hr=>
  intro y hy
  rcases List.mem_append.1 hy with hy | hy
  ·exact FO hr.2.2.1 y hy
  ·exact FO hr.2.2.2.2.2.1 y hy
theorem IX (h:So J S w0 N (OB.iter b Kd f M L vis::O) env a w):So J S w0 N (OB.map Kd f M L::O) env a w:=by
 have hsub:∀ k,SO S (OB.iter b Kd f M L vis::O) k->SO S (OB.map Kd f M L::O) k:=λk hs=>⟨hs.1,λp hp=>by
  rcases mem_cons.1 hp with rfl | hp
  ·exact λe=>hs.2 (OB.iter b Kd f M L vis) yz (.inr e)
  ·exact hs.2 p (mem_cons_of_mem _ hp)⟩
 have jY:=List.pairwise_cons.1 h.x.2.2
 refine⟨h.defs,h.size,h.keep,⟨h.x.1,λp hp=>?_,.cons (λp hp k hk e=>jY.1 p hp k (.inr hk) e) jY.2⟩,λp hp=>⟨(h.env p hp).1,(h.env p hp).2.sub λk _=>hsub k⟩⟩
 rcases mem_cons.1 hp with rfl | hp
 ·obtain⟨h0,h2,h3,Lv,hr,d8,es,clock,seen,since,c0,vs,hm,hb,mX,Py,dl,_⟩:=h.x.2.1 (OB.iter b Kd f M L vis) yz
  exact⟨h2,Lv,⟨es,clock,hm,mX,by rw[uG hr];exact d8,Py,dl⟩,gy.move (Keeps.refl All w) (λk _ hs=>⟨trivial,hsub k hs⟩) hr⟩
 ·exact OB.sub (h.x.2.1 p (mem_cons_of_mem _ hp)) λk _=>hsub k
end
end
section
open Go.RowKit
section
variable {γ:Type} {n:Rn} {N:Nat} {P:Program} {J:WP} {S:Nat->Prop} {O:List OB} {w0:World} {env:List (Nat×AV)} {l:List Oper} {Q:Exit->Act->WP}
inductive rf (J:WP) (S:Nat->Prop) (w0:World) (ck:Nat->γ->List OB) (env:List (Nat×AV)) (l:List Oper) (am:Nat->AV) (conds:Nat->Bool) (sv:Nat->γ->Value) (ch:List Nat):Nat×(γ->AV)->Prop where
 | old (m s:Nat) (av:AV) (h:env[m]?=some (s,av):=by exact rfl) (hn:(l.all λo=>o.dst !=some s)=true:=by exact rfl):rf J S w0 ck env l am conds sv ch (s,λ_=>av)
 | new (i s:Nat) (av:AV) (h:(l[i]?).bind (·.dst)=some s:=by exact rfl) (hc:conds i=true:=by exact rfl) (he:am i=av:=by exact rfl):rf J S w0 ck env l am conds sv ch (s,λ_=>av)
 | d6 (k i s:Nat) (f:γ->Value) (hk:ch[k]?=some i) (h:(l[i]?).bind (·.dst)=some s) (hf:∀ g,sv k g=f g) (ho:∀ g w,XO J S w0.heap.size (ck ch.length g) w->io (f g)):rf J S w0 ck env l am conds sv ch (s,λg=>.lit (f g))
def sK (J:WP) (S:Nat->Prop) (w0:World) (ck:Nat->γ->List OB) (env:List (Nat×AV)) (l:List Oper) (am:Nat->AV) (conds:Nat->Bool) (sv:Nat->γ->Value) (ch:List Nat):List (Nat×(γ->AV))->Prop
 | []=>True
 | p::r=>rf J S w0 ck env l am conds sv ch p/\sK J S w0 ck env l am conds sv ch r
theorem sK.mem {ck:Nat->γ->List OB} {am:Nat->AV} {conds:Nat->Bool} {sv:Nat->γ->Value} {ch:List Nat} {env':List (Nat×(γ->AV))} (h:sK J S w0 ck env l am conds sv ch env'):∀ p∈env',rf J S w0 ck env l am conds sv ch p:=by
 induction env' with
 | nil=>intro p hp;cases hp
 | cons q r ih=>
  intro p hp
  rcases mem_cons.1 hp with rfl | hp
  ·exact h.1
  ·exact ih h.2 p hp
theorem po (Or:List OB) {id:Nat} {draw:Bool} {a:Act} {w:World} (am:Nat->AV) (conds:Nat->Bool) (env':List (Nat×(γ->AV))) (ck:Nat->γ->List OB) (sv:Nat->γ->Value) (ch:List Nat) (m:Nat) (g0:γ) (h0:∀ g,ck 0 g=O)
 (h:So J S w0 N O env a w) (V:aR J) (hm:P.follows .mixedOrders=true) (hu:jP l=true) (hN:jg l N=true) (hback:lq l=true) (oQ:DF l ch=true) (na:Ca l ch m=true) (d8:qy ch=true)
 (hsub:∀ j g,j<=m->∀ p,p∈Or->p∈ck j g) (ob:lk (nC n P J S Or w0 env l am conds ch) 0 l) (d6:mx (CA n P J S w0 env l am conds ck sv ch) 0 ch) (hf:sK J S w0 ck env l am conds sv ch env')
 (hq:∀ g a w,So J S w0 N (ck ch.length g) (env'.map λp=>(p.1,p.2 g)) a w->Q .normal a w):(Code.region id l.toArray draw).wpIn n.F n.d P Q a w:=by
 have start:∀ w',Keeps All w w'->CG J S w0 N env l am conds a.tmps ck sv ch 0 g0 (λ_=>false) a w':=λw' hk=>
  ⟨by
   rw[h0]
   exact⟨h.defs,h.size,h.keep.trans hk,fo V _ _ hk h.x,λ_ _=>rfl,λ_ _ _ _ _ e _=>(by cases e),λ_ _ _ _ _ e _=>(by cases e),λ_ _ _ e=>(by cases e),λ_ h=>h,λp hp=>⟨(h.env p hp).1,(h.env p hp).2.on hk⟩⟩,
   λ_ _ _=>by simp,aI,λ_ _ _ _ hk=>by omega⟩
 have oU:∀(k k' i:Nat),ch[k]?=some i->ch[k']?=some i->k=k':=λk k' i h1 h2=>by
  have g1:=all_eq_true.1 d8 (i,k) (by rw[List.mem_zipIdx_iff_getElem?];simpa using h1)
  have g2:=all_eq_true.1 g1 (i,k') (by rw[List.mem_zipIdx_iff_getElem?];simpa using h2)
  simpa using g2
 refine Ij (I:=λb a' w'=>∃ j g,CG J S w0 N env l am conds a.tmps ck sv ch j g b a' w') hm hback ?_ ?_ ⟨0,g0,start w (Keeps.refl _ _)⟩ ⟨0,g0,start _ (Keeps.refl _ _).drew⟩
 ·rintro Q b a1 w1 i o rest hi hb hd ⟨j,g,hg⟩ hK
  by_cases gS:∃ k:Nat,ch[k]?=some i
  ·obtain⟨k,hk⟩:=gS
   obtain⟨o',ho',k5,cR,hc,gp⟩:=d6.get k i hk
   rw[hi]at ho';cases ho'
   simp only[Nat.zero_add]at gp
   have wI:j=k:=by
    have h1:=hg.done k i hk
    rw[hb]at h1
    have h2:¬ k<j:=by simpa using h1.symm
    rcases Nat.lt_or_ge j k with hlt | hge
    ·exfalso
     obtain⟨k1,rfl⟩:∃ k1,k=k1+1:=⟨k-1,oz⟩
     have k6:k1+1<ch.length:=(List.getElem?_eq_some_iff.1 hk).1
     have dD:ch[k1]?=some (ch[k1]'(by omega)):=List.getElem?_eq_getElem _
     have h3:=all_eq_true.1 oQ k1 (by simp;omega)
     simp only[List.getD_eq_getElem?_getD,hk,dD,Option.getD_some]at h3
     have h4:=qX hg.inv.closed _ i _ o hi hd h3
     rw[hg.done k1 _ dD]at h4
     have:k1<j:=by simpa using h4
     omega
    ·omega
   subst wI
   refine wpListIn_plain k5 λK' hKr=>gp g a1 w1 hg.inv.keep hg.inv.x (hg.inv.look hi hb hd) (λk' i' o' d hk' hi' hl' hd'=>hg.slot k' i' o' d hk' hi' hl' hd') K' Q λu w2 ⟨g',e1,e2,e3,hs⟩=>?_
   have hlt:j<ch.length:=(List.getElem?_eq_some_iff.1 hk).1
   refine hKr _ _ (hK _ _ ⟨j+1,g',hg.inv.B8 hu hN hi hd u hs.1 hs.2.2 hs.2.1 hc (by rw[cR];simp only[Rel]),λk' i' hk'=>?_,oz,λk' i' o' d hk' hi' hl' hd'=>?_⟩)
   ·by_cases e:i'=i
    ·subst e
     have:=oU k' j i' hk' hk
     subst this
     simp[cP]
    ·simp only[cP,if_neg e]
     rw[hg.done k' i' hk']
     congr 1
     apply propext
     constructor
     ·intro h;omega
     ·intro h
      have:k'≠j:=λe'=>by subst e';rw[hk]at hk';cases hk';exact e rfl
      omega
   ·by_cases e:k'=j
    ·subst e
     rw[hk]at hi';cases hi'
     rw[hi]at hl';cases hl'
     rw[hd',la _ _ _ (by rw[hg.inv.size];exact ix hN hi hd')]
     exact e3 (by simp[hd'])
    ·have hne:i'≠i:=λe'=>e (by subst e';exact oU k' j i' hi' hk)
     rw[ju _ _ _ _ (λe'=>hne (kA hu hl' hi hd' e'))]
     rw[hg.slot k' i' o' d oz hi' hl' hd',e2 k' oz]
  ·have rP:ch.contains i=false:=by
    simp only[List.contains_eq_mem,decide_eq_false_iff_not]
    intro kl
    obtain⟨k,hk,he⟩:=List.getElem_of_mem kl
    exact gS ⟨k,by rw[List.getElem?_eq_getElem hk,he]⟩
   have hjm:j<=m:=by
    rcases Nat.lt_or_ge m j with hlt | hge
    ·exfalso
     have tS:m<ch.length:=by have:=hg.le;omega
     have dD:ch[m]?=some (ch[m]'tS):=List.getElem?_eq_getElem _
     unfold Ca at na
     rw[dD]at na
     simp only at na
     have h1:=all_eq_true.1 na i (by simp;exact(List.getElem?_eq_some_iff.1 hi).1)
     rw[rP,Bool.false_or]at h1
     have fw:=hg.done m _ dD
     have OQ:b ch[m]=true:=by rw[fw];simpa using hlt
     cases hl:l[ch[m]]? with
     | none=>
      have:∀ f,under l f ch[m] i=false:=λf=>by cases f<;>simp[under,hl]
      rw[this]at h1;cases h1
     | some p=>
      have:=qX hg.inv.closed _ _ i p hl (hg.inv.closed _ p hl OQ) h1
      rw[hb]at this;cases this
    ·exact hge
   have oV:=se l 0 ob i o hi
   rw[Nat.zero_add]at oV
   refine hg.inv.tc hu hN hi hb hd (oV rP _ (hsub j g hjm)) λa' w' h' hsl=>hK _ _ ⟨j,g,h',λk' i' hk'=>?_,hg.le,λk' i' o' d hk' hi' hl' hd'=>?_⟩
   ·have:i'≠i:=λe=>gS ⟨k',e▸hk'⟩
    simp only[cP,if_neg this]
    exact hg.done k' i' hk'
   ·have hne:i'≠i:=λe=>gS ⟨k',e▸hi'⟩
    rw[hsl d (λe'=>hne (kA hu hl' hi hd' e'))]
    exact hg.slot k' i' o' d hk' hi' hl' hd'
 ·rintro a1 w1 ⟨j,g,hg⟩
  have hj:j=ch.length:=by
   rcases Nat.lt_or_ge j ch.length with hlt | hge
   ·exfalso
    have dD:ch[j]?=some (ch[j]'hlt):=List.getElem?_eq_getElem _
    obtain⟨o',ho',_⟩:=d6.get j _ dD
    have hb:=hg.done j _ dD
    have hlt2:ch[j]<l.length:=(List.getElem?_eq_some_iff.1 ho').1
    simp[hlt2]at hb
   ·have:=hg.le;omega
  subst hj
  refine hq g a1 w1 ⟨hg.inv.defs,hg.inv.size,hg.inv.keep,hg.inv.x,λp hp=>?_⟩
  obtain⟨q,hq',rfl⟩:=mem_map.1 hp
  cases hf.mem q hq' with
  | old m s av he hn=>
   have h1:=hg.inv.env (s,av) (List.mem_of_getElem? he)
   refine⟨h1.1,?_⟩
   show Rel _ w1 av (a1.tmps.getD s undef)
   rw[hg.inv.old s λi o hi ho=>by
    have:=all_eq_true.1 hn o (List.mem_of_getElem? hi)
    simp[ho]at this]
   exact h1.2
  | new i s av hs hc he=>
   cases hi:l[i]? with
   | none=>rw[hi]at hs;cases hs
   | some o=>
    rw[hi]at hs
    have hs':o.dst=some s:=hs
    have hlt:i<l.length:=(List.getElem?_eq_some_iff.1 hi).1
    refine⟨ix hN hi hs',?_⟩
    have hr:=hg.inv.new i o s hi hs' (by simpa using hlt) hc
    rw[he]at hr
    exact hr
  | d6 k i s f hk hs hf ho=>
   cases hi:l[i]? with
   | none=>rw[hi]at hs;cases hs
   | some o=>
    rw[hi]at hs
    have hs':o.dst=some s:=hs
    refine⟨ix hN hi hs',?_⟩
    have hr:=hg.slot k i o s (List.getElem?_eq_some_iff.1 hk).1 hk hi hs'
    simp only
    rw[hr,hf]
    exact Rel.aH _ (ho g w1 hg.inv.x)
theorem py.hs {ck:Nat->γ->List OB} {am:Nat->AV} {conds:Nat->Bool} {sv:Nat->γ->Value} {ch:List Nat} {p:Nat×(γ->AV)} (h:py env l am conds sv ch p):rf J S w0 ck env l am conds sv ch p:=by
 cases h with
 | old m s av h hn=>exact .old m s av h hn
 | new i s av h hc he=>exact .new i s av h hc he
 | d6 k i s f hk h hf ho=>exact .d6 k i s f hk h hf λg _ _=>ho g
theorem lj.hs {ck:Nat->γ->List OB} {am:Nat->AV} {conds:Nat->Bool} {sv:Nat->γ->Value} {ch:List Nat}:∀ {env':List (Nat×(γ->AV))},lj env l am conds sv ch env'->sK J S w0 ck env l am conds sv ch env'
 | [],_=>trivial
 | _::_,h=>⟨h.1.hs,lj.hs h.2⟩
theorem iF {id:Nat} {draw:Bool} {a:Act} {w:World} (am:Nat->AV) (conds:Nat->Bool) (env':List (Nat×(γ->AV))) (ck:Nat->γ->List OB) (sv:Nat->γ->Value) (ch:List Nat) (m:Nat) (g0:γ) (h0:∀ g,ck 0 g=O)
 (h:So J S w0 N O env a w) (V:aR J) (hm:P.follows .mixedOrders=true) (hu:jP l=true) (hN:jg l N=true) (hback:lq l=true) (oQ:DF l ch=true) (na:Ca l ch m=true) (d8:qy ch=true)
 (hsub:∀ j g,j<=m->∀ p,p∈O->p∈ck j g) (ob:lk (nC n P J S O w0 env l am conds ch) 0 l) (d6:mx (CA n P J S w0 env l am conds ck sv ch) 0 ch) (hf:lj env l am conds sv ch env')
 (hq:∀ g a w,So J S w0 N (ck ch.length g) (env'.map λp=>(p.1,p.2 g)) a w->Q .normal a w):(Code.region id l.toArray draw).wpIn n.F n.d P Q a w:=
 po O am conds env' ck sv ch m g0 h0 h V hm hu hN hback oQ na d8 hsub ob d6 hf.hs hq
end
section
variable {n:Rn} {N:Nat} {P:Program} {J X:WP} {S S' gK:Nat->Prop} {O:List OB} {w0:World}
theorem lw {α:Type} {f:α->List CD} {o:Oper} {a:Act} {w:World} {t e:TypeId} {size bytes:Nat} {x y:Operand} {v:Value} (xs ys:List α) (hf:∀ x,(f x).length=size) (ht:jA P t e size bytes) (V:aR J) (hJ0:J w0)
 (hop:o.op= .call { callee:=.builtin .append,args:= #[x,y],argTypes:= #[t,t] }) (hk:Keeps All w0 w) (Z:XO J S w0.heap.size (OB.row v e size (xs.map f)::O) w)
 (hv:a.eval x=v) (hy:Rel (SO S (OB.row v e size (xs.map f)::O)) w (.rd (.sl (ys.map f))) (a.eval y)) (hb:(xs.length+ys.length)*bytes<=140737488355328) (h63:xs.length+ys.length<=9223372036854775807):
 Does n P o a w λv' w'=>dc J S w0 (OB.row v e size (xs.map f)::O) w (OB.row v' e size ((xs++ys).map f)::O) w':=by
 obtain⟨v',w',hrun,hx',hk',hkeep,n2⟩:=Cp (ty:=o.type) ht V hJ0 hk Z hy (jm hf) (by simp only[length_map,maxLen];exact h63) (by simp only[length_map];exact hb)
 rw[List.map_append]
 refine en (v:=v') (w':=w') ?_ ⟨hk',hx',λav u hr=>Rel.move hkeep (λk hlt hs=>⟨hs.2 (OB.row v e size (xs.map f)) yz,n2 k hlt hs⟩) hr⟩
 simp[execOp,hop,resolve,invoke,builtin,hv,hrun,Result.andThen]
def zR:List Value:=[.string ⟨#[]⟩,.bool false,.int .i64 0,.int .i64 0,
 .string ⟨#[36,99]⟩,.bool false,.int .i64 1,.int .i64 200,
 .string ⟨#[36,118]⟩,.bool false,.int .i64 1,.int .i64 200,
 .string ⟨#[36,102]⟩,.bool true,.int .i64 2,.int .i64 2,
 .string ⟨#[36,101]⟩,.bool true,.int .i64 1,.int .i64 200,
 .string ⟨#[36,100]⟩,.bool false,.int .i64 1,.int .i64 200,
 .string ⟨#[36,97]⟩,.bool true,.int .i64 1,.int .i64 200,
 .string ⟨#[36,112]⟩,.bool true,.int .i64 1,.int .i64 200,
 .string ⟨#[36,123]⟩,.bool false,.int .i64 0,.int .i64 0,
 .string ⟨#[36,125]⟩,.bool false,.int .i64 0,.int .i64 0]
def re (w:World):Prop:=∀(i:Nat) (u:Value),zR[i]?=some u->w.cell? ⟨1,i,none⟩=some u
def gJ (J:WP):Prop:=∀ w,J w->re w
theorem HX {o:Oper} {a:Act} {w:World} {y:Operand} {t e:TypeId} {len k:Nat} {i:Int} (h1:P.underlying t=some (.array len e)) (hs:∀ w,(sizeOf e).run P w= .ok 4 w) (hop:o.op= .indexAddr t (.global 1) y) (hy:Rel S' w (.int i) (a.eval y)) (hi:i=(k:Int)) (hk:k<len) (Z:X w):
 Does n P o a w (bG S X (.at 1 (k*4)) w):=by
 refine cN (v:=.pointer (some ⟨1,k*4,none⟩)) ?_ (Rel.aH _) Z
 subst hi
 have hg:a.eval (.global 1)= .pointer (some ⟨1,0,none⟩):=rfl
 simp[execOp,hop,hg,hy.lit,Instr.indexAt,Instr.sureAddr,asIntOf,Sem.run_bind,run_underlying h1,hs w,hk,pH]
theorem HY {o:Oper} {a:Act} {w:World} {x:Operand} {t:TypeId} (h1:fY P t 4) (hop:o.op= .load t x) (hf:re w) (h:Rel S' w (.at 1 28) (a.eval x)) (Z:X w):
 Does n P o a w (bG S X (.agg [.lit (.string ⟨#[36,112]⟩),.lit (.bool true),.lit (.int .i64 1),.lit (.int .i64 200)]) w):=by
 have hrun:=mq (P:=P) 1 28 w [.string ⟨#[36,112]⟩,.bool true,.int .i64 1,.int .i64 200] 0 #[] λj u hj=>by
  rw[Nat.zero_add]
  refine hf (28+j) u ?_
  rcases j with _ | _ | _ | _ | j<;>(try rw[<-hj])
  ·rfl
  ·rfl
  ·rfl
  ·rfl
  ·simp at hj
 refine cN (v:=.agg #[.string ⟨#[36,112]⟩,.bool true,.int .i64 1,.int .i64 200]) ?_ ?_ Z
 ·simp only[List.length_cons,List.length_nil,Nat.zero_add,Nat.reduceAdd]at hrun
  simp[execOp,hop,h.lit,Instr.loadAt,Instr.sureAddr,loadVar,loadCells,Sem.run_bind,h1.1 w,h1.2 w,hrun]
 ·simp only[Rel]
  exact⟨[.string ⟨#[36,112]⟩,.bool true,.int .i64 1,.int .i64 200],rfl,.lit _ (Nat.le_of_ble_eq_true rfl),.lit _ True.intro,.lit _ True.intro,.lit _ True.intro,trivial⟩
theorem Uw (g:Nat->Value):(Array.range 4).map g= #[g 0,g 1,g 2,g 3]:=by apply Array.toList_inj.1;simp[List.range_succ]
theorem UX {t e:TypeId} {z:Value} (ht:dA P t e 4) (hz:∀ w,(zeroValue e).run P w= .ok z w) (us:List Value) (hu:us.length=4) (w:World):
 (Instr.buildSlice t 1 #[(0,.agg us.toArray)]).run P w= .ok (.slice (some ⟨w.heap.size,0,none⟩) 1 1) (w.alloc (.cells us.toArray e)):=by
 unfold Instr.buildSlice
 match us,hu with
 | [a,b,c,d],_=>
  have hc:(Value.agg [a,b,c,d].toArray).cells= #[a,b,c,d]:=rfl
  simp[Sem.run_bind,run_underlying ht.1,ht.2 w,hz w,Instr.fill,hc,newRow,newObj,Sem.run,Uw]
theorem T2 {cs:List CD} {o:Oper} {a:Act} {w:World} {x:Operand} {t e:TypeId} (ht:dA P t e 4) (hz:kb P e) (hc:cs.length=4) (hop:o.op= .buildSlice t 1 #[(0,x)]) (h:Rel S w (.agg cs) (a.eval x)) (hS:S w.heap.size) (Z:∀ w',Keeps All w w'->X w'):Does n P o a w (bG S X (.rd (.sl [cs])) w):=by
 obtain⟨z,f9⟩:=hz
 simp only[Rel]at h
 obtain⟨us,hv,hr⟩:=h
 have hk':Keeps All w (w.alloc (.cells us.toArray e)):=(Keeps.refl _ _).alloc _
 refine en (v:=.slice (some ⟨w.heap.size,0,none⟩) 1 1) (w':=w.alloc (.cells us.toArray e)) ?_ ⟨?_,hk',Z _ hk'⟩
 ·have:=UX ht f9 us (by rw[hr.length,hc]) w
  rw[execOp,hop]
  simp only[List.map_toArray,List.map_cons,List.map_nil,Sem.run_bind,hv,this]
  rfl
 ·simp only[Rel]
  refine Rd.of_cells (n:=4) (us:=us) aV dz yz hS (λr hr=>by simp at hr;subst hr;exact hc) (by simp only[List.flatten_cons,List.flatten_nil,List.append_nil];exact hr.keep hk' λ_ _ _=>trivial) λj u hj=>nJ j u hj
end
end
end Go.Proofs.YtdfadihhfppjaaaGreatDoor
