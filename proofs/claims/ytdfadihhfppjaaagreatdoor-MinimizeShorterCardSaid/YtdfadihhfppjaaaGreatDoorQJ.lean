/-
  THE ENGINE: walks over maps of the call's own.
  THE ENGINE: drawn regions in which rows of the call's own grow; the table of statements' forms.
-/
import Derived.Test.YtdfadihhfppjaaaGreatDoorQI
import Derived.Maps.RangeRun
namespace Go.Proofs.YtdfadihhfppjaaaGreatDoor
open Go.RowKit Go.ChangeMaps
section
variable {κ:Type} [DecidableEq κ] {α:Type}
def OB.iter (b:Nat) (Kd:ZaD κ) (f:α→AV) (M:Nat) (L:List (κ×α)) (vis:List κ):OB where
 blk:=fun k=>k=b∨k=M
 inv:=fun lo S w=>lo≤b∧lo≤M∧b<w.heap.size∧∃ Lv,RelM S w f L Lv∧(L.map (·.1)).Nodup∧∃(es:Array MapEntry) (clock:Nat) (seen:Array Nat) (since c0:Nat) (vs:List MapEntry),
  w.heap[M]?=some (.map es clock)∧w.heap[b]?=some (.mapIter (some M) since seen c0)∧Zd9 Kd es.toList Lv∧(es.toList.map (·.born)).Pairwise (· < ·)∧(∀ e∈es.toList,e.born<clock)∧since=clock∧c0=clock∧
  seen.toList=vs.map (·.born)∧vs.map (·.key)=vis.map Kd.kv∧(∀ e∈vs,e∈es.toList)
 mv:=fun {_ _ _ _ w w'} h hk hb hs=>by
  obtain⟨h0,h1,h2,Lv,h3,h4,es,clock,seen,since,c0,vs,h5,h6,h7⟩:=h
  have hM:=(Array.getElem?_eq_some_iff.1 h5).1
  exact⟨h0,h1,Nat.lt_of_lt_of_le h2 hk.size,Lv,h3.move hk hs,h4,es,clock,seen,since,c0,vs,(hk.block M hM (hb M (.inr rfl))).trans h5,(hk.block b h2 (hb b (.inl rfl))).trans h6,h7⟩
 lt:=fun {_ _ w} h k hk=>by
  obtain⟨h0,h1,h2,Lv,h3,h4,es,clock,seen,since,c0,vs,h5,_⟩:=h
  rcases hk with rfl | rfl
  · exact⟨h0,h2⟩
  · exact⟨h1,(Array.getElem?_eq_some_iff.1 h5).1⟩
omit [DecidableEq κ]in
theorem Zbs {S:Nat→Prop} {w:World} {f:α→AV}:∀ {L:List (κ×α)} {Lv:List (κ×Value)},RelM S w f L Lv→Lv.map (·.1)=L.map (·.1)
 | [],[],_=>rfl
 | _::_,_::_,h=>by simp only[List.map_cons,h.1,Zbs h.2.2]
 | [],_::_,h=>h.elim
 | _::_,[],h=>h.elim
theorem ZpM (Kd:ZaD κ) {a b:κ} (h:Kd.kv a=Kd.kv b):a=b:=by
 have h1:=Kd.same a b
 rw[h,Kd.same b b]at h1
 simpa using h1
theorem Ze9 {Kd:ZaD κ} {S:Nat→Prop} {w:World} {f:α→AV}:∀ {es:List MapEntry} {L:List (κ×α)} {Lv:List (κ×Value)},Zd9 Kd es Lv→RelM S w f L Lv→(L.map (·.1)).Nodup→∀ e∈es,∃ k x,e.key=Kd.kv k∧Zy L k=some x∧Rel S w (f x) e.val
 | [],_,_,_,_,_,e,he=>by cases he
 | e0::es,p::L,q::Lv,h,hr,hn,e,he=>by
  simp only[Zd9,List.map_cons,List.cons.injEq,Prod.mk.injEq]at h
  obtain⟨⟨h1,h2⟩,h3⟩:=h
  rcases List.mem_cons.1 he with rfl | he
  · exact⟨p.1,p.2,by rw[h1,hr.1],by rw[XF,if_pos rfl],by rw[h2];exact hr.2.1⟩
  · obtain⟨k,x,g1,g2,g3⟩:=Ze9 h3 hr.2.2 (List.nodup_cons.1 hn).2 e he
    refine⟨k,x,g1,?_,g3⟩
    rw[XF,if_neg]
    · exact g2
    · intro e'
      have:=Y1 L k
      rw[g2]at this
      have hk:k∈L.map (·.1):=by simpa using this.symm
      rw[e']at hk
      exact(List.nodup_cons.1 hn).1 hk
 | _::_,[],[],h,_,_,_,_=>by simp[Zd9]at h
 | _::_,_::_,[],_,hr,_,_,_=>hr.elim
 | _::_,[],_::_,_,hr,_,_,_=>hr.elim
theorem Zbb {β γ:Type} {g:β→γ}:∀ {l:List β},(l.map g).Nodup→∀ {a b:β},a∈l→b∈l→g a=g b→a=b
 | x::l,h,a,b,ha,hb,e=>by
  rw[List.map_cons,List.nodup_cons]at h
  rcases List.mem_cons.1 ha with ha' | ha'
  · rcases List.mem_cons.1 hb with hb' | hb'
    · rw[ha',hb']
    · exact absurd (show g x∈l.map g from List.mem_map.2 ⟨b,hb',by rw[←e,ha']⟩) h.1
  · rcases List.mem_cons.1 hb with hb' | hb'
    · exact absurd (show g x∈l.map g from List.mem_map.2 ⟨a,ha',by rw[e,hb']⟩) h.1
    · exact Zbb h.2 ha' hb' e
theorem Zi1 {Kd:ZaD κ} {es:List MapEntry} {Lv:List (κ×Value)} (h:Zd9 Kd es Lv):es.map (·.key)=(Lv.map (·.1)).map Kd.kv:=by
 have:=congrArg (List.map Prod.fst) h
 simpa [List.map_map,Function.comp_def]using this
end
section
variable {n:Rn} {N:Nat} {P:Program} {J X:WP} {S S' S'':Nat→Prop} {O:List OB} {w0:World} {env:List (Nat×AV)} {Q:Exit→Act→WP}
variable {κ:Type} [DecidableEq κ] {α:Type} {Kd:ZaD κ} {f:α→AV} {M b:Nat} {L:List (κ×α)} {vis:List κ}
variable {o:Oper} {a:Act} {w:World} {x y:Operand} {t K E:TypeId}
theorem keeps_setBlock {r:Nat} {ob:Obj}:Keeps (fun k=>¬ k=r) w (setBlock w r ob):=
 (Keeps.refl _ _).putObj (fun _ h=>h rfl) _
theorem Zk7 {ops:Array Oper} {rest:List Oper} {d:Nat} (hT:P.underlying t=some (.map K E)) (hJ:Stab J) (hJ0:J w0) (hg:o.guard=none) (hop:o.op= .range t x) (hd:o.dst=some d) (hN:d<N)
 (h1:∀ a w,So J S w0 N (OB.map Kd f M L::O) env a w→Rel (SO S (OB.map Kd f M L::O)) w (.lit (.map (some M))) (a.eval x))
 (next:∀ b a w,So J S w0 N (OB.iter b Kd f M L []::O) ((d,.at b 0)::Yn d env) a w→wpListIn n.F n.d P ops Q rest a w):
 ∀ a w,So J S w0 N (OB.map Kd f M L::O) env a w→wpListIn n.F n.d P ops Q (o::rest) a w:=by
 refine Zc7 (O2:=fun b=>OB.iter b Kd f M L []::O) (av:=fun b=>.at b 0) hg hd hN (fun a w h=>?_) next
 obtain⟨h0,Lv,⟨es,clock,hm,hen,hnd,hpw,hcl⟩,hr⟩:=h.x.2.1 (OB.map Kd f M L) yz
 have hlt:M<w.heap.size:=(Array.getElem?_eq_some_iff.1 hm).1
 have hk:Keeps All w (w.alloc (.mapIter (some M) clock #[] clock)):=(Keeps.refl _ _).alloc _
 have hsub:∀ k,k<w.heap.size→SO S (OB.map Kd f M L::O) k→(¬ (OB.map Kd f M L).blk k)∧SO S (OB.iter w.heap.size Kd f M L []::O) k:=fun k hlt hs=>⟨hs.2 (OB.map Kd f M L) yz,hs.1,fun p hp=>by
  rcases List.mem_cons.1 hp with rfl | hp
  · rintro(e | e)
    · omega
    · exact hs.2 (OB.map Kd f M L) yz e
  · exact hs.2 p (List.mem_cons_of_mem _ hp)⟩
 refine ZS (v:=.pointer (some ⟨w.heap.size,0,none⟩)) (w':=w.alloc (.mapIter (some M) clock #[] clock)) ?_ ⟨w.heap.size,Zaj hJ hJ0 h.keep h.x (hk.sub fun _ _ _=>trivial) (fun k hb=>?_) ⟨h.keep.size,h0,by simp,Lv,hr.move (hk.sub fun _ _ _=>trivial) hsub,by rw[←Zbs hr];exact hnd,es,clock, #[],clock,clock,[],by rw[heap_alloc_old w _ hlt];exact hm,heap_alloc_new w _,hen,hpw,hcl,rfl,rfl,rfl,rfl,fun e he=>by cases he⟩,Rel.of_lit _⟩
 · have hg:(getObj M).run P w= .ok (.map es clock) w:=by simp[getObj,Sem.run,hm]
   simp[execOp,hop,(h1 a w h).lit,Instr.range,Sem.run_bind,run_underlying hT,hg,newObj,Sem.run]
 · rcases hb with e | e
   · exact .inr (Nat.le_of_eq e.symm)
   · exact .inl e
abbrev AV.nxt (Kd:ZaD κ) (g:Bool×κ):AV:=.tup (.bool g.1::(if g.1 then [.lit (Kd.kv g.2),.any]else []))
theorem Zos [Inhabited κ] {ops:Array Oper} {rest:List Oper} {d:Nat} (hok:∀ k∈L.map (·.1),okLit (Kd.kv k)) (hJ:Stab J) (hJ0:J w0) (hg:o.guard=none) (hop:o.op= .next x false) (hd:o.dst=some d) (hN:d<N)
 (h1:∀ a w,So J S w0 N (OB.iter b Kd f M L vis::O) env a w→Rel (SO S (OB.iter b Kd f M L vis::O)) w (.at b 0) (a.eval x))
 (next:∀ g:Bool×κ,(g.1=false→∀ k,(Zy L k).isSome=true→k∈vis)→(g.1=true→g.2∉vis∧(Zy L g.2).isSome=true)→∀ a w,So J S w0 N (OB.iter b Kd f M L (if g.1 then vis++[g.2]else vis)::O) ((d,.nxt Kd g)::Yn d env) a w→wpListIn n.F n.d P ops Q rest a w):
 ∀ a w,So J S w0 N (OB.iter b Kd f M L vis::O) env a w→wpListIn n.F n.d P ops Q (o::rest) a w:=by
 refine Zc7 (ι:= { g:Bool×κ // (g.1=false→∀ k,(Zy L k).isSome=true→k∈vis)∧(g.1=true→g.2∉vis∧(Zy L g.2).isSome=true) }) (O2:=fun g=>OB.iter b Kd f M L (if g.1.1 then vis++[g.1.2]else vis)::O) (av:=fun g=>.nxt Kd g.1) hg hd hN (fun a w h=>?_) fun g=>next g.1 g.2.1 g.2.2
 obtain⟨h0,h2,h3,Lv,hr,hnd,es,clock,seen,since,c0,vs,hm,hb,hen,hpw,hcl,hs1,hc1,hsv,hvk,hve⟩:=h.x.2.1 (OB.iter b Kd f M L vis) yz
 subst hs1
 subst hc1
 have hbornnd:(es.toList.map (·.born)).Nodup:=by
  rw[List.nodup_iff_pairwise_ne]
  exact hpw.imp fun h=>Nat.ne_of_lt h
 have hkeynd:(es.toList.map (·.key)).Nodup:=by
  rw[Zi1 hen,Zbs hr]
  rw[List.nodup_iff_pairwise_ne,List.pairwise_map]
  rw[List.nodup_iff_pairwise_ne]at hnd
  exact hnd.imp fun h e=>h (ZpM Kd e)
 have hx:=(h1 a w h).lit
 rcases run_next_at (P:=P) w o.type b M c0 c0 seen es c0 hb hm hcl nlr with⟨hz,hrun⟩ | ⟨e,he,w1,hw1,hrun⟩
 · refine ZS (v:=.tuple #[.bool false]) (w':=w) ?_ ⟨⟨(false,default),fun _ k hk=>?_,(fun h=>by cases h)⟩,?_,?_⟩
   · simp[execOp,hop,hx,hrun]
   · have hkl:k∈L.map (·.1):=by rw[Y1]at hk;simpa using hk
     have hkv:Kd.kv k∈es.toList.map (·.key):=by rw[Zi1 hen,Zbs hr];exact List.mem_map.2 ⟨k,hkl,rfl⟩
     obtain⟨e,he,hek⟩:=List.mem_map.1 hkv
     have hnl:e∉ (leftOf es seen).toList:=by
      rw[List.eq_nil_of_length_eq_zero (l:=(leftOf es seen).toList) (by simpa using hz)];simp
     have hseen:e.born∈seen.toList:=by
      simp only[leftOf,Array.toList_filter,List.mem_filter,not_and,Bool.not_eq_true',Bool.not_eq_false]at hnl
      have:=hnl he
      simpa using this
     rw[hsv]at hseen
     obtain⟨e',he',hbe⟩:=List.mem_map.1 hseen
     have:e'=e:=Zbb hbornnd (hve e' he') he hbe
     subst this
     have hkm:Kd.kv k∈vis.map Kd.kv:=by rw[←hvk,←hek];exact List.mem_map.2 ⟨e',he',rfl⟩
     obtain⟨k',hk',e2⟩:=List.mem_map.1 hkm
     rw[←ZpM Kd e2];exact hk'
   · exact Zeo h.keep h.x
   · simp only[Rel,RelL,Bool.false_eq_true,if_false]
     exact⟨[.bool false],rfl,_,_,rfl,.lit _ True.intro,rfl⟩
 · have hel:e∈es.toList∧¬ e.born∈seen.toList:=by
    simp only[leftOf,Array.toList_filter,List.mem_filter,Bool.not_eq_true']at he
    exact⟨he.1,by simpa using he.2⟩
   obtain⟨k,xv,hek,hmk,hrv⟩:=Ze9 hen hr hnd e hel.1
   have hkeep1:Keeps All w w1:=by rcases hw1 with rfl | rfl;exact Keeps.refl _ _;exact(Keeps.refl _ _).drew
   have hk:Keeps (fun j=>¬ (OB.iter b Kd f M L vis).blk j) w (setBlock w1 b (.mapIter (some M) c0 (seen.push e.born) c0)):=
    (hkeep1.sub fun _ _ _=>trivial).trans (keeps_setBlock.sub fun j _ hj e=>hj (.inl e))
   have hsub:∀ j,j<w.heap.size→SO S (OB.iter b Kd f M L vis::O) j→(¬ (OB.iter b Kd f M L vis).blk j)∧SO S (OB.iter b Kd f M L (vis++[k])::O) j:=fun j _ hs=>⟨hs.2 (OB.iter b Kd f M L vis) yz,hs.1,fun p hp=>by
    rcases List.mem_cons.1 hp with rfl | hp
    · exact hs.2 (OB.iter b Kd f M L vis) yz
    · exact hs.2 p (List.mem_cons_of_mem _ hp)⟩
   have hMb:¬ M=b:=fun e=>by subst e;rw[hm]at hb;cases hb
   have hw1h:w1.heap=w.heap:=by rcases hw1 with rfl | rfl<;>rfl
   refine ZS (v:=.tuple #[.bool true,e.key,e.val]) (w':=setBlock w1 b (.mapIter (some M) c0 (seen.push e.born) c0)) ?_ ⟨⟨(true,k),(fun h=>by cases h),fun _=>⟨fun hkv=>?_,by rw[hmk];rfl⟩⟩,Zaj hJ hJ0 h.keep h.x hk (fun j hj=>.inl hj) ⟨h0,h2,?_,Lv,hr.move hk hsub,hnd,es,c0,seen.push e.born,c0,c0,vs++[e],?_,?_,hen,hpw,hcl,rfl,rfl,?_,?_,fun e' he'=>?_⟩,?_⟩
   · simp[execOp,hop,hx,hrun]
   · have:Kd.kv k∈vs.map (·.key):=by rw[hvk];exact List.mem_map.2 ⟨k,hkv,rfl⟩
     obtain⟨e',he',hk'⟩:=List.mem_map.1 this
     have:e'=e:=Zbb hkeynd (hve e' he') hel.1 (by rw[hk',hek])
     subst this
     exact hel.2 (by rw[hsv];exact List.mem_map.2 ⟨e',he',rfl⟩)
   · simp[setBlock,hw1h,h3]
   · simp only[setBlock,hw1h]
     rw[Array.getElem?_setIfInBounds_ne (fun e=>hMb e.symm)];exact hm
   · simp only[setBlock,hw1h]
     exact Array.getElem?_setIfInBounds_self_of_lt h3
   · simp[hsv]
   · simp[hvk,hek]
   · rcases List.mem_append.1 he' with h | h
     · exact hve e' h
     · rw[List.mem_singleton.1 h];exact hel.1
   · have hkl:k∈L.map (·.1):=by have:=Y1 L k;rw[hmk]at this;simpa using this.symm
     simp only[Rel,RelL,if_true]
     exact⟨[.bool true,e.key,e.val],rfl,_,_,rfl,.lit _ True.intro,_,_,rfl,by rw[hek];exact .lit _ (hok k hkl),_,_,rfl,trivial,rfl⟩
theorem ZoO [Inhabited α] {k:κ} (hop:o.op= .entry x) (hi:∃ lo,(OB.iter b Kd f M L (vis++[k])).inv lo S w) (hok:okLit (Kd.kv k)) (h1:Rel S' w (.at b 0) (a.eval x)) (hx:X w):
 Does n P o a w (YC S X (.tup [.lit (Kd.kv k),f ((Zy L k).getD default)]) w):=by
 obtain⟨lo,h0,h2,h3,Lv,hr,hnd,es,clock,seen,since,c0,vs,hm,hb,hen,hpw,hcl,hs1,hc1,hsv,hvk,hve⟩:=hi
 have hbornnd:(es.toList.map (·.born)).Nodup:=by
  rw[List.nodup_iff_pairwise_ne]
  exact hpw.imp fun h=>Nat.ne_of_lt h
 rw[List.map_append]at hvk
 obtain⟨vs1,vs2,rfl,e1,e2⟩:=List.map_eq_append_iff.1 hvk
 obtain⟨e,rfl⟩:∃ e,vs2=[e]:=List.length_eq_one_iff.1 (by have:=congrArg List.length e2;simpa using this)
 · simp only[List.map_cons,List.map_nil,List.cons.injEq,and_true]at e2
   have he:=hve e yz
   obtain⟨k',xv,hek,hmk,hrv⟩:=Ze9 hen hr hnd e he
   have hkk:k'=k:=ZpM Kd (by rw[←hek,e2])
   subst hkk
   have hseen:seen=(vs1.map (·.born)).toArray.push e.born:=by
    apply Array.toList_inj.1
    simp[hsv]
   subst hc1
   rw[hseen]at hb
   have hrun:=run_entry_at (P:=P) w b M since _ es c0 e hb hm he hbornnd
   refine Zr (v:=.tuple #[e.key,e.val]) ?_ ?_ hx
   · simp[execOp,hop,h1.lit,hrun]
   · simp only[Rel,RelL]
     exact⟨[e.key,e.val],rfl,_,_,rfl,by rw[hek];exact .lit _ hok,_,_,rfl,by rw[hmk];exact hrv,rfl⟩
theorem ZrF {v:Value} (h:Rel S w (.tup []) v):v= .tuple #[]:=by
 simp only[Rel,RelL]at h
 obtain⟨us,rfl,rfl⟩:=h
 rfl
theorem ZrL {β:Type} {e:TypeId} {g:β→List CD} {xs ys:List β} {k lo:Nat} {v1 v2 v3:Operand} (he:xs.drop lo=ys) (h1:Yp P t e k) (hf:∀ x,(g x).length=k) (hop:o.op= .slice t x (some v1) (some v2) (some v3)) (h:Rel S w (.rd (.sl (xs.map g))) (a.eval x))
 (hl:Rel S w (.int (lo:Int)) (a.eval v1)) (hh:Rel S w (.int (xs.length:Int)) (a.eval v2)) (hm:Rel S w (.int (xs.length:Int)) (a.eval v3)) (h2:lo≤xs.length) (hx:X w):Does n P o a w (YC S X (.rd (.sl (ys.map g))) w):=by
 subst he
 simp only[Rel]at h
 obtain⟨ad,cap,hv,hlc,hcm⟩:=h.form
 rw[List.length_map]at hv hlc
 have hrun:(execOp a.eval o).run P w= .ok (.value (.slice (if xs.length=lo then ad else ad.map (·.add (lo*k))) (xs.length-lo) (xs.length-lo))) w:=by
  rw[execOp,hop]
  simp[hv,hl.lit,hh.lit,hm.lit,Instr.sliceAt,Instr.slice,Instr.sliceBounds,Instr.sliceBound,asIntOf,Sem.run_bind,run_underlying h1.1,h1.2 w,h2,hlc]
 refine Zr hrun ?_ hx
 simp only[Rel]
 have hlen:((xs.map g).drop lo).length=xs.length-lo:=by rw[List.length_drop,List.length_map]
 rw[List.map_drop]
 by_cases h0:xs.length=lo
 · have:(xs.map g).drop lo=[]:=List.eq_nil_of_length_eq_zero oz
   rw[this,h0,Nat.sub_self]
   exact .nil _ _ oz
 · rw[if_neg h0]
   rw[hv]at h
   have hr0:0< (xs.map g).length:=by rw[List.length_map];omega
   obtain⟨b,off,rfl,_⟩:=h.at (List.getElem?_eq_getElem hr0)
   have hp:=h.part (Zbe hf) (lo:=lo) (hi:=(xs.map g).length) (by rw[List.length_map];exact h2) nlr hr0
   rw[List.take_length,List.length_map]at hp
   simp only[Option.map_some,Zck]
   exact hp.recap hlen (Nat.le_trans (Nat.sub_le _ _) (Nat.le_trans hlc hcm))
theorem ZmS {S:Nat→Prop} {w:World} {xs:List BA} {v:Value} (h:Rd S w (Zg xs) v):∀ s∈xs,s.size≤9223372036854775807:=fun s hs=>by
 obtain⟨i,hi,rfl⟩:=List.getElem_of_mem hs
 obtain⟨ad,cap,rfl,_⟩:=h.form
 obtain⟨b,off,_,_,_,us,hr,_⟩:=h.at (i:=i) (r:=[.lit (.string xs[i])]) (by simp[hi,ZbZ])
 match us,hr with
 | [u],hr=>exact hr.1.okl
theorem ZiO {S:Nat→Prop} {w:World} {hs:List Hy} {v:Value} (h:Rd S w (XQ hs) v):∀ y∈hs,∀ s∈y.text,s.size≤9223372036854775807:=fun y hy=>by
 obtain⟨i,hi,rfl⟩:=List.getElem_of_mem hy
 obtain⟨ad,cap,rfl,_⟩:=h.form
 obtain⟨b,off,_,_,_,us,hr,_⟩:=h.at (i:=i) (r:=hyC hs[i]) (by simp[hi])
 match us,hr with
 | [_,_,u],hr=>exact ZmS hr.2.2.1
theorem ZsX {S:Nat→Prop} {w:World} {f:Fr} {v:Value} (h:Rel S w (.agg (frC f)) v):∀ y∈f.hyps++f.dummies,∀ s∈y.text,s.size≤9223372036854775807:=by
 obtain⟨us,_,hr⟩:=Q0 h
 match us,hr with
 | [_,_,u1,_,_,u2,_,_],hr=>
  intro y hy
  rcases List.mem_append.1 hy with hy | hy
  · exact ZiO hr.2.2.1 y hy
  · exact ZiO hr.2.2.2.2.2.1 y hy
theorem ZfQ (h:So J S w0 N (OB.iter b Kd f M L vis::O) env a w):So J S w0 N (OB.map Kd f M L::O) env a w:=by
 have hsub:∀ k,SO S (OB.iter b Kd f M L vis::O) k→SO S (OB.map Kd f M L::O) k:=fun k hs=>⟨hs.1,fun p hp=>by
  rcases List.mem_cons.1 hp with rfl | hp
  · exact fun e=>hs.2 (OB.iter b Kd f M L vis) yz (.inr e)
  · exact hs.2 p (List.mem_cons_of_mem _ hp)⟩
 have hpw:=List.pairwise_cons.1 h.x.2.2
 refine⟨h.defs,h.size,h.keep,⟨h.x.1,fun p hp=>?_,.cons (fun p hp k hk e=>hpw.1 p hp k (.inr hk) e) hpw.2⟩,fun p hp=>⟨(h.env p hp).1,(h.env p hp).2.sub fun k _=>hsub k⟩⟩
 rcases List.mem_cons.1 hp with rfl | hp
 · obtain⟨h0,h2,h3,Lv,hr,hnd,es,clock,seen,since,c0,vs,hm,hb,hen,hpw',hcl,_⟩:=h.x.2.1 (OB.iter b Kd f M L vis) yz
   exact⟨h2,Lv,⟨es,clock,hm,hen,by rw[Zbs hr];exact hnd,hpw',hcl⟩,RelM.move (Keeps.refl All w) (fun k _ hs=>⟨trivial,hsub k hs⟩) hr⟩
 · exact OB.sub (h.x.2.1 p (List.mem_cons_of_mem _ hp)) fun k _=>hsub k
end
end Go.Proofs.YtdfadihhfppjaaaGreatDoor
namespace Go.Proofs.YtdfadihhfppjaaaGreatDoor
open Go.RowKit
section
variable {γ:Type} {n:Rn} {N:Nat} {P:Program} {J:WP} {S:Nat→Prop} {O:List OB} {w0:World} {env:List (Nat×AV)} {l:List Oper} {Q:Exit→Act→WP}
inductive ZnP (J:WP) (S:Nat→Prop) (w0:World) (Stg:Nat→γ→List OB) (env:List (Nat×AV)) (l:List Oper) (avs:Nat→AV) (conds:Nat→Bool) (sv:Nat→γ→Value) (ch:List Nat):Nat×(γ→AV)→Prop where
 | old (m s:Nat) (av:AV) (h:env[m]?=some (s,av):=by exact rfl) (hn:(l.all fun o=>o.dst !=some s)=true:=by exact rfl):ZnP J S w0 Stg env l avs conds sv ch (s,fun _=>av)
 | new (i s:Nat) (av:AV) (h:(l[i]?).bind (·.dst)=some s:=by exact rfl) (hc:conds i=true:=by exact rfl) (he:avs i=av:=by exact rfl):ZnP J S w0 Stg env l avs conds sv ch (s,fun _=>av)
 | eff (k i s:Nat) (f:γ→Value) (hk:ch[k]?=some i) (h:(l[i]?).bind (·.dst)=some s) (hf:∀ g,sv k g=f g) (ho:∀ g w,XO J S w0.heap.size (Stg ch.length g) w→okLit (f g)):ZnP J S w0 Stg env l avs conds sv ch (s,fun g=>.lit (f g))
def FromHs (J:WP) (S:Nat→Prop) (w0:World) (Stg:Nat→γ→List OB) (env:List (Nat×AV)) (l:List Oper) (avs:Nat→AV) (conds:Nat→Bool) (sv:Nat→γ→Value) (ch:List Nat):List (Nat×(γ→AV))→Prop
 | []=>True
 | p::r=>ZnP J S w0 Stg env l avs conds sv ch p∧FromHs J S w0 Stg env l avs conds sv ch r
theorem FromHs.mem {Stg:Nat→γ→List OB} {avs:Nat→AV} {conds:Nat→Bool} {sv:Nat→γ→Value} {ch:List Nat} {env':List (Nat×(γ→AV))} (h:FromHs J S w0 Stg env l avs conds sv ch env'):∀ p∈env',ZnP J S w0 Stg env l avs conds sv ch p:=by
 induction env' with
 | nil=>intro p hp;cases hp
 | cons q r ih=>
  intro p hp
  rcases List.mem_cons.1 hp with rfl | hp
  · exact h.1
  · exact ih h.2 p hp
theorem Zbt (Or:List OB) {id:Nat} {draw:Bool} {a:Act} {w:World} (avs:Nat→AV) (conds:Nat→Bool) (env':List (Nat×(γ→AV))) (Stg:Nat→γ→List OB) (sv:Nat→γ→Value) (ch:List Nat) (m:Nat) (g0:γ) (h0:∀ g,Stg 0 g=O)
 (h:So J S w0 N O env a w) (hJ:Stab J) (hm:P.follows .mixedOrders=true) (hu:Y4 l=true) (hN:Q9 l N=true) (hback:Zbm l=true) (hch:ZqI l ch=true) (htl:Zol l ch m=true) (hnd:ZdA ch=true)
 (hsub:∀ j g,j≤m→∀ p,p∈Or→p∈Stg j g) (ob:Obs (ObP n P J S Or w0 env l avs conds ch) 0 l) (eff:Effs (EffOb n P J S w0 env l avs conds Stg sv ch) 0 ch) (hf:FromHs J S w0 Stg env l avs conds sv ch env')
 (hq:∀ g a w,So J S w0 N (Stg ch.length g) (env'.map fun p=>(p.1,p.2 g)) a w→Q .normal a w):(Code.region id l.toArray draw).wpIn n.F n.d P Q a w:=by
 have start:∀ w',Keeps All w w'→GInv J S w0 N env l avs conds a.tmps Stg sv ch 0 g0 (fun _=>false) a w':=fun w' hk=>
  ⟨by
   rw[h0]
   exact⟨h.defs,h.size,h.keep.trans hk,Yw hJ _ _ hk h.x,fun _ _=>rfl,fun _ _ _ _ _ e _=>(by cases e),fun _ _ _ _ _ e _=>(by cases e),fun _ _ _ e=>(by cases e),fun _ h=>h,fun p hp=>⟨(h.env p hp).1,(h.env p hp).2.on hk⟩⟩,
   fun _ _ _=>by simp,nzl,fun _ _ _ _ hk=>by omega⟩
 have hnodup:∀(k k' i:Nat),ch[k]?=some i→ch[k']?=some i→k=k':=fun k k' i h1 h2=>by
  have g1:=List.all_eq_true.1 hnd (i,k) (by rw[List.mem_zipIdx_iff_getElem?];simpa using h1)
  have g2:=List.all_eq_true.1 g1 (i,k') (by rw[List.mem_zipIdx_iff_getElem?];simpa using h2)
  simpa using g2
 refine ZgG (I:=fun b a' w'=>∃ j g,GInv J S w0 N env l avs conds a.tmps Stg sv ch j g b a' w') hm hback ?_ ?_ ⟨0,g0,start w (Keeps.refl _ _)⟩ ⟨0,g0,start _ (Keeps.refl _ _).drew⟩
 · rintro Q b a1 w1 i o rest hi hb hd ⟨j,g,hg⟩ hK
   by_cases hin:∃ k:Nat,ch[k]?=some i
   · obtain⟨k,hk⟩:=hin
     obtain⟨o',ho',hgd,hav,hc,hob⟩:=eff.get k i hk
     rw[hi]at ho';cases ho'
     simp only[Nat.zero_add]at hob
     have hjk:j=k:=by
      have h1:=hg.done k i hk
      rw[hb]at h1
      have h2:¬ k<j:=by simpa using h1.symm
      rcases Nat.lt_or_ge j k with hlt | hge
      · exfalso
        obtain⟨k1,rfl⟩:∃ k1,k=k1+1:=⟨k-1,oz⟩
        have hkl:k1+1<ch.length:=(List.getElem?_eq_some_iff.1 hk).1
        have hget:ch[k1]?=some (ch[k1]'(by omega)):=List.getElem?_eq_getElem _
        have h3:=List.all_eq_true.1 hch k1 (by simp;omega)
        simp only[List.getD_eq_getElem?_getD,hk,hget,Option.getD_some]at h3
        have h4:=Qm hg.inv.closed _ i _ o hi hd h3
        rw[hg.done k1 _ hget]at h4
        have:k1<j:=by simpa using h4
        omega
      · omega
     subst hjk
     refine wpListIn_plain hgd fun K' hKr=>?_
     refine hob g a1 w1 hg.inv.keep hg.inv.x (hg.inv.look hi hb hd) (fun k' i' o' d hk' hi' hl' hd'=>hg.slot k' i' o' d hk' hi' hl' hd') K' Q fun u w2 ⟨g',e1,e2,e3,hs⟩=>?_
     have hlt:j<ch.length:=(List.getElem?_eq_some_iff.1 hk).1
     refine hKr _ _ (hK _ _ ⟨j+1,g',hg.inv.step3 hu hN hi hd u hs.1 hs.2.2 hs.2.1 hc (by rw[hav];simp only[Rel]),fun k' i' hk'=>?_,oz,fun k' i' o' d hk' hi' hl' hd'=>?_⟩)
     · by_cases e:i'=i
       · subst e
         have:=hnodup k' j i' hk' hk
         subst this
         simp[Ye]
       · simp only[Ye,if_neg e]
         rw[hg.done k' i' hk']
         congr 1
         apply propext
         constructor
         · intro h;omega
         · intro h
           have:k'≠j:=fun e'=>by subst e';rw[hk]at hk';cases hk';exact e rfl
           omega
     · by_cases e:k'=j
       · subst e
         rw[hk]at hi';cases hi'
         rw[hi]at hl';cases hl'
         rw[hd',XM _ _ _ (by rw[hg.inv.size];exact Z7 hN hi hd')]
         exact e3 (by simp[hd'])
       · have hne:i'≠i:=fun e'=>e (by subst e';exact hnodup k' j i' hi' hk)
         rw[YB _ _ _ _ (fun e'=>hne (Yg hu hl' hi hd' e'))]
         rw[hg.slot k' i' o' d oz hi' hl' hd',e2 k' oz]
   · have hnin:ch.contains i=false:=by
      simp only[List.contains_eq_mem,decide_eq_false_iff_not]
      intro hmem
      obtain⟨k,hk,he⟩:=List.getElem_of_mem hmem
      exact hin ⟨k,by rw[List.getElem?_eq_getElem hk,he]⟩
     have hjm:j≤m:=by
      rcases Nat.lt_or_ge m j with hlt | hge
      · exfalso
        have hml:m<ch.length:=by have:=hg.le;omega
        have hget:ch[m]?=some (ch[m]'hml):=List.getElem?_eq_getElem _
        unfold Zol at htl
        rw[hget]at htl
        simp only at htl
        have h1:=List.all_eq_true.1 htl i (by simp;exact(List.getElem?_eq_some_iff.1 hi).1)
        rw[hnin,Bool.false_or]at h1
        have hbm:=hg.done m _ hget
        have hbm':b ch[m]=true:=by rw[hbm];simpa using hlt
        cases hl:l[ch[m]]? with
        | none=>
         have:∀ f,ZaH l f ch[m] i=false:=fun f=>by cases f<;>simp[ZaH,hl]
         rw[this]at h1;cases h1
        | some p=>
         have:=Qm hg.inv.closed _ _ i p hl (hg.inv.closed _ p hl hbm') h1
         rw[hb]at this;cases this
      · exact hge
     have hobi:=Zbw l 0 ob i o hi
     rw[Nat.zero_add]at hobi
     refine hg.inv.does2 hu hN hi hb hd (hobi hnin _ (hsub j g hjm)) fun a' w' h' hsl=>hK _ _ ⟨j,g,h',fun k' i' hk'=>?_,hg.le,fun k' i' o' d hk' hi' hl' hd'=>?_⟩
     · have:i'≠i:=fun e=>hin ⟨k',e▸hk'⟩
       simp only[Ye,if_neg this]
       exact hg.done k' i' hk'
     · have hne:i'≠i:=fun e=>hin ⟨k',e▸hi'⟩
       rw[hsl d (fun e'=>hne (Yg hu hl' hi hd' e'))]
       exact hg.slot k' i' o' d hk' hi' hl' hd'
 · rintro a1 w1 ⟨j,g,hg⟩
   have hj:j=ch.length:=by
    rcases Nat.lt_or_ge j ch.length with hlt | hge
    · exfalso
      have hget:ch[j]?=some (ch[j]'hlt):=List.getElem?_eq_getElem _
      obtain⟨o',ho',_⟩:=eff.get j _ hget
      have hb:=hg.done j _ hget
      have hlt2:ch[j]<l.length:=(List.getElem?_eq_some_iff.1 ho').1
      simp[hlt2]at hb
    · have:=hg.le;omega
   subst hj
   refine hq g a1 w1 ⟨hg.inv.defs,hg.inv.size,hg.inv.keep,hg.inv.x,fun p hp=>?_⟩
   obtain⟨q,hq',rfl⟩:=List.mem_map.1 hp
   cases hf.mem q hq' with
   | old m s av he hn=>
    have h1:=hg.inv.env (s,av) (List.mem_of_getElem? he)
    refine⟨h1.1,?_⟩
    show Rel _ w1 av (a1.tmps.getD s undef)
    rw[hg.inv.old s fun i o hi ho=>by
     have:=List.all_eq_true.1 hn o (List.mem_of_getElem? hi)
     simp[ho]at this]
    exact h1.2
   | new i s av hs hc he=>
    cases hi:l[i]? with
    | none=>rw[hi]at hs;cases hs
    | some o=>
     rw[hi]at hs
     have hs':o.dst=some s:=hs
     have hlt:i<l.length:=(List.getElem?_eq_some_iff.1 hi).1
     refine⟨Z7 hN hi hs',?_⟩
     have hr:=hg.inv.new i o s hi hs' (by simpa using hlt) hc
     rw[he]at hr
     exact hr
   | eff k i s f hk hs hf ho=>
    cases hi:l[i]? with
    | none=>rw[hi]at hs;cases hs
    | some o=>
     rw[hi]at hs
     have hs':o.dst=some s:=hs
     refine⟨Z7 hN hi hs',?_⟩
     have hr:=hg.slot k i o s (List.getElem?_eq_some_iff.1 hk).1 hk hi hs'
     simp only
     rw[hr,hf]
     exact Rel.of_lit _ (ho g w1 hg.inv.x)
theorem FromG.hs {Stg:Nat→γ→List OB} {avs:Nat→AV} {conds:Nat→Bool} {sv:Nat→γ→Value} {ch:List Nat} {p:Nat×(γ→AV)} (h:FromG env l avs conds sv ch p):ZnP J S w0 Stg env l avs conds sv ch p:=by
 cases h with
 | old m s av h hn=>exact .old m s av h hn
 | new i s av h hc he=>exact .new i s av h hc he
 | eff k i s f hk h hf ho=>exact .eff k i s f hk h hf fun g _ _=>ho g
theorem FromGs.hs {Stg:Nat→γ→List OB} {avs:Nat→AV} {conds:Nat→Bool} {sv:Nat→γ→Value} {ch:List Nat}:∀ {env':List (Nat×(γ→AV))},FromGs env l avs conds sv ch env'→FromHs J S w0 Stg env l avs conds sv ch env'
 | [],_=>trivial
 | _::_,h=>⟨h.1.hs,FromGs.hs h.2⟩
theorem YH {id:Nat} {draw:Bool} {a:Act} {w:World} (avs:Nat→AV) (conds:Nat→Bool) (env':List (Nat×(γ→AV))) (Stg:Nat→γ→List OB) (sv:Nat→γ→Value) (ch:List Nat) (m:Nat) (g0:γ) (h0:∀ g,Stg 0 g=O)
 (h:So J S w0 N O env a w) (hJ:Stab J) (hm:P.follows .mixedOrders=true) (hu:Y4 l=true) (hN:Q9 l N=true) (hback:Zbm l=true) (hch:ZqI l ch=true) (htl:Zol l ch m=true) (hnd:ZdA ch=true)
 (hsub:∀ j g,j≤m→∀ p,p∈O→p∈Stg j g) (ob:Obs (ObP n P J S O w0 env l avs conds ch) 0 l) (eff:Effs (EffOb n P J S w0 env l avs conds Stg sv ch) 0 ch) (hf:FromGs env l avs conds sv ch env')
 (hq:∀ g a w,So J S w0 N (Stg ch.length g) (env'.map fun p=>(p.1,p.2 g)) a w→Q .normal a w):(Code.region id l.toArray draw).wpIn n.F n.d P Q a w:=
 Zbt O avs conds env' Stg sv ch m g0 h0 h hJ hm hu hN hback hch htl hnd hsub ob eff hf.hs hq
end
section
variable {n:Rn} {N:Nat} {P:Program} {J X:WP} {S S' S'':Nat→Prop} {O:List OB} {w0:World}
theorem ZbU {α:Type} {f:α→List CD} {o:Oper} {a:Act} {w:World} {t e:TypeId} {size bytes:Nat} {x y:Operand} {v:Value} (xs ys:List α) (hf:∀ x,(f x).length=size) (ht:Zjz P t e size bytes) (hJ:Stab J) (hJ0:J w0)
 (hop:o.op= .call { callee:=.builtin .append,args:= #[x,y],argTypes:= #[t,t] }) (hk:Keeps All w0 w) (hx:XO J S w0.heap.size (OB.row v e size (xs.map f)::O) w)
 (hv:a.eval x=v) (hy:Rel (SO S (OB.row v e size (xs.map f)::O)) w (.rd (.sl (ys.map f))) (a.eval y)) (hb:(xs.length+ys.length)*bytes≤140737488355328) (h63:xs.length+ys.length≤9223372036854775807):
 Does n P o a w fun v' w'=>Zag J S w0 (OB.row v e size (xs.map f)::O) w (OB.row v' e size ((xs++ys).map f)::O) w':=by
 obtain⟨v',w',hrun,hx',hk',hkeep,hmove⟩:=Zef (ty:=o.type) ht hJ hJ0 hk hx hy (Zbe hf) (by simp only[List.length_map,maxLen];exact h63) (by simp only[List.length_map];exact hb)
 rw[List.map_append]
 refine ZS (v:=v') (w':=w') ?_ ⟨hk',hx',fun av u hr=>Rel.move hkeep (fun k hlt hs=>⟨hs.2 (OB.row v e size (xs.map f)) yz,hmove k hlt hs⟩) hr⟩
 simp[execOp,hop,resolve,invoke,builtin,hv,hrun,Result.andThen]
def formsV:List Value:=[.string ⟨#[]⟩,.bool false,.int .i64 0,.int .i64 0,
 .string ⟨#[36,99]⟩,.bool false,.int .i64 1,.int .i64 200,
 .string ⟨#[36,118]⟩,.bool false,.int .i64 1,.int .i64 200,
 .string ⟨#[36,102]⟩,.bool true,.int .i64 2,.int .i64 2,
 .string ⟨#[36,101]⟩,.bool true,.int .i64 1,.int .i64 200,
 .string ⟨#[36,100]⟩,.bool false,.int .i64 1,.int .i64 200,
 .string ⟨#[36,97]⟩,.bool true,.int .i64 1,.int .i64 200,
 .string ⟨#[36,112]⟩,.bool true,.int .i64 1,.int .i64 200,
 .string ⟨#[36,123]⟩,.bool false,.int .i64 0,.int .i64 0,
 .string ⟨#[36,125]⟩,.bool false,.int .i64 0,.int .i64 0]
def Zgv (w:World):Prop:=∀(i:Nat) (u:Value),formsV[i]?=some u→w.cell? ⟨1,i,none⟩=some u
def Xm (J:WP):Prop:=∀ w,J w→Zgv w
theorem Zf0 {o:Oper} {a:Act} {w:World} {y:Operand} {t e:TypeId} {len k:Nat} {i:Int} (h1:P.underlying t=some (.array len e)) (hs:∀ w,(sizeOf e).run P w= .ok 4 w) (hop:o.op= .indexAddr t (.global 1) y) (hy:Rel S' w (.int i) (a.eval y)) (hi:i=(k:Int)) (hk:k<len) (hx:X w):
 Does n P o a w (YC S X (.at 1 (k*4)) w):=by
 refine Zr (v:=.pointer (some ⟨1,k*4,none⟩)) ?_ (Rel.of_lit _) hx
 subst hi
 have hg:a.eval (.global 1)= .pointer (some ⟨1,0,none⟩):=rfl
 simp[execOp,hop,hg,hy.lit,Instr.indexAt,Instr.sureAddr,asIntOf,Sem.run_bind,run_underlying h1,hs w,hk,Zck]
theorem ZfZ {o:Oper} {a:Act} {w:World} {x:Operand} {t:TypeId} (h1:Xl P t 4) (hop:o.op= .load t x) (hf:Zgv w) (h:Rel S' w (.at 1 28) (a.eval x)) (hx:X w):
 Does n P o a w (YC S X (.agg [.lit (.string ⟨#[36,112]⟩),.lit (.bool true),.lit (.int .i64 1),.lit (.int .i64 200)]) w):=by
 have hrun:=Yr (P:=P) 1 28 w [.string ⟨#[36,112]⟩,.bool true,.int .i64 1,.int .i64 200] 0 #[] fun j u hj=>by
  rw[Nat.zero_add]
  refine hf (28+j) u ?_
  rcases j with _ | _ | _ | _ | j<;>(try rw[←hj])
  · rfl
  · rfl
  · rfl
  · rfl
  · simp at hj
 refine Zr (v:=.agg #[.string ⟨#[36,112]⟩,.bool true,.int .i64 1,.int .i64 200]) ?_ ?_ hx
 · simp only[List.length_cons,List.length_nil,Nat.zero_add,Nat.reduceAdd]at hrun
   simp[execOp,hop,h.lit,Instr.loadAt,Instr.sureAddr,loadVar,loadCells,Sem.run_bind,h1.1 w,h1.2 w,hrun]
 · simp only[Rel]
   exact⟨[.string ⟨#[36,112]⟩,.bool true,.int .i64 1,.int .i64 200],rfl,.lit _ (Nat.le_of_ble_eq_true rfl),.lit _ True.intro,.lit _ True.intro,.lit _ True.intro,trivial⟩
theorem Zm5 (g:Nat→Value):(Array.range 4).map g= #[g 0,g 1,g 2,g 3]:=by apply Array.toList_inj.1;simp[List.range_succ]
theorem ZjV {t e:TypeId} {z:Value} (ht:Yp P t e 4) (hz:∀ w,(zeroValue e).run P w= .ok z w) (us:List Value) (hu:us.length=4) (w:World):
 (Instr.buildSlice t 1 #[(0,.agg us.toArray)]).run P w= .ok (.slice (some ⟨w.heap.size,0,none⟩) 1 1) (w.alloc (.cells us.toArray e)):=by
 unfold Instr.buildSlice
 match us,hu with
 | [a,b,c,d],_=>
  have hc:(Value.agg [a,b,c,d].toArray).cells= #[a,b,c,d]:=rfl
  simp[Sem.run_bind,run_underlying ht.1,ht.2 w,hz w,Instr.fill,hc,newRow,newObj,Sem.run,Zm5]
theorem ZoS {cs:List CD} {o:Oper} {a:Act} {w:World} {x:Operand} {t e:TypeId} (ht:Yp P t e 4) (hz:Zc3 P e) (hc:cs.length=4) (hop:o.op= .buildSlice t 1 #[(0,x)]) (h:Rel S w (.agg cs) (a.eval x)) (hS:S w.heap.size) (hx:∀ w',Keeps All w w'→X w'):Does n P o a w (YC S X (.rd (.sl [cs])) w):=by
 obtain⟨z,hz1⟩:=hz
 simp only[Rel]at h
 obtain⟨us,hv,hr⟩:=h
 have hk':Keeps All w (w.alloc (.cells us.toArray e)):=(Keeps.refl _ _).alloc _
 refine ZS (v:=.slice (some ⟨w.heap.size,0,none⟩) 1 1) (w':=w.alloc (.cells us.toArray e)) ?_ ⟨?_,hk',hx _ hk'⟩
 · have:=ZjV ht hz1 us (by rw[hr.length,hc]) w
   rw[execOp,hop]
   simp only[List.map_toArray,List.map_cons,List.map_nil,Sem.run_bind,hv,this]
   rfl
 · simp only[Rel]
   refine Rd.of_cells (n:=4) (us:=us) nlr dz yz hS (fun r hr=>by simp at hr;subst hr;exact hc) (by simp only[List.flatten_cons,List.flatten_nil,List.append_nil];exact hr.keep hk' fun _ _ _=>trivial) fun j u hj=>QS j u hj
end
end Go.Proofs.YtdfadihhfppjaaaGreatDoor
