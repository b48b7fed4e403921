/-
  Part of the proof that MinimizeChecks returns true. Conditions: none.
-/
import Derived.Test.YtdfadihhfppjaaaGreatDoorBEE
import Derived.Deep.WholeRow
open List (cons_append mem_append mem_cons)
namespace Go.Proofs.YtdfadihhfppjaaaGreatDoor
open Go.RowKit
section
variable {n:Rn} {N:Nat} {P:Program} {S:Nat->Prop} {w0:World} {env:List (Nat×AV)} {X:WP}
def mz (P:Program) (t:TypeId) (k:Nat):Prop:=∃ z:Array Value,z.size=k/\(P.info? t).map (λi=>(i.zero,i.size))=some (some (.agg z),k)
theorem yC {S:Nat->Prop} {w:World}:∀ {cs:List CD} {us:List Value},bE S w cs us->us.length=cs.length/\∀ u∈us,u.oneCell'=true
 | [],us,h=>by cases us<;>simp_all[bE]
 | c::cs,[],h=>by simp[bE]at h
 | c::cs,u::us,h=>by
  obtain⟨h1,h2⟩:=h
  obtain⟨e,g⟩:=yC h2
  exact⟨by simp[e],λx Z=>by
   rcases mem_cons.1 Z with rfl | Z
   ·exact h1.one
   ·exact g x Z⟩
theorem kx {n:Nat} (h:n<=100000):n*48<=140737488351232:=Nat.le_trans (Nat.mul_le_mul_right 48 h) dz
theorem BZ {n:Nat} (h:n<=100000):n*16<=140737488351232:=Nat.le_trans (Nat.mul_le_mul_right 16 h) dz
theorem iW {α:Type} {o:Oper} {a:Act} {w:World} {x:Operand} {t e:TypeId} {f:α->List CD} {xs ys:List α} {k:Nat} {v1 v2:Option Operand} {lo hi:Nat} (he:(xs.take hi).drop lo=ys) (h1:dA P t e k) (hf:∀ x,(f x).length=k) (hop:o.op= .slice t x v1 v2 none) (h:Rel S w (.rd (.sl (xs.map f))) (a.eval x))
 (hl:match v1 with | some q=>Rel S w (.int lo) (a.eval q) | none=>lo=0) (hh:match v2 with | some q=>Rel S w (.int hi) (a.eval q) | none=>hi=xs.length) (h2:lo<=hi) (h3:hi<=xs.length) (Z:X w):
 Does n P o a w (bG S X (.rd (.sl (ys.map f))) w):=he▸Um h1 hf hop h hl hh h2 h3 Z
theorem iX {ops:Array Oper} {Q:Exit->Act->WP} {o1 o2:Oper} {rest:List Oper} {t:TypeId} {d s k m:Nat} {cs:List CD} (hz:mz P t k)
 (l5:o1.guard=none) (hop1:o1.op= .alloc t) (OU:o1.dst=some d) (hN:d<N) (O9:o2.guard=none) (hop2:o2.op= .store t (.tmp d) (.tmp s)) (tK:o2.dst=none) (l4:d≠s)
 (he:env[m]?=some (s,.agg cs)) (hc:cs.length=k) (hS:∀ a w,St All S w0 N env X a w->S w.heap.size) (hX:∀ a w,St All S w0 N env X a w->∀ w',Keeps All w w'->X w')
 (next:∀ a w,St All S w0 N ((d,.ptr cs)::dP d env) X a w->wpListIn n.F n.d P ops Q rest a w):
 ∀ a w,St All S w0 N env X a w->wpListIn n.F n.d P ops Q (o1::o2::rest) a w:=λa w h=>by
 obtain⟨z,P3,Pc⟩:=hz
 obtain⟨hzero,hsize⟩:=zero_of_info Pc
 have hv:=h.get m he
 simp only[Rel]at hv
 obtain⟨us,hv,hr⟩:=hv
 obtain⟨hlen,Au⟩:=yC hr
 have hlt:s<a.tmps.size:=by rw[h.size];exact(h.env _ (List.mem_of_getElem? he)).1
 refine wpListIn_plain l5 λK' hK=>?_
 have OV:Does n P o1 a w λu w1=>u= .pointer (some ⟨w.heap.size,0,none⟩)/\w1=w.alloc (.cells z t):=by
  refine en ?_ ⟨rfl,rfl⟩
  simp[execOp,hop1,Instr.alloc,newVar,newRow,newObj,Sem.run_bind,hzero,Sem.run,Value.cells]
 refine OV K' Q λu w1 hu=>?_
 obtain⟨rfl,rfl⟩:=hu
 rw[OU]
 refine hK _ _ (wpListIn_plain O9 λK2 OH=>?_)
 have tM:(a.put (some d) (.pointer (some ⟨w.heap.size,0,none⟩))).eval (.tmp s)= .agg us.toArray:=by
  have:=ju a (some d) s (.pointer (some ⟨w.heap.size,0,none⟩)) (λe=>l4 (Option.some.inj e))
  show((a.put (some d) (.pointer (some ⟨w.heap.size,0,none⟩))).tmps.getD s undef)=_
  rw[this];exact hv
 have OZ:(a.put (some d) (.pointer (some ⟨w.heap.size,0,none⟩))).eval (.tmp d)= .pointer (some ⟨w.heap.size,0,none⟩):=la _ _ _ (by rw[h.size];exact hN)
 have hrun:=run_storeAt_new (P:=P) w t z us.toArray (by rw[hsize];simp[hlen,hc]) (by simp[P3,hlen,hc]) (by
  rw[Array.all_eq_true]
  intro i hi
  exact Au _ yz)
 have OW:Does n P o2 (a.put (some d) (.pointer (some ⟨w.heap.size,0,none⟩))) (w.alloc (.cells z t)) λ_ w2=>w2=w.alloc (.cells us.toArray t):=by
  refine td ?_ rfl
  rw[execOp,hop2]
  simp only[tM,OZ,Sem.run_bind,hrun]
  rfl
 refine OW K2 Q λu w2 hu=>?_
 subst hu
 rw[tK]
 refine OH _ _ ?_
 have hk:Keeps All w (w.alloc (.cells us.toArray t)):=(Keeps.refl _ _).alloc _
 exact next _ _ (h.put hN ⟨by
  simp only[Rel]
  refine⟨w.heap.size,0,us,rfl,by simp,hS _ _ h,hr.keep hk λ_ _ _=>trivial,λj u hj=>?_⟩
  unfold World.cell?
  simp only[heap_alloc_last]
  simpa using hj,hk,hX _ _ h _ hk⟩)
end
section
variable {κ:Type} [DecidableEq κ] {α:Type}
def aw (L:List (κ×α)) (k:κ):Option α:=(L.find? λp=>decide (k=p.1)).map (·.2)
def cn:List (κ×α)->κ->α->List (κ×α)
 | [],k,v=>[(k,v)]
 | p::L,k,v=>if k=p.1 then(p.1,v)::L else p::cn L k v
def gX:List (κ×α)->κ->List (κ×α)
 | [],_=>[]
 | p::L,k=>if k=p.1 then L else p::gX L k
theorem pi (k:κ):aw ([]:List (κ×α)) k=none:=rfl
theorem mg (p:κ×α) (L:List (κ×α)) (k:κ):aw (p::L) k=if k=p.1 then some p.2 else aw L k:=by
 by_cases h:k=p.1<;>simp[aw,h]
theorem k8 (L:List (κ×α)) (k k':κ) (v:α):aw (cn L k v) k'=if k'=k then some v else aw L k':=by
 induction L with
 | nil=>simp[cn,mg,pi]
 | cons p L ih=>
  simp only[cn]
  by_cases h:k=p.1
  ·subst h
   simp only[if_true,mg]
   by_cases h2:k'=p.1<;>simp[h2]
  ·simp only[if_neg h,mg,ih]
   by_cases h2:k'=p.1
   ·have:¬ k'=k:=λe=>h (e▸h2)
    simp only[h2,if_true]
    rw[if_neg]
    intro e;exact h e.symm
   ·simp[h2]
theorem lH (L:List (κ×α)) (k:κ):(aw L k).isSome=decide (k∈L.map (·.1)):=by
 induction L with
 | nil=>simp[pi]
 | cons p L ih=>
  rw[mg]
  by_cases h:k=p.1
  ·simp[h]
  ·rw[if_neg h,ih];simp[h]
theorem Gz (L:List (κ×α)) (k:κ) (v:α):(cn L k v).map (·.1)=if k∈L.map (·.1)then L.map (·.1)else L.map (·.1)++[k]:=by
 induction L with
 | nil=>simp[cn]
 | cons p L ih=>
  simp only[cn]
  by_cases h:k=p.1
  ·subst h;simp
  ·rw[if_neg h,List.map_cons,ih,List.map_cons]
   by_cases hm:k∈L.map (·.1)
   ·rw[if_pos hm,if_pos (List.mem_cons_of_mem _ hm)]
   ·rw[if_neg hm,if_neg (by rw[mem_cons];exact λh'=>h'.elim h hm),cons_append]
def gy (S:Nat->Prop) (w:World) (f:α->AV):List (κ×α)->List (κ×Value)->Prop
 | [],[]=>True
 | p::L,q::Lv=>q.1=p.1/\Rel S w (f p.2) q.2/\gy S w f L Lv
 | _,_=>False
variable {S S' T:Nat->Prop} {w w':World} {f:α->AV}
omit [DecidableEq κ]in
theorem gy.move (hk:Keeps T w w') (hs:∀ k,k<w.heap.size->S k->T k/\S' k):∀ {L:List (κ×α)} {Lv:List (κ×Value)},gy S w f L Lv->gy S' w' f L Lv
 | [],[],_=>trivial
 | _::_,_::_,h=>⟨h.1,Rel.move hk hs h.2.1,gy.move hk hs h.2.2⟩
 | [],_::_,h=>h.elim
 | _::_,[],h=>h.elim
theorem gy.look:∀ {L:List (κ×α)} {Lv:List (κ×Value)},gy S w f L Lv->∀ k,(aw L k=none/\look Lv k=none)∨ ∃ x v,aw L k=some x/\look Lv k=some v/\Rel S w (f x) v
 | [],[],_,k=>.inl ⟨rfl,rfl⟩
 | p::L,q::Lv,h,k=>by
  by_cases e:k=p.1
  ·right
   exact⟨p.2,q.2,by rw[mg,if_pos e],QO (by rw[h.1];exact e),h.2.1⟩
  ·rw[mg,if_neg e,Gb (by rw[h.1];exact e)]
   exact gy.look h.2.2 k
 | [],_::_,h,_=>h.elim
 | _::_,[],h,_=>h.elim
theorem gy.put {x:α} {v:Value} (hv:Rel S w (f x) v):∀ {L:List (κ×α)} {Lv:List (κ×Value)},gy S w f L Lv->∀ k,gy S w f (cn L k x) (put Lv k v)
 | [],[],_,k=>⟨rfl,hv,trivial⟩
 | p::L,q::Lv,h,k=>by
  simp only[cn,Go.Proofs.YtdfadihhfppjaaaGreatDoor.put,h.1]
  by_cases e:k=p.1
  ·rw[if_pos e,if_pos e];exact⟨rfl,hv,h.2.2⟩
  ·rw[if_neg e,if_neg e];exact⟨h.1,h.2.1,gy.put hv h.2.2 k⟩
 | [],_::_,h,_=>h.elim
 | _::_,[],h,_=>h.elim
omit [DecidableEq κ]in
theorem gy.length:∀ {L:List (κ×α)} {Lv:List (κ×Value)},gy S w f L Lv->Lv.length=L.length
 | [],[],_=>rfl
 | _::_,_::_,h=>by simp[gy.length h.2.2]
 | [],_::_,h=>h.elim
 | _::_,[],h=>h.elim
def OB.map (Kd:iu κ) (f:α->AV) (M:Nat) (L:List (κ×α)):OB where
 blk:=λk=>k=M
 inv:=λlo S w=>lo<=M/\∃ Lv,IsMap Kd w M Lv/\gy S w f L Lv
 mv:=λ⟨h0,Lv,h1,h2⟩ hk hb hs=>⟨h0,Lv,h1.keep hk (hb M rfl),h2.move hk hs⟩
 lt:=λ⟨h0,Lv,h1,_⟩ k hk=>by subst hk;exact⟨h0,h1.lt⟩
def OB.set (Kd:iu κ) (M:Nat) (xs:List κ):OB:=OB.map Kd (λb:Bool=>.bool b) M (xs.map λx=>(x,true))
theorem Rh (xs:List κ) (k:κ):aw (xs.map λx=>(x,true)) k=if k∈xs then some true else none:=by
 induction xs with
 | nil=>simp[pi]
 | cons x xs ih=>
  rw[List.map_cons,mg]
  by_cases h:k=x
  ·simp[h]
  ·rw[if_neg h,ih];simp[h]
theorem GC (xs:List κ) (k:κ):cn (xs.map λx=>(x,true)) k true=(cX xs k).map λx=>(x,true):=by
 unfold cX
 induction xs with
 | nil=>simp[cn]
 | cons x xs ih=>
  simp only[List.map_cons,cn]
  by_cases h:k=x
  ·subst h;simp
  ·rw[if_neg h,ih]
   by_cases hm:k∈xs
   ·rw[if_pos hm,if_pos (List.mem_cons_of_mem _ hm),List.map_cons]
   ·rw[if_neg hm,if_neg (by rw[mem_cons];exact λh'=>h'.elim h hm),cons_append,List.map_cons]
end
def oB (P:Program) (E:TypeId) (av:AV):Prop:=∃ z,(∀ w,(zeroValue E).run P w= .ok z w)/\∀ S w,Rel S w av z
def j8 (P:Program) (t K E:TypeId) (d:TypeDesc):Prop:=P.underlying t=some (.map K E)/\P.underlying K=some d
section
variable {n:Rn} {N:Nat} {P:Program} {J:WP} {S:Nat->Prop} {O:List OB} {w0:World} {env:List (Nat×AV)} {Q:Exit->Act->WP}
variable {κ:Type} [DecidableEq κ] {α:Type} {Kd:iu κ} {f:α->AV} {M:Nat} {L:List (κ×α)}
variable {o:Oper} {a:Act} {w:World} {x y z:Operand} {t K E:TypeId} {S':Nat->Prop}
variable {X:WP}
theorem BC [Inhabited α] (hT:j8 P t K E Kd.kind) (hz:oB P E (f default)) (k:κ) (hop:o.op= .lookup t x y false) (hi:∃ lo,(OB.map Kd f M L).inv lo S w) (h1:Rel S' w (.lit (.map (some M))) (a.eval x)) (h2:Rel S' w (.lit (Kd.kv k)) (a.eval y)) (Z:X w):
 Does n P o a w (bG S X (f ((aw L k).getD default)) w):=by
 obtain⟨lo,h0,Lv,hm,hr⟩:=hi
 obtain⟨z,f9,oa⟩:=hz
 have hrun:=Iy (z:=z) hT.1 hT.2 f9 k false hm
 refine cN (v:=(look Lv k).getD z) ?_ ?_ Z
 ·rw[execOp,hop]
  simp only[h1.lit,h2.lit,Sem.run_bind,hrun]
  rfl
 ·rcases hr.look k with⟨e1,e2⟩ | ⟨x',v,e1,e2,e3⟩
  ·rw[e1,e2];exact oa _ _
  ·rw[e1,e2];exact e3
theorem mn [Inhabited α] (hT:j8 P t K E Kd.kind) (hz:oB P E (f default)) (k:κ) (hop:o.op= .lookup t x y true) (hi:∃ lo,(OB.map Kd f M L).inv lo S w) (h1:Rel S' w (.lit (.map (some M))) (a.eval x)) (h2:Rel S' w (.lit (Kd.kv k)) (a.eval y)) (Z:X w):
 Does n P o a w (bG S X (.bF [f ((aw L k).getD default),.bool (aw L k).isSome]) w):=by
 obtain⟨lo,h0,Lv,hm,hr⟩:=hi
 obtain⟨z,f9,oa⟩:=hz
 have hrun:=Iy (z:=z) hT.1 hT.2 f9 k true hm
 refine cN (v:=.tuple #[(look Lv k).getD z,.bool (look Lv k).isSome]) ?_ ?_ Z
 ·rw[execOp,hop]
  simp only[h1.lit,h2.lit,Sem.run_bind,hrun]
  rfl
 ·simp only[Rel,bi]
  refine⟨_,rfl,_,_,rfl,?_,_,_,rfl,?_,rfl⟩
  ·rcases hr.look k with⟨e1,e2⟩ | ⟨x',v,e1,e2,e3⟩
   ·rw[e1,e2];exact oa _ _
   ·rw[e1,e2];exact e3
  ·have:(look Lv k).isSome=(aw L k).isSome:=by
    rcases hr.look k with⟨e1,e2⟩ | ⟨x',v,e1,e2,e3⟩<;>rw[e1,e2]<;>rfl
   rw[this]
   exact .lit _ True.intro
theorem jL {xs:List κ} (hT:j8 P t K E Kd.kind) (hz:oB P E (.bool false)) (k:κ) {hd:Decidable (k∈xs)} (hop:o.op= .lookup t x y false) (hi:∃ lo,(OB.set Kd M xs).inv lo S w) (h1:Rel S' w (.lit (.map (some M))) (a.eval x)) (h2:Rel S' w (.lit (Kd.kv k)) (a.eval y)) (Z:X w):
 Does n P o a w (bG S X (.bool (@decide (k∈xs) hd)) w):=by
 have:=BC (n:=n) hT hz k hop hi h1 h2 Z
 rw[Rh]at this
 by_cases h:k∈xs<;>simpa [h]using this
theorem Ue (hT:P.underlying t=some (.map K E)) (hop:o.op= .call { callee:=.builtin .len,args:= #[x],argTypes:= #[t] }) (hi:∃ lo,(OB.map Kd f M L).inv lo S w) (h1:Rel S' w (.lit (.map (some M))) (a.eval x)) (Z:X w):
 Does n P o a w (bG S X (.int ((L.length:Nat):Int)) w):=by
 obtain⟨lo,h0,Lv,hm,hr⟩:=hi
 have hrun:=U0 (P:=P) hT o.type hm
 refine cN (v:=.int .i64 (L.length:Int)) ?_ (Rel.aH _) Z
 rw[hr.length]at hrun
 simp[execOp,hop,resolve,invoke,builtin,h1.lit,hrun,Result.andThen]
theorem Ug {xs:List κ} (hT:P.underlying t=some (.map K E)) (hop:o.op= .call { callee:=.builtin .len,args:= #[x],argTypes:= #[t] }) (hi:∃ lo,(OB.set Kd M xs).inv lo S w) (h1:Rel S' w (.lit (.map (some M))) (a.eval x)) (Z:X w):
 Does n P o a w (bG S X (.int ((xs.length:Nat):Int)) w):=by
 have:=Ue (n:=n) hT hop hi h1 Z
 rwa [List.length_map]at this
theorem pW (hT:j8 P t K E Kd.kind) (V:aR J) (hJ0:J w0) (k:κ) (v:α) (hop:o.op= .mapUpdate t x y z∨o.op= .insert t x y z) (hk0:Keeps All w0 w) (Z:XO J S w0.heap.size (OB.map Kd f M L::O) w)
 (h1:Rel S' w (.lit (.map (some M))) (a.eval x)) (h2:Rel S' w (.lit (Kd.kv k)) (a.eval y)) (h3:Rel (SO S (OB.map Kd f M L::O)) w (f v) (a.eval z)):
 Does n P o a w λ_ w'=>∃ _:Unit,dc J S w0 (OB.map Kd f M L::O) w (OB.map Kd f M (cn L k v)::O) w':=by
 obtain⟨h0,Lv,hm,hr⟩:=Z.2.1 (OB.map Kd f M L) yz
 obtain⟨w',hrun,hm',hk⟩:=Va (P:=P) hT.1 hT.2 k (a.eval z) hm
 have hk':Keeps (λb=>¬ (OB.map Kd f M L).blk b) w w':=hk.sub λb _ hb=>hb
 have hsub:∀ b,b<w.heap.size->SO S (OB.map Kd f M L::O) b->(¬ (OB.map Kd f M L).blk b)/\SO S (OB.map Kd f M (cn L k v)::O) b:=λb _ hs=>⟨hs.2 (OB.map Kd f M L) yz,hs.1,λp hp=>by
  rcases mem_cons.1 hp with rfl | hp
  ·exact hs.2 (OB.map Kd f M L) yz
  ·exact hs.2 p (List.mem_cons_of_mem _ hp)⟩
 refine td (w':=w') ?_ ⟨(),pu V hJ0 hk0 Z hk' (λb hb=>.inl hb) ⟨h0,_,hm',(hr.move hk' hsub).put (Rel.move hk' hsub h3) k⟩⟩
 rcases hop with hop | hop<;>
 ·rw[execOp,hop]
  simp only[h1.lit,h2.lit,Sem.run_bind,hrun]
  rfl
theorem L0 {xs:List κ} (hT:j8 P t K E Kd.kind) (V:aR J) (hJ0:J w0) (k:κ) (hop:o.op= .mapUpdate t x y z∨o.op= .insert t x y z) (hk0:Keeps All w0 w) (Z:XO J S w0.heap.size (OB.set Kd M xs::O) w)
 (h1:Rel S' w (.lit (.map (some M))) (a.eval x)) (h2:Rel S' w (.lit (Kd.kv k)) (a.eval y)) (h3:Rel (SO S (OB.set Kd M xs::O)) w (.bool true) (a.eval z)):
 Does n P o a w λ_ w'=>∃ _:Unit,dc J S w0 (OB.set Kd M xs::O) w (OB.set Kd M (cX xs k)::O) w':=by
 have:=pW (n:=n) hT V hJ0 k true hop hk0 Z h1 h2 h3
 rw[GC]at this
 exact this
theorem B4 {ops:Array Oper} {rest:List Oper} (hT:j8 P t K E Kd.kind) (V:aR J) (hJ0:J w0) (k:κ) (v:α) (hg:o.guard=none) (hd:o.dst=none) (hop:o.op= .mapUpdate t x y z∨o.op= .insert t x y z)
 (h1:∀ a w,So J S w0 N (OB.map Kd f M L::O) env a w->Rel (SO S (OB.map Kd f M L::O)) w (.lit (.map (some M))) (a.eval x)/\Rel (SO S (OB.map Kd f M L::O)) w (.lit (Kd.kv k)) (a.eval y)/\Rel (SO S (OB.map Kd f M L::O)) w (f v) (a.eval z))
 (next:∀ a w,So J S w0 N (OB.map Kd f M (cn L k v)::O) env a w->wpListIn n.F n.d P ops Q rest a w):
 ∀ a w,So J S w0 N (OB.map Kd f M L::O) env a w->wpListIn n.F n.d P ops Q (o::rest) a w:=
 qU (O2:=λ_:Unit=>_) hg hd (λa w h=>by
  obtain⟨g1,g2,g3⟩:=h1 a w h
  exact pW hT V hJ0 k v hop h.keep h.x g1 g2 g3) λ_=>next
theorem sz {ops:Array Oper} {rest:List Oper} {xs:List κ} (hT:j8 P t K E Kd.kind) (V:aR J) (hJ0:J w0) (k:κ) (hg:o.guard=none) (hd:o.dst=none) (hop:o.op= .mapUpdate t x y z∨o.op= .insert t x y z)
 (h1:∀ a w,So J S w0 N (OB.set Kd M xs::O) env a w->Rel (SO S (OB.set Kd M xs::O)) w (.lit (.map (some M))) (a.eval x)/\Rel (SO S (OB.set Kd M xs::O)) w (.lit (Kd.kv k)) (a.eval y)/\Rel (SO S (OB.set Kd M xs::O)) w (.bool true) (a.eval z))
 (next:∀ a w,So J S w0 N (OB.set Kd M (cX xs k)::O) env a w->wpListIn n.F n.d P ops Q rest a w):
 ∀ a w,So J S w0 N (OB.set Kd M xs::O) env a w->wpListIn n.F n.d P ops Q (o::rest) a w:=
 B4 hT V hJ0 k true hg hd hop h1 (by rw[GC];exact next)
theorem qR {ops:Array Oper} {rest:List Oper} {d:Nat} (Kd:iu κ) (f:α->AV) (V:aR J) (hg:o.guard=none) (hop:o.op= .makeMap t none) (hd:o.dst=some d) (hN:d<N)
 (next:∀ M a w,St All (SO S (OB.map Kd f M []::O)) w0 N ((d,.lit (.map (some M)))::dP d env) (XO J S w0.heap.size (OB.map Kd f M []::O)) a w->wpListIn n.F n.d P ops Q rest a w):
 ∀ a w,So J S w0 N O env a w->wpListIn n.F n.d P ops Q (o::rest) a w:=by
 refine kK (O2:=λM=>OB.map Kd f M []::O) (av:=λM=>.lit (.map (some M))) hg hd hN (λa w h=>?_) next
 have hk:Keeps All w (w.alloc (.map #[] 0)):=(Keeps.refl _ _).alloc _
 refine en (v:=.map (some w.heap.size)) (w':=w.alloc (.map #[] 0)) ?_ ⟨w.heap.size,lh V h.keep h.x hk (λb hb=>Nat.le_of_eq hb.symm) ⟨h.keep.size,[],IsMap.new w,trivial⟩,Rel.aH _⟩
 simp[execOp,hop,Instr.makeMap,newObj,Sem.run]
theorem qS {ops:Array Oper} {rest:List Oper} {d:Nat} (Kd:iu κ) (V:aR J) (hg:o.guard=none) (hop:o.op= .makeMap t none) (hd:o.dst=some d) (hN:d<N)
 (next:∀ M a w,St All (SO S (OB.set Kd M []::O)) w0 N ((d,.lit (.map (some M)))::dP d env) (XO J S w0.heap.size (OB.set Kd M []::O)) a w->wpListIn n.F n.d P ops Q rest a w):
 ∀ a w,So J S w0 N O env a w->wpListIn n.F n.d P ops Q (o::rest) a w:=
 qR Kd (λb:Bool=>.bool b) V hg hop hd hN next
end

def Has (Os:List OB) (S:Nat->Prop) (w:World):Prop:=∀ o∈Os,∃ lo,o.inv lo S w
theorem b8 {S:Nat->Prop} {w:World}:Has [] S w:=λ_ h=>by cases h
theorem dJ {Os:List OB} {S:Nat->Prop} {w:World} {o:OB} (h:∃ lo,o.inv lo S w) (k:Has Os S w):Has (o::Os) S w:=λp hp=>by
 rcases mem_cons.1 hp with rfl | hp
 ·exact h
 ·exact k p hp
theorem wE {Os Ps:List OB} {S:Nat->Prop} {w:World} (h:Has Os S w) (k:Has Ps S w):Has (Os++Ps) S w:=λp hp=>(mem_append.1 hp).elim (h p) (k p)

def fc {ι:Type} (P:Program) (J:WP) (f:FuncId) (Hs:List OB) (args:List AV) (O:List OB) (res:ι->AV) (O':ι->List OB):Prop:=
 ∀(S:Nat->Prop) (w0:World) (R:List OB) (w:World) (vs:List Value),(∀ b,w0.heap.size<=b->S b)->J w0->Has Hs S w0->Keeps All w0 w->XO J S w0.heap.size (O++R) w->bi (SO S (O++R)) w args vs->
  Calls P f vs.toArray w λe w'=>∃ i v,e= .returned v/\Rel (SO S (O' i++R)) w' (res i) v/\Keeps All w0 w'/\XO J S w0.heap.size (O' i++R) w'
section
variable {n:Rn} {N:Nat} {P:Program} {J:WP} {S:Nat->Prop} {O:List OB} {w0:World} {env:List (Nat×AV)} {Q:Exit->Act->WP} {ι:Type}
variable {o:Oper} {a:Act} {w:World}
def OB.was (B:AV->Value->Prop):OB where
 blk:=λ_=>False
 inv:=λ_ S w=>∀ av v,B av v->Rel S w av v
 mv:=λh hk _ hs av v hb=>Rel.move hk hs (h av v hb)
 lt:=λ_ _ h=>h.elim
theorem qP {B:AV->Value->Prop} {R:List OB} {b:Nat}:SO S (O++OB.was B::R) b↔SO S (O++R) b:=by
 constructor
 ·exact λh=>⟨h.1,λp hp=>h.2 p (by rcases mem_append.1 hp with hp | hp<;>simp[hp])⟩
 ·exact λh=>⟨h.1,λp hp=>by
   rcases mem_append.1 hp with hp | hp
   ·exact h.2 p (by simp[hp])
   ·rcases mem_cons.1 hp with rfl | hp
    ·exact λe=>e
    ·exact h.2 p (by simp[hp])⟩
theorem uZ {B:AV->Value->Prop} {R:List OB} (h:XO J S w0.heap.size (O++R) w) (hB:∀ av v,B av v->Rel (SO S (O++R)) w av v):XO J S w0.heap.size (O++OB.was B::R) w:=by
 have hp:(OB.was B::(O++R)).Perm (O++OB.was B::R):=List.perm_middle.symm
 refine fR hp ⟨h.1,λp hm=>?_,.cons (λ_ _ _ e=>e.elim) h.2.2⟩
 have hsub:∀ k,SO S (O++R) k->SO S (OB.was B::(O++R)) k:=λk hs=>(qP.2 hs).perm hp.symm
 rcases mem_cons.1 hm with rfl | hm
 ·exact λav v hb=>(hB av v hb).sub λk _=>hsub k
 ·exact OB.sub (h.2.1 p hm) λk _=>hsub k
theorem q9 {B:AV->Value->Prop} {R:List OB} (h:XO J S w0.heap.size (O++OB.was B::R) w):XO J S w0.heap.size (O++R) w/\∀ av v,B av v->Rel (SO S (O++R)) w av v:=by
 have hp:(O++OB.was B::R).Perm (OB.was B::(O++R)):=List.perm_middle
 have h':=fR hp h
 have hsub:∀ k,SO S (OB.was B::(O++R)) k->SO S (O++R) k:=λk hs=>hs.drop
 exact⟨⟨h'.1,λp hm=>OB.sub (h'.2.1 p (by simp[hm])) λk _=>hsub k,(List.pairwise_cons.1 h'.2.2).2⟩,
  λav v hb=>(h'.2.1 (OB.was B) yz av v hb).sub λk _=>hsub k⟩
theorem DW {R:List OB} {f:FuncId} {args:List Operand} {callee:Operand} {ts:Array TypeId} {am:List AV} {res:ι->AV} {O':ι->List OB} {cap:List Value} {eD:List AV} {Hs:List OB} (hF:fc P J f Hs (am++eD) O res O') (h1:dy P f) (hop:o.op= .call { callee:=.value callee,args:=args.toArray,argTypes:=ts })
 (hS:∀ b,w0.heap.size<=b->S b) (hJ0:J w0) (hH:Has Hs S w0) (hk:Keeps All w0 w) (Z:XO J S w0.heap.size (O++R) w) (hc:a.eval callee= .func (.func f) #[] cap.toArray) (ha:bi (SO S (O++R)) w am (args.map a.eval)) (hcap:bi (SO S (O++R)) w eD cap):
 Does n P o a w λv w'=>∃ i,dc J S w0 (O++R) w (O' i++R) w'/\Rel (SO S (O' i++R)) w' (res i) v:=by
 have OL:∀ {l m:List AV} {us vs:List Value},bi (SO S (O++R)) w l us->bi (SO S (O++R)) w m vs->bi (SO S (O++R)) w (l++m) (us++vs):=by
  intro l
  induction l with
  | nil=>intro m us vs h1 h2;simp only[bi]at h1;subst h1;exact h2
  | cons x l ih=>intro m us vs h1 h2;simp only[bi]at h1;obtain⟨u,us',rfl,h3,h4⟩:=h1;simp only[cons_append,bi];exact⟨u,_,rfl,h3,ih h4 h2⟩
 let B:AV->Value->Prop:=λav v=>Rel (SO S (O++R)) w av v
 have hx2:=uZ (B:=B) Z λ_ _ h=>h
 have hsub:∀ k,k<w.heap.size->SO S (O++R) k->All k/\SO S (O++OB.was B::R) k:=λk _ h=>⟨trivial,qP.2 h⟩
 have hcall:=hF S w0 (OB.was B::R) w _ hS hJ0 hH hk hx2 (bi.move (Keeps.refl All w) hsub (OL ha hcap))
 refine zf (f:=f) (args:=(args.map a.eval++cap).toArray) (w1:=w) ?_ (Calls.mono hcall λe w' ⟨i,v,he,hv,hk',hx'⟩=>?_)
 ·have h2:=h1 ((args.map a.eval++cap).toArray) w
  simp only[execOp,hop,resolve,hc,Deferred.ofValue,Sem.run_bind,Sem.run_pure,Result.andThen_ok,invoke]
  rw[<-h2]
  congr 2
  simp
 ·obtain⟨g1,g2⟩:=q9 hx'
  exact⟨v,he,i,⟨hk',g1,g2⟩,hv.sub λk _=>qP.1⟩
theorem pV {R:List OB} {f:FuncId} {args:List Operand} {ts:Array TypeId} {am:List AV} {res:ι->AV} {O':ι->List OB} {Hs:List OB} (hF:fc P J f Hs am O res O') (h1:dy P f) (hop:o.op= .call { callee:=.value (.func f),args:=args.toArray,argTypes:=ts })
 (hS:∀ b,w0.heap.size<=b->S b) (hJ0:J w0) (hH:Has Hs S w0) (hk:Keeps All w0 w) (Z:XO J S w0.heap.size (O++R) w) (ha:bi (SO S (O++R)) w am (args.map a.eval)):
 Does n P o a w λv w'=>∃ i,dc J S w0 (O++R) w (O' i++R) w'/\Rel (SO S (O' i++R)) w' (res i) v:=
 DW (cap:=[]) (eD:=[]) (by rw[List.append_nil];exact hF) h1 hop hS hJ0 hH hk Z rfl ha (by simp only[bi])
theorem iI {ops:Array Oper} {rest:List Oper} {R:List OB} {d:Nat} {f:FuncId} {args:List Operand} {ts:Array TypeId} {am:List AV} {res:ι->AV} {O':ι->List OB} {Hs:List OB} (hF:fc P J f Hs am O res O') (h1:dy P f) (hg:o.guard=none) (hop:o.op= .call { callee:=.value (.func f),args:=args.toArray,argTypes:=ts }) (hd:o.dst=some d) (hN:d<N)
 (hS:∀ b,w0.heap.size<=b->S b) (hJ0:J w0) (hH:Has Hs S w0) (ha:∀ a w,So J S w0 N (O++R) env a w->bi (SO S (O++R)) w am (args.map a.eval))
 (next:∀ i a w,So J S w0 N (O' i++R) ((d,res i)::dP d env) a w->wpListIn n.F n.d P ops Q rest a w):
 ∀ a w,So J S w0 N (O++R) env a w->wpListIn n.F n.d P ops Q (o::rest) a w:=
 kK (O2:=λi=>O' i++R) (av:=res) hg hd hN (λa w h=>pV hF h1 hop hS hJ0 hH h.keep h.x (ha a w h)) next
theorem N1 {f:FuncId} {fn:Func} {c:Code} {args:List AV} {res:ι->AV} {O':ι->List OB} (hf:P.funcs[f]?=some fn) (hb:fn.body=some c) (hN:fn.ntmps=N) (hl:args.length<=N)
 {Hs:List OB} (h:∀(S:Nat->Prop) (w0:World) (R:List OB),(∀ b,w0.heap.size<=b->S b)->J w0->Has Hs S w0->Tr 5 P (So J S w0 N (O++R) (jq 0 args)) c (bodyPost P fn λe w'=>∃ i v,e= .returned v/\Rel (SO S (O' i++R)) w' (res i) v/\Keeps All w0 w'/\XO J S w0.heap.size (O' i++R) w')):fc P J f Hs args O res O':=by
 intro S w0 R w vs hS V hH hk Z ha
 refine(callsIn_wide (n:=5)).1 (callsIn_of_wp hf hb trivial (h S w0 R hS V hH _ _ ?_) rfl)
 have hlen:vs.length=args.length:=by
  clear h hl
  induction args generalizing vs with
  | nil=>simp only[bi]at ha;subst ha;rfl
  | cons a l ih=>simp only[bi]at ha;obtain⟨u,us',rfl,_,h2⟩:=ha;simp[ih us' h2]
 have hsz:(vs.toArray++Array.replicate (fn.ntmps-vs.toArray.size) undef).size=N:=by
  simp;omega
 refine⟨rfl,hsz,hk,Z,?_⟩
 have key:∀(args:List AV) (us pre:List Value) (i:Nat),pre.length=i->vs=pre++us->bi (SO S (O++R)) w args us->∀ p∈jq i args,p.1<N/\Rel (SO S (O++R)) w p.2 ((vs.toArray++Array.replicate (fn.ntmps-vs.toArray.size) undef).getD p.1 undef):=by
  intro args
  induction args with
  | nil=>intro us pre i _ _ _ p hp;cases hp
  | cons x l ih=>
   intro us pre i hi hv hr p hp
   simp only[bi]at hr
   obtain⟨u,us',rfl,h1,h2⟩:=hr
   rcases mem_cons.1 hp with rfl | hp
   ·have hlt:i<vs.length:=by rw[hv];simp;omega
    refine⟨oz,?_⟩
    have:(vs.toArray++Array.replicate (fn.ntmps-vs.toArray.size) undef).getD i undef=u:=by
     rw[Array.getD_eq_getD_getElem?,Array.getElem?_append_left (by simpa using hlt)]
     simp[hv,<-hi]
    rw[this];exact h1
   ·exact ih us' (pre++[u]) (i+1) (by simp[hi]) (by simp[hv]) h2 p hp
 exact key args vs [] 0 rfl rfl ha
theorem ji {f:FuncId} {fn:Func} {c:Code} {args:List AV} {res:ι->AV} {O':ι->List OB} (hf:P.funcs[f]?=some fn)
 {Hs:List OB} (h:∀(S:Nat->Prop) (w0:World) (R:List OB),(∀ b,w0.heap.size<=b->S b)->J w0->Has Hs S w0->Tr 5 P (So J S w0 N (O++R) (jq 0 args)) c (bodyPost P fn λe w'=>∃ i v,e= .returned v/\Rel (SO S (O' i++R)) w' (res i) v/\Keeps All w0 w'/\XO J S w0.heap.size (O' i++R) w')) (hb:fn.body=some c:=by exact rfl) (hN:fn.ntmps=N:=by exact rfl) (hl:args.length<=N:=by exact Nat.le_of_ble_eq_true rfl):fc P J f Hs args O res O':=N1 hf hb hN hl h
theorem AQ {fn:Func} {res:ι->AV} {O':ι->List OB} {R:List OB} (i:ι) (hr:fn.results= #[]) (h:So J S w0 N (O' i++R) env a w) (hE:AV.bF []=res i):bodyPost P fn (λe w'=>∃ i v,e= .returned v/\Rel (SO S (O' i++R)) w' (res i) v/\Keeps All w0 w'/\XO J S w0.heap.size (O' i++R) w') .ret a w:=
 ⟨h.defs,.tuple #[],by simp[results,hr,Sem.run_pure],i,_,rfl,by rw[<-hE];simp only[Rel,bi];exact⟨[],rfl,rfl⟩,h.keep,h.x⟩
theorem dx {fn:Func} {t m:Nat} {av:AV} {res:ι->AV} {O':ι->List OB} {R:List OB} (i:ι) (hr:fn.results= #[.tmp t]) (h:So J S w0 N (O' i++R) env a w) (he:env[m]?=some (t,av)) (hE:av=res i):bodyPost P fn (λe w'=>∃ i v,e= .returned v/\Rel (SO S (O' i++R)) w' (res i) v/\Keeps All w0 w'/\XO J S w0.heap.size (O' i++R) w') .ret a w:=by
 subst hE
 exact⟨h.defs,a.tmps.getD t undef,by simp[results,hr,Sem.run_pure],i,_,rfl,h.get m he,h.keep,h.x⟩
theorem QF {fn:Func} {t u m k:Nat} {a1 a2:AV} {res:ι->AV} {O':ι->List OB} {R:List OB} (i:ι) (hr:fn.results= #[.tmp t,.tmp u]) (h:So J S w0 N (O' i++R) env a w) (he:env[m]?=some (t,a1)) (k4:env[k]?=some (u,a2)) (hE:AV.bF [a1,a2]=res i):bodyPost P fn (λe w'=>∃ i v,e= .returned v/\Rel (SO S (O' i++R)) w' (res i) v/\Keeps All w0 w'/\XO J S w0.heap.size (O' i++R) w') .ret a w:=
 ⟨h.defs,.tuple #[a.tmps.getD t undef,a.tmps.getD u undef],by simp[results,hr,Sem.run_pure],i,_,rfl,by rw[<-hE];simp only[Rel,bi];exact⟨_,rfl,_,_,rfl,h.get m he,_,_,rfl,h.get k k4,rfl⟩,h.keep,h.x⟩
end
def cD (P:Program) (J:WP) (f:FuncId) (Os:List OB) (args:List AV) (res:AV):Prop:=
 ∀(S:Nat->Prop) (w:World) (vs:List Value),(∀ b,w.heap.size<=b->S b)->J w->Has Os S w->bi S w args vs->Calls P f vs.toArray w λe w'=>∃ v,e= .returned v/\Rel S w' res v/\Keeps All w w'/\J w'
section
variable {n:Rn} {N:Nat} {P:Program} {J X:WP} {S:Nat->Prop} {O Os:List OB} {w0:World} {env:List (Nat×AV)} {Q:Exit->Act->WP}
variable {o:Oper} {a:Act} {w:World} {x y z:Operand} {t e:TypeId}
theorem f7 {o:OB} (hH:Has Os S w0) (hk:Keeps All w0 w) (ho:o∈Os):∃ lo,o.inv lo S w:=by
 obtain⟨lo,h⟩:=hH o ho
 exact⟨lo,o.mv h hk (λ_ _=>trivial) λ_ _ hs=>⟨trivial,hs⟩⟩
theorem dC {o:OB} (hH:Has Os S w0) (hk:Keeps All w0 w) (Z:XO J S w0.heap.size O w) (ho:o∈Os):∃ lo,o.inv lo (SO S O) w:=by
 obtain⟨lo,h⟩:=hH o ho
 exact⟨lo,o.mv h hk (λ_ _=>trivial) λk hlt hs=>⟨trivial,hs,λp hp e=>by have:=(p.lt (Z.2.1 p hp) k e).1;omega⟩⟩
theorem aG {o:OB} {lo:Nat} (Z:XO J S lo O w) (ho:o∈O):∃ lo,o.inv lo (SO S O) w:=⟨lo,Z.2.1 o ho⟩
theorem uu {o:OB} {lo:Nat} (Z:XO J S lo O w) (ho:o∈O):∃ lo,o.inv lo S w:=⟨lo,OB.sub (Z.2.1 o ho) λ_ _ h=>h.1⟩
theorem E9 {o:OB} (hH:Has Os S w0) (hk:Keeps All w0 w) (_:XO J S w0.heap.size O w) (ho:o∈Os):∃ lo,o.inv lo S w:=f7 hH hk ho
theorem Fn.r {f:FuncId} {args:List AV} {res:AV} (h:Fn P J f args res):cD P J f [] args res:=λS w vs hS V _ ha=>h S w vs hS V ha
theorem Fn.rr {f:FuncId} {args:List AV} {res:AV} (h:Fn P J f args res):cD P J f Os args res:=λS w vs hS V _ ha=>h S w vs hS V ha
theorem N2 {f:FuncId} {fn:Func} {c:Code} {args:List AV} {res:AV} (hf:P.funcs[f]?=some fn) (hb:fn.body=some c) (hN:fn.ntmps=N) (hl:args.length<=N)
 (h:∀(S:Nat->Prop) (w0:World),(∀ b,w0.heap.size<=b->S b)->J w0->Has Os S w0->Tr 5 P (St All S w0 N (jq 0 args) J) c (bodyPost P fn λe w'=>∃ v,e= .returned v/\Rel S w' res v/\Keeps All w0 w'/\J w')):cD P J f Os args res:=by
 intro S w vs hS V hH ha
 refine(callsIn_wide (n:=5)).1 (callsIn_of_wp hf hb trivial (h S w hS V hH _ _ ?_) rfl)
 have hlen:vs.length=args.length:=by
  clear h hl
  induction args generalizing vs with
  | nil=>simp only[bi]at ha;subst ha;rfl
  | cons a l ih=>simp only[bi]at ha;obtain⟨u,us',rfl,_,h2⟩:=ha;simp[ih us' h2]
 have hsz:(vs.toArray++Array.replicate (fn.ntmps-vs.toArray.size) undef).size=N:=by
  simp;omega
 refine⟨rfl,hsz,Keeps.refl _ _,V,?_⟩
 have key:∀(args:List AV) (us pre:List Value) (i:Nat),pre.length=i->vs=pre++us->bi S w args us->∀ p∈jq i args,p.1<N/\Rel S w p.2 ((vs.toArray++Array.replicate (fn.ntmps-vs.toArray.size) undef).getD p.1 undef):=by
  intro args
  induction args with
  | nil=>intro us pre i _ _ _ p hp;cases hp
  | cons x l ih=>
   intro us pre i hi hv hr p hp
   simp only[bi]at hr
   obtain⟨u,us',rfl,h1,h2⟩:=hr
   rcases mem_cons.1 hp with rfl | hp
   ·have hlt:i<vs.length:=by rw[hv];simp;omega
    refine⟨oz,?_⟩
    have:(vs.toArray++Array.replicate (fn.ntmps-vs.toArray.size) undef).getD i undef=u:=by
     rw[Array.getD_eq_getD_getElem?,Array.getElem?_append_left (by simpa using hlt)]
     simp[hv,<-hi]
    rw[this];exact h1
   ·exact ih us' (pre++[u]) (i+1) (by simp[hi]) (by simp[hv]) h2 p hp
 exact key args vs [] 0 rfl rfl ha
theorem eV {f:FuncId} {fn:Func} {c:Code} {args:List AV} {res:AV} (hf:P.funcs[f]?=some fn)
 (h:∀(S:Nat->Prop) (w0:World),(∀ b,w0.heap.size<=b->S b)->J w0->Has Os S w0->Tr 5 P (St All S w0 N (jq 0 args) J) c (bodyPost P fn λe w'=>∃ v,e= .returned v/\Rel S w' res v/\Keeps All w0 w'/\J w')) (hb:fn.body=some c:=by exact rfl) (hN:fn.ntmps=N:=by exact rfl) (hl:args.length<=N:=by exact Nat.le_of_ble_eq_true rfl):cD P J f Os args res:=N2 hf hb hN hl h
theorem dv {f:FuncId} {args:List Operand} {ts:Array TypeId} {am:List AV} {av:AV} (hF:cD P J f Os am av) (h1:dy P f) (hop:o.op= .call { callee:=.value (.func f),args:=args.toArray,argTypes:=ts })
 (hS:∀ b,w.heap.size<=b->S b) (V:J w) (hH:Has Os S w) (ha:bi S w am (args.map a.eval)) (Z:∀ w',Keeps All w w'->X w'):Does n P o a w (bG S X av w):=by
 refine xy h1 hop ?_
 have:=hF S w _ hS V hH ha
 rw[List.map_toArray]
 exact Calls.mono this λe w' ⟨v,h1,h2,h3,_⟩=>⟨v,h1,h2,h3,Z w' h3⟩
theorem Il {l m:List AV} {us vs:List Value} (h1:bi S w l us) (h2:bi S w m vs):bi S w (l++m) (us++vs):=by
 induction l generalizing us with
 | nil=>simp only[bi]at h1;subst h1;exact h2
 | cons x l ih=>simp only[bi]at h1;obtain⟨u,us',rfl,h3,h4⟩:=h1;simp only[cons_append,bi];exact⟨u,_,rfl,h3,ih h4⟩
theorem iE {f:FuncId} {args:List Operand} {ts:Array TypeId} {am caps:List AV} {av:AV} (hF:cD P J f Os (am++caps) av) (h1:dy P f) (hop:o.op= .call { callee:=.value x,args:=args.toArray,argTypes:=ts }) (hf:Rel S w (.fn f caps) (a.eval x))
 (hS:∀ b,w.heap.size<=b->S b) (V:J w) (hH:Has Os S w) (ha:bi S w am (args.map a.eval)) (Z:∀ w',Keeps All w w'->X w'):Does n P o a w (bG S X av w):=by
 simp only[Rel]at hf
 obtain⟨us,hv,hc⟩:=hf
 refine zf (f:=f) (args:=(args.map a.eval++us).toArray) (w1:=w) ?_ (Calls.mono (hF S w _ hS V hH (Il ha hc)) λe w' ⟨v,h1,h2,h3,_⟩=>⟨v,h1,h2,h3,Z w' h3⟩)
 have h2:=h1 ((args.map a.eval++us).toArray) w
 simp only[execOp,hop,resolve,hv,Deferred.ofValue,Sem.run_bind,Sem.run_pure,Result.andThen_ok,invoke]
 rw[<-h2]
 congr 2
 simp
theorem np (f:FuncId):Rel S w (.fn f []) (a.eval (.func f)):=by
 simp only[Rel,bi];exact⟨[],rfl,rfl⟩
theorem lf {f:FuncId} {caps:List Operand} {am:List AV} (hop:o.op= .makeFunc (.func f) #[] caps.toArray) (h:bi S w am (caps.map a.eval)) (Z:X w):Does n P o a w (bG S X (.fn f am) w):=by
 refine cN (v:=.func (.func f) #[] (caps.map a.eval).toArray) ?_ (by simp only[Rel];exact⟨_,rfl,h⟩) Z
 simp[execOp,hop,Instr.makeFunc]
theorem kJ {cs:List CD} (hop:o.op= .nilCheck x) (h:Rel S w (.ptr cs) (a.eval x)) (Z:X w):Does n P o a w (bG S X (.ptr cs) w):=by
 have h':=h
 simp only[Rel]at h
 obtain⟨b,off,us,hv,_⟩:=h
 refine cN (v:=a.eval x) ?_ h' Z
 simp[execOp,hop,hv]
theorem Bw {cs:List CD} {v:Value}:Rel S w (.rd (.ptr cs)) v↔Rel S w (.ptr cs) v:=by
 simp only[Rel]
 constructor
 ·intro h
  cases h with
  | ptr b off cs vs hb hS hc hr=>
   refine⟨b,off,(List.range cs.length).map vs,rfl,hb,hS,bE.kp yz λi c u h1 h2=>?_,λj u hj=>?_⟩
   ·have hi:i<cs.length:=(List.getElem?_eq_some_iff.1 h1).1
    have:u=vs i:=by simpa [hi]using h2.symm
    subst this;exact hr i c h1
   ·have hi:j<cs.length:=by
     rcases Nat.lt_or_ge j cs.length with h | h
     ·exact h
     ·rw[List.getElem?_eq_none (by simpa using h)]at hj;cases hj
    have:u=vs j:=by simpa [hi]using hj.symm
    subst this;exact hc j hi
 ·rintro⟨b,off,us,rfl,hb,hS,hr,hc⟩
  refine .ptr b off cs (λi=>(us[i]?).getD default) hb hS (λi hi=>?_) λi c h1=>?_
  ·have hl:i<us.length:=by rw[hr.length];exact hi
   have:=hc i _ (List.getElem?_eq_getElem hl)
   rw[List.getElem?_eq_getElem hl];exact this
  ·have hl:i<us.length:=by rw[hr.length];exact(List.getElem?_eq_some_iff.1 h1).1
   rw[List.getElem?_eq_getElem hl]
   exact hr.get h1 (List.getElem?_eq_getElem hl)
theorem qH {cs ds:List CD} (h1:eu P t) (hop:o.op= .load t x) (h:Rel S w (.ptr (.ptr ds::cs)) (a.eval x)) (Z:X w):Does n P o a w (bG S X (.ptr ds) w):=
 bD (bU h1 hop h Z) λ_ _ hp=>⟨Bw.1 hp.1,hp.2⟩
theorem ld {c:CD} (hop:o.op= .box t x) (h:Rel S w (.rd c) (a.eval x)) (hS:S w.heap.size) (Z:∀ w',Keeps All w w'->X w'):Does n P o a w (bG S X (.ptr [c]) w):=by
 simp only[Rel]at h
 have hcell:(a.eval x).cells= #[a.eval x]:=by have:=h.one;revert this;cases a.eval x<;>simp[Value.cells,Value.oneCell']
 have hk:Keeps All w (w.alloc (.cells [a.eval x].toArray t)):=(Keeps.refl _ _).alloc _
 refine en (v:=.pointer (some ⟨w.heap.size,0,none⟩)) (w':=w.alloc (.cells [a.eval x].toArray t)) ?_ ⟨?_,hk,Z _ hk⟩
 ·simp[execOp,hop,Instr.box,newVar,newRow,newObj,Sem.run,hcell]
 ·simp only[Rel]
  exact⟨w.heap.size,0,[a.eval x],rfl,by simp,hS,⟨h.keep hk λ_ _ _=>trivial,trivial⟩,λj u hj=>nJ j u hj⟩
theorem xx {cs:List CD} (hop:o.op= .box t x) (h:Rel S w (.ptr cs) (a.eval x)) (hS:S w.heap.size) (Z:∀ w',Keeps All w w'->X w'):Does n P o a w (bG S X (.ptr [.ptr cs]) w):=
 ld hop (Bw.2 h) hS Z
theorem uM {α:Type} {f:α->List CD} {xs:List α} {u':TypeId} {ops:Array Oper} {rest:List Oper} {d:Nat} (ht:P.underlying t=some (.slice e)) (hg:o.guard=none) (hop:o.op= .binOp .eql t x (.const (.slice none 0 0)) u') (hd:o.dst=some d) (hN:d<N)
 (Z:∀ a w,St All S w0 N env X a w->Rel S w (.rd (.sl (xs.map f))) (a.eval x))
 (next:∀ g:Bool,(g=true->xs=[])->∀ a w,St All S w0 N ((d,.bool g)::dP d env) X a w->wpListIn n.F n.d P ops Q rest a w):
 ∀ a w,St All S w0 N env X a w->wpListIn n.F n.d P ops Q (o::rest) a w:=λa w h=>by
 refine wpListIn_plain hg λK' hK=>?_
 have h1:=Z a w h
 simp only[Rel]at h1
 obtain⟨ad,cap,hv,_,_⟩:=h1.form
 have oT:ad.isNone=true->xs=[]:=λhn=>by
  cases ad with
  | some _=>cases hn
  | none=>
   rw[hv]at h1
   rcases Nat.eq_zero_or_pos xs.length with h0 | h0
   ·exact List.eq_nil_of_length_eq_zero h0
   ·obtain⟨_,_,e,_⟩:=h1.at (List.getElem?_eq_getElem (l:=xs.map f) (i:=0) (by simpa using h0))
    cases e
 have qh:Does n P o a w λv w'=>v= .bool ad.isNone/\w'=w:=by
  refine en ?_ ⟨rfl,rfl⟩
  rw[execOp,hop]
  have nX:a.eval (.const (.slice none 0 0))= .slice none 0 0:=rfl
  have he:(Op.equal t (.slice ad (xs.map f).length cap) (.slice none 0 0)).run P w= .ok ad.isNone w:=by
   unfold Op.equal Op.maxDepth
   show(Op.equalIn (9999+1) t _ _).run P w=_
   unfold Op.equalIn
   cases ad<;>simp[Sem.run_bind,run_underlying ht]
  simp only[hv,nX,Sem.run_bind,eqGuard,binOp]
  rw[show(Sem.run P (if(!true)=true then pure ()else pure ()) w)= .ok () w from rfl,Result.andThen_ok,he]
  rfl
 refine qh K' Q λu w2 hu=>?_
 obtain⟨rfl,rfl⟩:=hu
 rw[hd]
 exact hK _ _ (next _ oT _ _ (h.put hN ⟨Rel.aH _,Keeps.refl _ _,h.x⟩))
end
end Go.Proofs.YtdfadihhfppjaaaGreatDoor
