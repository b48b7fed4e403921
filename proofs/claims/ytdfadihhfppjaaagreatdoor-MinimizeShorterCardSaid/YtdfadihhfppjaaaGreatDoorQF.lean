/-
  THE ENGINE: a variable of its own that is laid and given its value at once.
  THE ENGINE: maps and variables of the call's own; calls that write what the caller owns; calls of function values.
  THE ENGINE: functions that read what the caller owns; function values; variables of the call's own; drawn regions in which what is owned turns.
-/
import Derived.Test.YtdfadihhfppjaaaGreatDoorQE
import Derived.Deep.WholeRow
namespace Go.Proofs.YtdfadihhfppjaaaGreatDoor
open Go.RowKit
section
variable {n:Rn} {N:Nat} {P:Program} {S:Nat→Prop} {w0:World} {env:List (Nat×AV)} {X:WP}
def Zup (P:Program) (t:TypeId) (k:Nat):Prop:=∃ z:Array Value,z.size=k∧(P.info? t).map (fun i=>(i.zero,i.size))=some (some (.agg z),k)
theorem ZkM {S:Nat→Prop} {w:World}:∀ {cs:List CD} {us:List Value},RdL S w cs us→us.length=cs.length∧∀ u∈us,u.oneCell'=true
 | [],us,h=>by cases us<;>simp_all[RdL]
 | c::cs,[],h=>by simp[RdL]at h
 | c::cs,u::us,h=>by
  obtain⟨h1,h2⟩:=h
  obtain⟨e,g⟩:=ZkM h2
  exact⟨by simp[e],fun x hx=>by
   rcases List.mem_cons.1 hx with rfl | hx
   · exact h1.one
   · exact g x hx⟩
theorem ZjO {n:Nat} (h:n≤100000):n*48≤140737488351232:=Nat.le_trans (Nat.mul_le_mul_right 48 h) dz
theorem ZvO {n:Nat} (h:n≤100000):n*16≤140737488351232:=Nat.le_trans (Nat.mul_le_mul_right 16 h) dz
theorem Zam {α:Type} {o:Oper} {a:Act} {w:World} {x:Operand} {t e:TypeId} {f:α→List CD} {xs ys:List α} {k:Nat} {v1 v2:Option Operand} {lo hi:Nat} (he:(xs.take hi).drop lo=ys) (h1:Yp P t e k) (hf:∀ x,(f x).length=k) (hop:o.op= .slice t x v1 v2 none) (h:Rel S w (.rd (.sl (xs.map f))) (a.eval x))
 (hl:match v1 with | some q=>Rel S w (.int lo) (a.eval q) | none=>lo=0) (hh:match v2 with | some q=>Rel S w (.int hi) (a.eval q) | none=>hi=xs.length) (h2:lo≤hi) (h3:hi≤xs.length) (hx:X w):
 Does n P o a w (YC S X (.rd (.sl (ys.map f))) w):=he▸ZrK h1 hf hop h hl hh h2 h3 hx
theorem Qk {ops:Array Oper} {Q:Exit→Act→WP} {o1 o2:Oper} {rest:List Oper} {t:TypeId} {d s k m:Nat} {cs:List CD} (hz:Zup P t k)
 (hg1:o1.guard=none) (hop1:o1.op= .alloc t) (hd1:o1.dst=some d) (hN:d<N) (hg2:o2.guard=none) (hop2:o2.op= .store t (.tmp d) (.tmp s)) (hd2:o2.dst=none) (hds:d≠s)
 (he:env[m]?=some (s,.agg cs)) (hc:cs.length=k) (hS:∀ a w,St All S w0 N env X a w→S w.heap.size) (hX:∀ a w,St All S w0 N env X a w→∀ w',Keeps All w w'→X w')
 (next:∀ a w,St All S w0 N ((d,.ptr cs)::Yn d env) X a w→wpListIn n.F n.d P ops Q rest a w):
 ∀ a w,St All S w0 N env X a w→wpListIn n.F n.d P ops Q (o1::o2::rest) a w:=fun a w h=>by
 obtain⟨z,hzk,hinf⟩:=hz
 obtain⟨hzero,hsize⟩:=zero_of_info hinf
 have hv:=h.get m he
 simp only[Rel]at hv
 obtain⟨us,hv,hr⟩:=hv
 obtain⟨hlen,hone⟩:=ZkM hr
 have hlt:s<a.tmps.size:=by rw[h.size];exact(h.env _ (List.mem_of_getElem? he)).1
 refine wpListIn_plain hg1 fun K' hK=>?_
 have hd1':Does n P o1 a w fun u w1=>u= .pointer (some ⟨w.heap.size,0,none⟩)∧w1=w.alloc (.cells z t):=by
  refine ZS ?_ ⟨rfl,rfl⟩
  simp[execOp,hop1,Instr.alloc,newVar,newRow,newObj,Sem.run_bind,hzero,Sem.run,Value.cells]
 refine hd1' K' Q fun u w1 hu=>?_
 obtain⟨rfl,rfl⟩:=hu
 rw[hd1]
 refine hK _ _ ?_
 refine wpListIn_plain hg2 fun K2 hK2=>?_
 have hes:(a.put (some d) (.pointer (some ⟨w.heap.size,0,none⟩))).eval (.tmp s)= .agg us.toArray:=by
  have:=YB a (some d) s (.pointer (some ⟨w.heap.size,0,none⟩)) (fun e=>hds (Option.some.inj e))
  show((a.put (some d) (.pointer (some ⟨w.heap.size,0,none⟩))).tmps.getD s undef)=_
  rw[this];exact hv
 have hed:(a.put (some d) (.pointer (some ⟨w.heap.size,0,none⟩))).eval (.tmp d)= .pointer (some ⟨w.heap.size,0,none⟩):=XM _ _ _ (by rw[h.size];exact hN)
 have hrun:=run_storeAt_new (P:=P) w t z us.toArray (by rw[hsize];simp[hlen,hc]) (by simp[hzk,hlen,hc]) (by
  rw[Array.all_eq_true]
  intro i hi
  exact hone _ yz)
 have hd2':Does n P o2 (a.put (some d) (.pointer (some ⟨w.heap.size,0,none⟩))) (w.alloc (.cells z t)) fun _ w2=>w2=w.alloc (.cells us.toArray t):=by
  refine ZbG ?_ rfl
  rw[execOp,hop2]
  simp only[hes,hed,Sem.run_bind,hrun]
  rfl
 refine hd2' K2 Q fun u w2 hu=>?_
 subst hu
 rw[hd2]
 refine hK2 _ _ ?_
 have hk:Keeps All w (w.alloc (.cells us.toArray t)):=(Keeps.refl _ _).alloc _
 exact next _ _ (h.put hN ⟨by
  simp only[Rel]
  refine⟨w.heap.size,0,us,rfl,by simp,hS _ _ h,hr.keep hk fun _ _ _=>trivial,fun j u hj=>?_⟩
  unfold World.cell?
  simp only[heap_alloc_last]
  simpa using hj,hk,hX _ _ h _ hk⟩)
end
section
variable {κ:Type} [DecidableEq κ] {α:Type}
def Zy (L:List (κ×α)) (k:κ):Option α:=(L.find? fun p=>decide (k=p.1)).map (·.2)
def XK:List (κ×α)→κ→α→List (κ×α)
 | [],k,v=>[(k,v)]
 | p::L,k,v=>if k=p.1 then(p.1,v)::L else p::XK L k v
def ZeP:List (κ×α)→κ→List (κ×α)
 | [],_=>[]
 | p::L,k=>if k=p.1 then L else p::ZeP L k
theorem Zaq (k:κ):Zy ([]:List (κ×α)) k=none:=rfl
theorem XF (p:κ×α) (L:List (κ×α)) (k:κ):Zy (p::L) k=if k=p.1 then some p.2 else Zy L k:=by
 by_cases h:k=p.1<;>simp[Zy,h]
theorem QO (L:List (κ×α)) (k k':κ) (v:α):Zy (XK L k v) k'=if k'=k then some v else Zy L k':=by
 induction L with
 | nil=>simp[XK,XF,Zaq]
 | cons p L ih=>
  simp only[XK]
  by_cases h:k=p.1
  · subst h
    simp only[if_true,XF]
    by_cases h2:k'=p.1<;>simp[h2]
  · simp only[if_neg h,XF,ih]
    by_cases h2:k'=p.1
    · have:¬ k'=k:=fun e=>h (e▸h2)
      simp only[h2,if_true]
      rw[if_neg]
      intro e;exact h e.symm
    · simp[h2]
theorem Y1 (L:List (κ×α)) (k:κ):(Zy L k).isSome=decide (k∈L.map (·.1)):=by
 induction L with
 | nil=>simp[Zaq]
 | cons p L ih=>
  rw[XF]
  by_cases h:k=p.1
  · simp[h]
  · rw[if_neg h,ih];simp[h]
theorem Ziv (L:List (κ×α)) (k:κ) (v:α):(XK L k v).map (·.1)=if k∈L.map (·.1)then L.map (·.1)else L.map (·.1)++[k]:=by
 induction L with
 | nil=>simp[XK]
 | cons p L ih=>
  simp only[XK]
  by_cases h:k=p.1
  · subst h;simp
  · rw[if_neg h,List.map_cons,ih,List.map_cons]
    by_cases hm:k∈L.map (·.1)
    · rw[if_pos hm,if_pos (List.mem_cons_of_mem _ hm)]
    · rw[if_neg hm,if_neg (by rw[List.mem_cons];exact fun h'=>h'.elim h hm),List.cons_append]
def RelM (S:Nat→Prop) (w:World) (f:α→AV):List (κ×α)→List (κ×Value)→Prop
 | [],[]=>True
 | p::L,q::Lv=>q.1=p.1∧Rel S w (f p.2) q.2∧RelM S w f L Lv
 | _,_=>False
variable {S S' T:Nat→Prop} {w w':World} {f:α→AV}
omit [DecidableEq κ]in
theorem RelM.move (hk:Keeps T w w') (hs:∀ k,k<w.heap.size→S k→T k∧S' k):∀ {L:List (κ×α)} {Lv:List (κ×Value)},RelM S w f L Lv→RelM S' w' f L Lv
 | [],[],_=>trivial
 | _::_,_::_,h=>⟨h.1,Rel.move hk hs h.2.1,RelM.move hk hs h.2.2⟩
 | [],_::_,h=>h.elim
 | _::_,[],h=>h.elim
theorem RelM.look:∀ {L:List (κ×α)} {Lv:List (κ×Value)},RelM S w f L Lv→∀ k,(Zy L k=none∧look Lv k=none)∨ ∃ x v,Zy L k=some x∧look Lv k=some v∧Rel S w (f x) v
 | [],[],_,k=>.inl ⟨rfl,rfl⟩
 | p::L,q::Lv,h,k=>by
  by_cases e:k=p.1
  · right
    exact⟨p.2,q.2,by rw[XF,if_pos e],ZiF (by rw[h.1];exact e),h.2.1⟩
  · rw[XF,if_neg e,ZdB (by rw[h.1];exact e)]
    exact RelM.look h.2.2 k
 | [],_::_,h,_=>h.elim
 | _::_,[],h,_=>h.elim
theorem RelM.put {x:α} {v:Value} (hv:Rel S w (f x) v):∀ {L:List (κ×α)} {Lv:List (κ×Value)},RelM S w f L Lv→∀ k,RelM S w f (XK L k x) (put Lv k v)
 | [],[],_,k=>⟨rfl,hv,trivial⟩
 | p::L,q::Lv,h,k=>by
  simp only[XK,Go.Proofs.YtdfadihhfppjaaaGreatDoor.put,h.1]
  by_cases e:k=p.1
  · rw[if_pos e,if_pos e];exact⟨rfl,hv,h.2.2⟩
  · rw[if_neg e,if_neg e];exact⟨h.1,h.2.1,RelM.put hv h.2.2 k⟩
 | [],_::_,h,_=>h.elim
 | _::_,[],h,_=>h.elim
omit [DecidableEq κ]in
theorem RelM.length:∀ {L:List (κ×α)} {Lv:List (κ×Value)},RelM S w f L Lv→Lv.length=L.length
 | [],[],_=>rfl
 | _::_,_::_,h=>by simp[RelM.length h.2.2]
 | [],_::_,h=>h.elim
 | _::_,[],h=>h.elim
def OB.map (Kd:ZaD κ) (f:α→AV) (M:Nat) (L:List (κ×α)):OB where
 blk:=fun k=>k=M
 inv:=fun lo S w=>lo≤M∧∃ Lv,IsMap Kd w M Lv∧RelM S w f L Lv
 mv:=fun⟨h0,Lv,h1,h2⟩ hk hb hs=>⟨h0,Lv,h1.keep hk (hb M rfl),h2.move hk hs⟩
 lt:=fun⟨h0,Lv,h1,_⟩ k hk=>by subst hk;exact⟨h0,h1.lt⟩
def OB.set (Kd:ZaD κ) (M:Nat) (xs:List κ):OB:=OB.map Kd (fun b:Bool=>.bool b) M (xs.map fun x=>(x,true))
theorem Zst (xs:List κ) (k:κ):Zy (xs.map fun x=>(x,true)) k=if k∈xs then some true else none:=by
 induction xs with
 | nil=>simp[Zaq]
 | cons x xs ih=>
  rw[List.map_cons,XF]
  by_cases h:k=x
  · simp[h]
  · rw[if_neg h,ih];simp[h]
theorem ZlH (xs:List κ) (k:κ):XK (xs.map fun x=>(x,true)) k true=(QE xs k).map fun x=>(x,true):=by
 unfold QE
 induction xs with
 | nil=>simp[XK]
 | cons x xs ih=>
  simp only[List.map_cons,XK]
  by_cases h:k=x
  · subst h;simp
  · rw[if_neg h,ih]
    by_cases hm:k∈xs
    · rw[if_pos hm,if_pos (List.mem_cons_of_mem _ hm),List.map_cons]
    · rw[if_neg hm,if_neg (by rw[List.mem_cons];exact fun h'=>h'.elim h hm),List.cons_append,List.map_cons]
end
def Zjt (P:Program) (E:TypeId) (av:AV):Prop:=∃ z,(∀ w,(zeroValue E).run P w= .ok z w)∧∀ S w,Rel S w av z
def ZkO (P:Program) (t K E:TypeId) (d:TypeDesc):Prop:=P.underlying t=some (.map K E)∧P.underlying K=some d
section
variable {n:Rn} {N:Nat} {P:Program} {J:WP} {S:Nat→Prop} {O:List OB} {w0:World} {env:List (Nat×AV)} {Q:Exit→Act→WP}
variable {κ:Type} [DecidableEq κ] {α:Type} {Kd:ZaD κ} {f:α→AV} {M:Nat} {L:List (κ×α)}
variable {o:Oper} {a:Act} {w:World} {x y z:Operand} {t K E:TypeId} {S':Nat→Prop}
variable {X:WP}
theorem ZgI [Inhabited α] (hT:ZkO P t K E Kd.kind) (hz:Zjt P E (f default)) (k:κ) (hop:o.op= .lookup t x y false) (hi:∃ lo,(OB.map Kd f M L).inv lo S w) (h1:Rel S' w (.lit (.map (some M))) (a.eval x)) (h2:Rel S' w (.lit (Kd.kv k)) (a.eval y)) (hx:X w):
 Does n P o a w (YC S X (f ((Zy L k).getD default)) w):=by
 obtain⟨lo,h0,Lv,hm,hr⟩:=hi
 obtain⟨z,hz1,hz2⟩:=hz
 have hrun:=Zb6 (z:=z) hT.1 hT.2 hz1 k false hm
 refine Zr (v:=(look Lv k).getD z) ?_ ?_ hx
 · rw[execOp,hop]
   simp only[h1.lit,h2.lit,Sem.run_bind,hrun]
   rfl
 · rcases hr.look k with⟨e1,e2⟩ | ⟨x',v,e1,e2,e3⟩
   · rw[e1,e2];exact hz2 _ _
   · rw[e1,e2];exact e3
theorem XD [Inhabited α] (hT:ZkO P t K E Kd.kind) (hz:Zjt P E (f default)) (k:κ) (hop:o.op= .lookup t x y true) (hi:∃ lo,(OB.map Kd f M L).inv lo S w) (h1:Rel S' w (.lit (.map (some M))) (a.eval x)) (h2:Rel S' w (.lit (Kd.kv k)) (a.eval y)) (hx:X w):
 Does n P o a w (YC S X (.tup [f ((Zy L k).getD default),.bool (Zy L k).isSome]) w):=by
 obtain⟨lo,h0,Lv,hm,hr⟩:=hi
 obtain⟨z,hz1,hz2⟩:=hz
 have hrun:=Zb6 (z:=z) hT.1 hT.2 hz1 k true hm
 refine Zr (v:=.tuple #[(look Lv k).getD z,.bool (look Lv k).isSome]) ?_ ?_ hx
 · rw[execOp,hop]
   simp only[h1.lit,h2.lit,Sem.run_bind,hrun]
   rfl
 · simp only[Rel,RelL]
   refine⟨_,rfl,_,_,rfl,?_,_,_,rfl,?_,rfl⟩
   · rcases hr.look k with⟨e1,e2⟩ | ⟨x',v,e1,e2,e3⟩
     · rw[e1,e2];exact hz2 _ _
     · rw[e1,e2];exact e3
   · have:(look Lv k).isSome=(Zy L k).isSome:=by
      rcases hr.look k with⟨e1,e2⟩ | ⟨x',v,e1,e2,e3⟩<;>rw[e1,e2]<;>rfl
     rw[this]
     exact .lit _ True.intro
theorem YM {xs:List κ} (hT:ZkO P t K E Kd.kind) (hz:Zjt P E (.bool false)) (k:κ) {hd:Decidable (k∈xs)} (hop:o.op= .lookup t x y false) (hi:∃ lo,(OB.set Kd M xs).inv lo S w) (h1:Rel S' w (.lit (.map (some M))) (a.eval x)) (h2:Rel S' w (.lit (Kd.kv k)) (a.eval y)) (hx:X w):
 Does n P o a w (YC S X (.bool (@decide (k∈xs) hd)) w):=by
 have:=ZgI (n:=n) hT hz k hop hi h1 h2 hx
 rw[Zst]at this
 by_cases h:k∈xs<;>simpa [h]using this
theorem ZrN (hT:P.underlying t=some (.map K E)) (hop:o.op= .call { callee:=.builtin .len,args:= #[x],argTypes:= #[t] }) (hi:∃ lo,(OB.map Kd f M L).inv lo S w) (h1:Rel S' w (.lit (.map (some M))) (a.eval x)) (hx:X w):
 Does n P o a w (YC S X (.int ((L.length:Nat):Int)) w):=by
 obtain⟨lo,h0,Lv,hm,hr⟩:=hi
 have hrun:=ZjS (P:=P) hT o.type hm
 refine Zr (v:=.int .i64 (L.length:Int)) ?_ (Rel.of_lit _) hx
 rw[hr.length]at hrun
 simp[execOp,hop,resolve,invoke,builtin,h1.lit,hrun,Result.andThen]
theorem ZrM {xs:List κ} (hT:P.underlying t=some (.map K E)) (hop:o.op= .call { callee:=.builtin .len,args:= #[x],argTypes:= #[t] }) (hi:∃ lo,(OB.set Kd M xs).inv lo S w) (h1:Rel S' w (.lit (.map (some M))) (a.eval x)) (hx:X w):
 Does n P o a w (YC S X (.int ((xs.length:Nat):Int)) w):=by
 have:=ZrN (n:=n) hT hop hi h1 hx
 rwa [List.length_map]at this
theorem Zkr (hT:ZkO P t K E Kd.kind) (hJ:Stab J) (hJ0:J w0) (k:κ) (v:α) (hop:o.op= .mapUpdate t x y z∨o.op= .insert t x y z) (hk0:Keeps All w0 w) (hx:XO J S w0.heap.size (OB.map Kd f M L::O) w)
 (h1:Rel S' w (.lit (.map (some M))) (a.eval x)) (h2:Rel S' w (.lit (Kd.kv k)) (a.eval y)) (h3:Rel (SO S (OB.map Kd f M L::O)) w (f v) (a.eval z)):
 Does n P o a w fun _ w'=>∃ _:Unit,Zag J S w0 (OB.map Kd f M L::O) w (OB.map Kd f M (XK L k v)::O) w':=by
 obtain⟨h0,Lv,hm,hr⟩:=hx.2.1 (OB.map Kd f M L) yz
 obtain⟨w',hrun,hm',hk⟩:=ZjR (P:=P) hT.1 hT.2 k (a.eval z) hm
 have hk':Keeps (fun b=>¬ (OB.map Kd f M L).blk b) w w':=hk.sub fun b _ hb=>hb
 have hsub:∀ b,b<w.heap.size→SO S (OB.map Kd f M L::O) b→(¬ (OB.map Kd f M L).blk b)∧SO S (OB.map Kd f M (XK L k v)::O) b:=fun b _ hs=>⟨hs.2 (OB.map Kd f M L) yz,hs.1,fun p hp=>by
  rcases List.mem_cons.1 hp with rfl | hp
  · exact hs.2 (OB.map Kd f M L) yz
  · exact hs.2 p (List.mem_cons_of_mem _ hp)⟩
 refine ZbG (w':=w') ?_ ⟨(),Zaj hJ hJ0 hk0 hx hk' (fun b hb=>.inl hb) ⟨h0,_,hm',(hr.move hk' hsub).put (Rel.move hk' hsub h3) k⟩⟩
 rcases hop with hop | hop<;>
 · rw[execOp,hop]
   simp only[h1.lit,h2.lit,Sem.run_bind,hrun]
   rfl
theorem d_putS {xs:List κ} (hT:ZkO P t K E Kd.kind) (hJ:Stab J) (hJ0:J w0) (k:κ) (hop:o.op= .mapUpdate t x y z∨o.op= .insert t x y z) (hk0:Keeps All w0 w) (hx:XO J S w0.heap.size (OB.set Kd M xs::O) w)
 (h1:Rel S' w (.lit (.map (some M))) (a.eval x)) (h2:Rel S' w (.lit (Kd.kv k)) (a.eval y)) (h3:Rel (SO S (OB.set Kd M xs::O)) w (.bool true) (a.eval z)):
 Does n P o a w fun _ w'=>∃ _:Unit,Zag J S w0 (OB.set Kd M xs::O) w (OB.set Kd M (QE xs k)::O) w':=by
 have:=Zkr (n:=n) hT hJ hJ0 k true hop hk0 hx h1 h2 h3
 rw[ZlH]at this
 exact this
theorem Zor {ops:Array Oper} {rest:List Oper} (hT:ZkO P t K E Kd.kind) (hJ:Stab J) (hJ0:J w0) (k:κ) (v:α) (hg:o.guard=none) (hd:o.dst=none) (hop:o.op= .mapUpdate t x y z∨o.op= .insert t x y z)
 (h1:∀ a w,So J S w0 N (OB.map Kd f M L::O) env a w→Rel (SO S (OB.map Kd f M L::O)) w (.lit (.map (some M))) (a.eval x)∧Rel (SO S (OB.map Kd f M L::O)) w (.lit (Kd.kv k)) (a.eval y)∧Rel (SO S (OB.map Kd f M L::O)) w (f v) (a.eval z))
 (next:∀ a w,So J S w0 N (OB.map Kd f M (XK L k v)::O) env a w→wpListIn n.F n.d P ops Q rest a w):
 ∀ a w,So J S w0 N (OB.map Kd f M L::O) env a w→wpListIn n.F n.d P ops Q (o::rest) a w:=
 ZfS (O2:=fun _:Unit=>_) hg hd (fun a w h=>by
  obtain⟨g1,g2,g3⟩:=h1 a w h
  exact Zkr hT hJ hJ0 k v hop h.keep h.x g1 g2 g3) fun _=>next
theorem Zc8 {ops:Array Oper} {rest:List Oper} {xs:List κ} (hT:ZkO P t K E Kd.kind) (hJ:Stab J) (hJ0:J w0) (k:κ) (hg:o.guard=none) (hd:o.dst=none) (hop:o.op= .mapUpdate t x y z∨o.op= .insert t x y z)
 (h1:∀ a w,So J S w0 N (OB.set Kd M xs::O) env a w→Rel (SO S (OB.set Kd M xs::O)) w (.lit (.map (some M))) (a.eval x)∧Rel (SO S (OB.set Kd M xs::O)) w (.lit (Kd.kv k)) (a.eval y)∧Rel (SO S (OB.set Kd M xs::O)) w (.bool true) (a.eval z))
 (next:∀ a w,So J S w0 N (OB.set Kd M (QE xs k)::O) env a w→wpListIn n.F n.d P ops Q rest a w):
 ∀ a w,So J S w0 N (OB.set Kd M xs::O) env a w→wpListIn n.F n.d P ops Q (o::rest) a w:=
 Zor hT hJ hJ0 k true hg hd hop h1 (by rw[ZlH];exact next)
theorem Zep {ops:Array Oper} {rest:List Oper} {d:Nat} (Kd:ZaD κ) (f:α→AV) (hJ:Stab J) (hg:o.guard=none) (hop:o.op= .makeMap t none) (hd:o.dst=some d) (hN:d<N)
 (next:∀ M a w,St All (SO S (OB.map Kd f M []::O)) w0 N ((d,.lit (.map (some M)))::Yn d env) (XO J S w0.heap.size (OB.map Kd f M []::O)) a w→wpListIn n.F n.d P ops Q rest a w):
 ∀ a w,So J S w0 N O env a w→wpListIn n.F n.d P ops Q (o::rest) a w:=by
 refine Zc7 (O2:=fun M=>OB.map Kd f M []::O) (av:=fun M=>.lit (.map (some M))) hg hd hN (fun a w h=>?_) next
 have hk:Keeps All w (w.alloc (.map #[] 0)):=(Keeps.refl _ _).alloc _
 refine ZS (v:=.map (some w.heap.size)) (w':=w.alloc (.map #[] 0)) ?_ ⟨w.heap.size,X9 hJ h.keep h.x hk (fun b hb=>Nat.le_of_eq hb.symm) ⟨h.keep.size,[],IsMap.new w,trivial⟩,Rel.of_lit _⟩
 simp[execOp,hop,Instr.makeMap,newObj,Sem.run]
theorem Zce {ops:Array Oper} {rest:List Oper} {d:Nat} (Kd:ZaD κ) (hJ:Stab J) (hg:o.guard=none) (hop:o.op= .makeMap t none) (hd:o.dst=some d) (hN:d<N)
 (next:∀ M a w,St All (SO S (OB.set Kd M []::O)) w0 N ((d,.lit (.map (some M)))::Yn d env) (XO J S w0.heap.size (OB.set Kd M []::O)) a w→wpListIn n.F n.d P ops Q rest a w):
 ∀ a w,So J S w0 N O env a w→wpListIn n.F n.d P ops Q (o::rest) a w:=
 Zep Kd (fun b:Bool=>.bool b) hJ hg hop hd hN next
end

def Has (Os:List OB) (S:Nat→Prop) (w:World):Prop:=∀ o∈Os,∃ lo,o.inv lo S w
theorem Zq {S:Nat→Prop} {w:World}:Has [] S w:=fun _ h=>by cases h
theorem ZH {Os:List OB} {S:Nat→Prop} {w:World} {o:OB} (h:∃ lo,o.inv lo S w) (k:Has Os S w):Has (o::Os) S w:=fun p hp=>by
 rcases List.mem_cons.1 hp with rfl | hp
 · exact h
 · exact k p hp
theorem Zg9 {Os Ps:List OB} {S:Nat→Prop} {w:World} (h:Has Os S w) (k:Has Ps S w):Has (Os++Ps) S w:=fun p hp=>(List.mem_append.1 hp).elim (h p) (k p)

def FnM {ι:Type} (P:Program) (J:WP) (f:FuncId) (Hs:List OB) (args:List AV) (O:List OB) (res:ι→AV) (O':ι→List OB):Prop:=
 ∀(S:Nat→Prop) (w0:World) (R:List OB) (w:World) (vs:List Value),(∀ b,w0.heap.size≤b→S b)→J w0→Has Hs S w0→Keeps All w0 w→XO J S w0.heap.size (O++R) w→RelL (SO S (O++R)) w args vs→
  Calls P f vs.toArray w fun e w'=>∃ i v,e= .returned v∧Rel (SO S (O' i++R)) w' (res i) v∧Keeps All w0 w'∧XO J S w0.heap.size (O' i++R) w'
section
variable {n:Rn} {N:Nat} {P:Program} {J:WP} {S:Nat→Prop} {O:List OB} {w0:World} {env:List (Nat×AV)} {Q:Exit→Act→WP} {ι:Type}
variable {o:Oper} {a:Act} {w:World}
def OB.was (B:AV→Value→Prop):OB where
 blk:=fun _=>False
 inv:=fun _ S w=>∀ av v,B av v→Rel S w av v
 mv:=fun h hk _ hs av v hb=>Rel.move hk hs (h av v hb)
 lt:=fun _ _ h=>h.elim
theorem so_was {B:AV→Value→Prop} {R:List OB} {b:Nat}:SO S (O++OB.was B::R) b↔SO S (O++R) b:=by
 constructor
 · exact fun h=>⟨h.1,fun p hp=>h.2 p (by rcases List.mem_append.1 hp with hp | hp<;>simp[hp])⟩
 · exact fun h=>⟨h.1,fun p hp=>by
    rcases List.mem_append.1 hp with hp | hp
    · exact h.2 p (by simp[hp])
    · rcases List.mem_cons.1 hp with rfl | hp
      · exact fun e=>e
      · exact h.2 p (by simp[hp])⟩
theorem ZhK {B:AV→Value→Prop} {R:List OB} (h:XO J S w0.heap.size (O++R) w) (hB:∀ av v,B av v→Rel (SO S (O++R)) w av v):XO J S w0.heap.size (O++OB.was B::R) w:=by
 have hp:(OB.was B::(O++R)).Perm (O++OB.was B::R):=List.perm_middle.symm
 refine YK hp ⟨h.1,fun p hm=>?_,.cons (fun _ _ _ e=>e.elim) h.2.2⟩
 have hsub:∀ k,SO S (O++R) k→SO S (OB.was B::(O++R)) k:=fun k hs=>(so_was.2 hs).perm hp.symm
 rcases List.mem_cons.1 hm with rfl | hm
 · exact fun av v hb=>(hB av v hb).sub fun k _=>hsub k
 · exact OB.sub (h.2.1 p hm) fun k _=>hsub k
theorem Za3 {B:AV→Value→Prop} {R:List OB} (h:XO J S w0.heap.size (O++OB.was B::R) w):XO J S w0.heap.size (O++R) w∧∀ av v,B av v→Rel (SO S (O++R)) w av v:=by
 have hp:(O++OB.was B::R).Perm (OB.was B::(O++R)):=List.perm_middle
 have h':=YK hp h
 have hsub:∀ k,SO S (OB.was B::(O++R)) k→SO S (O++R) k:=fun k hs=>hs.drop
 exact⟨⟨h'.1,fun p hm=>OB.sub (h'.2.1 p (by simp[hm])) fun k _=>hsub k,(List.pairwise_cons.1 h'.2.2).2⟩,
  fun av v hb=>(h'.2.1 (OB.was B) yz av v hb).sub fun k _=>hsub k⟩
theorem d_fnM {R:List OB} {f:FuncId} {args:List Operand} {callee:Operand} {ts:Array TypeId} {avs:List AV} {res:ι→AV} {O':ι→List OB} {cap:List Value} {avc:List AV} {Hs:List OB} (hF:FnM P J f Hs (avs++avc) O res O') (h1:Zi P f) (hop:o.op= .call { callee:=.value callee,args:=args.toArray,argTypes:=ts })
 (hS:∀ b,w0.heap.size≤b→S b) (hJ0:J w0) (hH:Has Hs S w0) (hk:Keeps All w0 w) (hx:XO J S w0.heap.size (O++R) w) (hc:a.eval callee= .func (.func f) #[] cap.toArray) (ha:RelL (SO S (O++R)) w avs (args.map a.eval)) (hcap:RelL (SO S (O++R)) w avc cap):
 Does n P o a w fun v w'=>∃ i,Zag J S w0 (O++R) w (O' i++R) w'∧Rel (SO S (O' i++R)) w' (res i) v:=by
 have happ:∀ {l m:List AV} {us vs:List Value},RelL (SO S (O++R)) w l us→RelL (SO S (O++R)) w m vs→RelL (SO S (O++R)) w (l++m) (us++vs):=by
  intro l
  induction l with
  | nil=>intro m us vs h1 h2;simp only[RelL]at h1;subst h1;exact h2
  | cons x l ih=>intro m us vs h1 h2;simp only[RelL]at h1;obtain⟨u,us',rfl,h3,h4⟩:=h1;simp only[List.cons_append,RelL];exact⟨u,_,rfl,h3,ih h4 h2⟩
 let B:AV→Value→Prop:=fun av v=>Rel (SO S (O++R)) w av v
 have hx2:=ZhK (B:=B) hx fun _ _ h=>h
 have hsub:∀ k,k<w.heap.size→SO S (O++R) k→All k∧SO S (O++OB.was B::R) k:=fun k _ h=>⟨trivial,so_was.2 h⟩
 have hcall:=hF S w0 (OB.was B::R) w _ hS hJ0 hH hk hx2 (RelL.move (Keeps.refl All w) hsub (happ ha hcap))
 refine Zfb (f:=f) (args:=(args.map a.eval++cap).toArray) (w1:=w) ?_ (Calls.mono hcall fun e w' ⟨i,v,he,hv,hk',hx'⟩=>?_)
 · have h2:=h1 ((args.map a.eval++cap).toArray) w
   simp only[execOp,hop,resolve,hc,Deferred.ofValue,Sem.run_bind,Sem.run_pure,Result.andThen_ok,invoke]
   rw[←h2]
   congr 2
   simp
 · obtain⟨g1,g2⟩:=Za3 hx'
   exact⟨v,he,i,⟨hk',g1,g2⟩,hv.sub fun k _=>so_was.1⟩
theorem Zu8 {R:List OB} {f:FuncId} {args:List Operand} {ts:Array TypeId} {avs:List AV} {res:ι→AV} {O':ι→List OB} {Hs:List OB} (hF:FnM P J f Hs avs O res O') (h1:Zi P f) (hop:o.op= .call { callee:=.value (.func f),args:=args.toArray,argTypes:=ts })
 (hS:∀ b,w0.heap.size≤b→S b) (hJ0:J w0) (hH:Has Hs S w0) (hk:Keeps All w0 w) (hx:XO J S w0.heap.size (O++R) w) (ha:RelL (SO S (O++R)) w avs (args.map a.eval)):
 Does n P o a w fun v w'=>∃ i,Zag J S w0 (O++R) w (O' i++R) w'∧Rel (SO S (O' i++R)) w' (res i) v:=
 d_fnM (cap:=[]) (avc:=[]) (by rw[List.append_nil];exact hF) h1 hop hS hJ0 hH hk hx rfl ha (by simp only[RelL])
theorem QK {ops:Array Oper} {rest:List Oper} {R:List OB} {d:Nat} {f:FuncId} {args:List Operand} {ts:Array TypeId} {avs:List AV} {res:ι→AV} {O':ι→List OB} {Hs:List OB} (hF:FnM P J f Hs avs O res O') (h1:Zi P f) (hg:o.guard=none) (hop:o.op= .call { callee:=.value (.func f),args:=args.toArray,argTypes:=ts }) (hd:o.dst=some d) (hN:d<N)
 (hS:∀ b,w0.heap.size≤b→S b) (hJ0:J w0) (hH:Has Hs S w0) (ha:∀ a w,So J S w0 N (O++R) env a w→RelL (SO S (O++R)) w avs (args.map a.eval))
 (next:∀ i a w,So J S w0 N (O' i++R) ((d,res i)::Yn d env) a w→wpListIn n.F n.d P ops Q rest a w):
 ∀ a w,So J S w0 N (O++R) env a w→wpListIn n.F n.d P ops Q (o::rest) a w:=
 Zc7 (O2:=fun i=>O' i++R) (av:=res) hg hd hN (fun a w h=>Zu8 hF h1 hop hS hJ0 hH h.keep h.x (ha a w h)) next
theorem Zqf {f:FuncId} {fn:Func} {c:Code} {args:List AV} {res:ι→AV} {O':ι→List OB} (hf:P.funcs[f]?=some fn) (hb:fn.body=some c) (hN:fn.ntmps=N) (hl:args.length≤N)
 {Hs:List OB} (h:∀(S:Nat→Prop) (w0:World) (R:List OB),(∀ b,w0.heap.size≤b→S b)→J w0→Has Hs S w0→Tr 5 P (So J S w0 N (O++R) (Y2 0 args)) c (bodyPost P fn fun e w'=>∃ i v,e= .returned v∧Rel (SO S (O' i++R)) w' (res i) v∧Keeps All w0 w'∧XO J S w0.heap.size (O' i++R) w')):FnM P J f Hs args O res O':=by
 intro S w0 R w vs hS hJ hH hk hx ha
 refine(callsIn_wide (n:=5)).1 (callsIn_of_wp hf hb trivial (h S w0 R hS hJ hH _ _ ?_) rfl)
 have hlen:vs.length=args.length:=by
  clear h hl
  induction args generalizing vs with
  | nil=>simp only[RelL]at ha;subst ha;rfl
  | cons a l ih=>simp only[RelL]at ha;obtain⟨u,us',rfl,_,h2⟩:=ha;simp[ih us' h2]
 have hsz:(vs.toArray++Array.replicate (fn.ntmps-vs.toArray.size) undef).size=N:=by
  simp;omega
 refine⟨rfl,hsz,hk,hx,?_⟩
 have key:∀(args:List AV) (us pre:List Value) (i:Nat),pre.length=i→vs=pre++us→RelL (SO S (O++R)) w args us→∀ p∈Y2 i args,p.1<N∧Rel (SO S (O++R)) w p.2 ((vs.toArray++Array.replicate (fn.ntmps-vs.toArray.size) undef).getD p.1 undef):=by
  intro args
  induction args with
  | nil=>intro us pre i _ _ _ p hp;cases hp
  | cons x l ih=>
   intro us pre i hi hv hr p hp
   simp only[RelL]at hr
   obtain⟨u,us',rfl,h1,h2⟩:=hr
   rcases List.mem_cons.1 hp with rfl | hp
   · have hlt:i<vs.length:=by rw[hv];simp;omega
     refine⟨oz,?_⟩
     have:(vs.toArray++Array.replicate (fn.ntmps-vs.toArray.size) undef).getD i undef=u:=by
      rw[Array.getD_eq_getD_getElem?,Array.getElem?_append_left (by simpa using hlt)]
      simp[hv,←hi]
     rw[this];exact h1
   · exact ih us' (pre++[u]) (i+1) (by simp[hi]) (by simp[hv]) h2 p hp
 exact key args vs [] 0 rfl rfl ha
theorem fEM {f:FuncId} {fn:Func} {c:Code} {args:List AV} {res:ι→AV} {O':ι→List OB} (hf:P.funcs[f]?=some fn)
 {Hs:List OB} (h:∀(S:Nat→Prop) (w0:World) (R:List OB),(∀ b,w0.heap.size≤b→S b)→J w0→Has Hs S w0→Tr 5 P (So J S w0 N (O++R) (Y2 0 args)) c (bodyPost P fn fun e w'=>∃ i v,e= .returned v∧Rel (SO S (O' i++R)) w' (res i) v∧Keeps All w0 w'∧XO J S w0.heap.size (O' i++R) w')) (hb:fn.body=some c:=by exact rfl) (hN:fn.ntmps=N:=by exact rfl) (hl:args.length≤N:=by exact Nat.le_of_ble_eq_true rfl):FnM P J f Hs args O res O':=Zqf hf hb hN hl h
theorem Zkc {fn:Func} {res:ι→AV} {O':ι→List OB} {R:List OB} (i:ι) (hr:fn.results= #[]) (h:So J S w0 N (O' i++R) env a w) (hE:AV.tup []=res i):bodyPost P fn (fun e w'=>∃ i v,e= .returned v∧Rel (SO S (O' i++R)) w' (res i) v∧Keeps All w0 w'∧XO J S w0.heap.size (O' i++R) w') .ret a w:=
 ⟨h.defs,.tuple #[],by simp[results,hr,Sem.run_pure],i,_,rfl,by rw[←hE];simp only[Rel,RelL];exact⟨[],rfl,rfl⟩,h.keep,h.x⟩
theorem ZK {fn:Func} {t m:Nat} {av:AV} {res:ι→AV} {O':ι→List OB} {R:List OB} (i:ι) (hr:fn.results= #[.tmp t]) (h:So J S w0 N (O' i++R) env a w) (he:env[m]?=some (t,av)) (hE:av=res i):bodyPost P fn (fun e w'=>∃ i v,e= .returned v∧Rel (SO S (O' i++R)) w' (res i) v∧Keeps All w0 w'∧XO J S w0.heap.size (O' i++R) w') .ret a w:=by
 subst hE
 exact⟨h.defs,a.tmps.getD t undef,by simp[results,hr,Sem.run_pure],i,_,rfl,h.get m he,h.keep,h.x⟩
theorem ZwF {fn:Func} {t u m k:Nat} {a1 a2:AV} {res:ι→AV} {O':ι→List OB} {R:List OB} (i:ι) (hr:fn.results= #[.tmp t,.tmp u]) (h:So J S w0 N (O' i++R) env a w) (he:env[m]?=some (t,a1)) (he2:env[k]?=some (u,a2)) (hE:AV.tup [a1,a2]=res i):bodyPost P fn (fun e w'=>∃ i v,e= .returned v∧Rel (SO S (O' i++R)) w' (res i) v∧Keeps All w0 w'∧XO J S w0.heap.size (O' i++R) w') .ret a w:=
 ⟨h.defs,.tuple #[a.tmps.getD t undef,a.tmps.getD u undef],by simp[results,hr,Sem.run_pure],i,_,rfl,by rw[←hE];simp only[Rel,RelL];exact⟨_,rfl,_,_,rfl,h.get m he,_,_,rfl,h.get k he2,rfl⟩,h.keep,h.x⟩
end
def FnR (P:Program) (J:WP) (f:FuncId) (Os:List OB) (args:List AV) (res:AV):Prop:=
 ∀(S:Nat→Prop) (w:World) (vs:List Value),(∀ b,w.heap.size≤b→S b)→J w→Has Os S w→RelL S w args vs→Calls P f vs.toArray w fun e w'=>∃ v,e= .returned v∧Rel S w' res v∧Keeps All w w'∧J w'
section
variable {n:Rn} {N:Nat} {P:Program} {J X:WP} {S:Nat→Prop} {O Os:List OB} {w0:World} {env:List (Nat×AV)} {Q:Exit→Act→WP}
variable {o:Oper} {a:Act} {w:World} {x y z:Operand} {t e:TypeId}
theorem YZ {o:OB} (hH:Has Os S w0) (hk:Keeps All w0 w) (ho:o∈Os):∃ lo,o.inv lo S w:=by
 obtain⟨lo,h⟩:=hH o ho
 exact⟨lo,o.mv h hk (fun _ _=>trivial) fun _ _ hs=>⟨trivial,hs⟩⟩
theorem ZJ {o:OB} (hH:Has Os S w0) (hk:Keeps All w0 w) (hx:XO J S w0.heap.size O w) (ho:o∈Os):∃ lo,o.inv lo (SO S O) w:=by
 obtain⟨lo,h⟩:=hH o ho
 exact⟨lo,o.mv h hk (fun _ _=>trivial) fun k hlt hs=>⟨trivial,hs,fun p hp e=>by have:=(p.lt (hx.2.1 p hp) k e).1;omega⟩⟩
theorem Ze {o:OB} {lo:Nat} (hx:XO J S lo O w) (ho:o∈O):∃ lo,o.inv lo (SO S O) w:=⟨lo,hx.2.1 o ho⟩
theorem ZcF {o:OB} {lo:Nat} (hx:XO J S lo O w) (ho:o∈O):∃ lo,o.inv lo S w:=⟨lo,OB.sub (hx.2.1 o ho) fun _ _ h=>h.1⟩
theorem ZlS {o:OB} (hH:Has Os S w0) (hk:Keeps All w0 w) (_:XO J S w0.heap.size O w) (ho:o∈Os):∃ lo,o.inv lo S w:=YZ hH hk ho
theorem Fn.r {f:FuncId} {args:List AV} {res:AV} (h:Fn P J f args res):FnR P J f [] args res:=fun S w vs hS hJ _ ha=>h S w vs hS hJ ha
theorem Fn.rr {f:FuncId} {args:List AV} {res:AV} (h:Fn P J f args res):FnR P J f Os args res:=fun S w vs hS hJ _ ha=>h S w vs hS hJ ha
theorem Zqe {f:FuncId} {fn:Func} {c:Code} {args:List AV} {res:AV} (hf:P.funcs[f]?=some fn) (hb:fn.body=some c) (hN:fn.ntmps=N) (hl:args.length≤N)
 (h:∀(S:Nat→Prop) (w0:World),(∀ b,w0.heap.size≤b→S b)→J w0→Has Os S w0→Tr 5 P (St All S w0 N (Y2 0 args) J) c (bodyPost P fn fun e w'=>∃ v,e= .returned v∧Rel S w' res v∧Keeps All w0 w'∧J w')):FnR P J f Os args res:=by
 intro S w vs hS hJ hH ha
 refine(callsIn_wide (n:=5)).1 (callsIn_of_wp hf hb trivial (h S w hS hJ hH _ _ ?_) rfl)
 have hlen:vs.length=args.length:=by
  clear h hl
  induction args generalizing vs with
  | nil=>simp only[RelL]at ha;subst ha;rfl
  | cons a l ih=>simp only[RelL]at ha;obtain⟨u,us',rfl,_,h2⟩:=ha;simp[ih us' h2]
 have hsz:(vs.toArray++Array.replicate (fn.ntmps-vs.toArray.size) undef).size=N:=by
  simp;omega
 refine⟨rfl,hsz,Keeps.refl _ _,hJ,?_⟩
 have key:∀(args:List AV) (us pre:List Value) (i:Nat),pre.length=i→vs=pre++us→RelL S w args us→∀ p∈Y2 i args,p.1<N∧Rel S w p.2 ((vs.toArray++Array.replicate (fn.ntmps-vs.toArray.size) undef).getD p.1 undef):=by
  intro args
  induction args with
  | nil=>intro us pre i _ _ _ p hp;cases hp
  | cons x l ih=>
   intro us pre i hi hv hr p hp
   simp only[RelL]at hr
   obtain⟨u,us',rfl,h1,h2⟩:=hr
   rcases List.mem_cons.1 hp with rfl | hp
   · have hlt:i<vs.length:=by rw[hv];simp;omega
     refine⟨oz,?_⟩
     have:(vs.toArray++Array.replicate (fn.ntmps-vs.toArray.size) undef).getD i undef=u:=by
      rw[Array.getD_eq_getD_getElem?,Array.getElem?_append_left (by simpa using hlt)]
      simp[hv,←hi]
     rw[this];exact h1
   · exact ih us' (pre++[u]) (i+1) (by simp[hi]) (by simp[hv]) h2 p hp
 exact key args vs [] 0 rfl rfl ha
theorem fER {f:FuncId} {fn:Func} {c:Code} {args:List AV} {res:AV} (hf:P.funcs[f]?=some fn)
 (h:∀(S:Nat→Prop) (w0:World),(∀ b,w0.heap.size≤b→S b)→J w0→Has Os S w0→Tr 5 P (St All S w0 N (Y2 0 args) J) c (bodyPost P fn fun e w'=>∃ v,e= .returned v∧Rel S w' res v∧Keeps All w0 w'∧J w')) (hb:fn.body=some c:=by exact rfl) (hN:fn.ntmps=N:=by exact rfl) (hl:args.length≤N:=by exact Nat.le_of_ble_eq_true rfl):FnR P J f Os args res:=Zqe hf hb hN hl h
theorem Y3 {f:FuncId} {args:List Operand} {ts:Array TypeId} {avs:List AV} {av:AV} (hF:FnR P J f Os avs av) (h1:Zi P f) (hop:o.op= .call { callee:=.value (.func f),args:=args.toArray,argTypes:=ts })
 (hS:∀ b,w.heap.size≤b→S b) (hJ:J w) (hH:Has Os S w) (ha:RelL S w avs (args.map a.eval)) (hx:∀ w',Keeps All w w'→X w'):Does n P o a w (YC S X av w):=by
 refine Zlq h1 hop ?_
 have:=hF S w _ hS hJ hH ha
 rw[List.map_toArray]
 exact Calls.mono this fun e w' ⟨v,h1,h2,h3,_⟩=>⟨v,h1,h2,h3,hx w' h3⟩
theorem Zlf {l m:List AV} {us vs:List Value} (h1:RelL S w l us) (h2:RelL S w m vs):RelL S w (l++m) (us++vs):=by
 induction l generalizing us with
 | nil=>simp only[RelL]at h1;subst h1;exact h2
 | cons x l ih=>simp only[RelL]at h1;obtain⟨u,us',rfl,h3,h4⟩:=h1;simp only[List.cons_append,RelL];exact⟨u,_,rfl,h3,ih h4⟩
theorem Zax {f:FuncId} {args:List Operand} {ts:Array TypeId} {avs caps:List AV} {av:AV} (hF:FnR P J f Os (avs++caps) av) (h1:Zi P f) (hop:o.op= .call { callee:=.value x,args:=args.toArray,argTypes:=ts }) (hf:Rel S w (.fn f caps) (a.eval x))
 (hS:∀ b,w.heap.size≤b→S b) (hJ:J w) (hH:Has Os S w) (ha:RelL S w avs (args.map a.eval)) (hx:∀ w',Keeps All w w'→X w'):Does n P o a w (YC S X av w):=by
 simp only[Rel]at hf
 obtain⟨us,hv,hc⟩:=hf
 refine Zfb (f:=f) (args:=(args.map a.eval++us).toArray) (w1:=w) ?_ (Calls.mono (hF S w _ hS hJ hH (Zlf ha hc)) fun e w' ⟨v,h1,h2,h3,_⟩=>⟨v,h1,h2,h3,hx w' h3⟩)
 have h2:=h1 ((args.map a.eval++us).toArray) w
 simp only[execOp,hop,resolve,hv,Deferred.ofValue,Sem.run_bind,Sem.run_pure,Result.andThen_ok,invoke]
 rw[←h2]
 congr 2
 simp
theorem Qt (f:FuncId):Rel S w (.fn f []) (a.eval (.func f)):=by
 simp only[Rel,RelL];exact⟨[],rfl,rfl⟩
theorem YR {f:FuncId} {caps:List Operand} {avs:List AV} (hop:o.op= .makeFunc (.func f) #[] caps.toArray) (h:RelL S w avs (caps.map a.eval)) (hx:X w):Does n P o a w (YC S X (.fn f avs) w):=by
 refine Zr (v:=.func (.func f) #[] (caps.map a.eval).toArray) ?_ (by simp only[Rel];exact⟨_,rfl,h⟩) hx
 simp[execOp,hop,Instr.makeFunc]
theorem YE {cs:List CD} (hop:o.op= .nilCheck x) (h:Rel S w (.ptr cs) (a.eval x)) (hx:X w):Does n P o a w (YC S X (.ptr cs) w):=by
 have h':=h
 simp only[Rel]at h
 obtain⟨b,off,us,hv,_⟩:=h
 refine Zr (v:=a.eval x) ?_ h' hx
 simp[execOp,hop,hv]
theorem ptr_rd {cs:List CD} {v:Value}:Rel S w (.rd (.ptr cs)) v↔Rel S w (.ptr cs) v:=by
 simp only[Rel]
 constructor
 · intro h
   cases h with
   | ptr b off cs vs hb hS hc hr=>
    refine⟨b,off,(List.range cs.length).map vs,rfl,hb,hS,RdL.of_get yz fun i c u h1 h2=>?_,fun j u hj=>?_⟩
    · have hi:i<cs.length:=(List.getElem?_eq_some_iff.1 h1).1
      have:u=vs i:=by simpa [hi]using h2.symm
      subst this;exact hr i c h1
    · have hi:j<cs.length:=by
       rcases Nat.lt_or_ge j cs.length with h | h
       · exact h
       · rw[List.getElem?_eq_none (by simpa using h)]at hj;cases hj
      have:u=vs j:=by simpa [hi]using hj.symm
      subst this;exact hc j hi
 · rintro⟨b,off,us,rfl,hb,hS,hr,hc⟩
   refine .ptr b off cs (fun i=>(us[i]?).getD default) hb hS (fun i hi=>?_) fun i c h1=>?_
   · have hl:i<us.length:=by rw[hr.length];exact hi
     have:=hc i _ (List.getElem?_eq_getElem hl)
     rw[List.getElem?_eq_getElem hl];exact this
   · have hl:i<us.length:=by rw[hr.length];exact(List.getElem?_eq_some_iff.1 h1).1
     rw[List.getElem?_eq_getElem hl]
     exact hr.get h1 (List.getElem?_eq_getElem hl)
theorem Za8 {cs ds:List CD} (h1:XA P t) (hop:o.op= .load t x) (h:Rel S w (.ptr (.ptr ds::cs)) (a.eval x)) (hx:X w):Does n P o a w (YC S X (.ptr ds) w):=
 Zl (ZB h1 hop h hx) fun _ _ hp=>⟨ptr_rd.1 hp.1,hp.2⟩
theorem ZaM {c:CD} (hop:o.op= .box t x) (h:Rel S w (.rd c) (a.eval x)) (hS:S w.heap.size) (hx:∀ w',Keeps All w w'→X w'):Does n P o a w (YC S X (.ptr [c]) w):=by
 simp only[Rel]at h
 have hcell:(a.eval x).cells= #[a.eval x]:=by have:=h.one;revert this;cases a.eval x<;>simp[Value.cells,Value.oneCell']
 have hk:Keeps All w (w.alloc (.cells [a.eval x].toArray t)):=(Keeps.refl _ _).alloc _
 refine ZS (v:=.pointer (some ⟨w.heap.size,0,none⟩)) (w':=w.alloc (.cells [a.eval x].toArray t)) ?_ ⟨?_,hk,hx _ hk⟩
 · simp[execOp,hop,Instr.box,newVar,newRow,newObj,Sem.run,hcell]
 · simp only[Rel]
   exact⟨w.heap.size,0,[a.eval x],rfl,by simp,hS,⟨h.keep hk fun _ _ _=>trivial,trivial⟩,fun j u hj=>QS j u hj⟩
theorem ZgJ {cs:List CD} (hop:o.op= .box t x) (h:Rel S w (.ptr cs) (a.eval x)) (hS:S w.heap.size) (hx:∀ w',Keeps All w w'→X w'):Does n P o a w (YC S X (.ptr [.ptr cs]) w):=
 ZaM hop (ptr_rd.2 h) hS hx
theorem Zcv {α:Type} {f:α→List CD} {xs:List α} {u':TypeId} {ops:Array Oper} {rest:List Oper} {d:Nat} (ht:P.underlying t=some (.slice e)) (hg:o.guard=none) (hop:o.op= .binOp .eql t x (.const (.slice none 0 0)) u') (hd:o.dst=some d) (hN:d<N)
 (hx:∀ a w,St All S w0 N env X a w→Rel S w (.rd (.sl (xs.map f))) (a.eval x))
 (next:∀ g:Bool,(g=true→xs=[])→∀ a w,St All S w0 N ((d,.bool g)::Yn d env) X a w→wpListIn n.F n.d P ops Q rest a w):
 ∀ a w,St All S w0 N env X a w→wpListIn n.F n.d P ops Q (o::rest) a w:=fun a w h=>by
 refine wpListIn_plain hg fun K' hK=>?_
 have h1:=hx a w h
 simp only[Rel]at h1
 obtain⟨ad,cap,hv,_,_⟩:=h1.form
 have hnil:ad.isNone=true→xs=[]:=fun hn=>by
  cases ad with
  | some _=>cases hn
  | none=>
   rw[hv]at h1
   rcases Nat.eq_zero_or_pos xs.length with h0 | h0
   · exact List.eq_nil_of_length_eq_zero h0
   · obtain⟨_,_,e,_⟩:=h1.at (List.getElem?_eq_getElem (l:=xs.map f) (i:=0) (by simpa using h0))
     cases e
 have hdo:Does n P o a w fun v w'=>v= .bool ad.isNone∧w'=w:=by
  refine ZS ?_ ⟨rfl,rfl⟩
  rw[execOp,hop]
  have hev:a.eval (.const (.slice none 0 0))= .slice none 0 0:=rfl
  have he:(Op.equal t (.slice ad (xs.map f).length cap) (.slice none 0 0)).run P w= .ok ad.isNone w:=by
   unfold Op.equal Op.maxDepth
   show(Op.equalIn (9999+1) t _ _).run P w=_
   unfold Op.equalIn
   cases ad<;>simp[Sem.run_bind,run_underlying ht]
  simp only[hv,hev,Sem.run_bind,eqGuard,binOp]
  rw[show(Sem.run P (if(!true)=true then pure ()else pure ()) w)= .ok () w from rfl,Result.andThen_ok,he]
  rfl
 refine hdo K' Q fun u w2 hu=>?_
 obtain⟨rfl,rfl⟩:=hu
 rw[hd]
 exact hK _ _ (next _ hnil _ _ (h.put hN ⟨Rel.of_lit _,Keeps.refl _ _,h.x⟩))
end
end Go.Proofs.YtdfadihhfppjaaaGreatDoor
