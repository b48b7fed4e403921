/-
  Part of the proof that MinimizeChecks returns true. Conditions: none.
-/
import Derived.Test.YtdfadihhfppjaaaGreatDoorBEC
import Derived.OrdersIn
import Derived.TacticsIn
open List (all_eq_true mem_of_getElem?)
namespace Go.Proofs.YtdfadihhfppjaaaGreatDoor
open Go.RowKit
inductive AV where
 | rd (c:CD)
 | agg (cs:List CD)
 | ptr (cs:List CD)
 | bF (l:List AV)
 | fn (f:FuncId) (caps:List AV)
 | any
mutual
def Rel (S:Nat->Prop) (w:World):AV->Value->Prop
 | .rd c,v=>Rd S w c v
 | .agg cs,v=>∃ us:List Value,v= .agg us.toArray/\bE S w cs us
 | .ptr cs,v=>∃ b off,∃ us:List Value,v= .pointer (some ⟨b,off,none⟩)/\b<w.heap.size/\S b/\bE S w cs us/\∀ j u,us[j]?=some u->w.cell? ⟨b,off+j,none⟩=some u
 | .bF l,v=>∃ us:List Value,v= .tuple us.toArray/\bi S w l us
 | .fn f caps,v=>∃ us:List Value,v= .func (.func f) #[] us.toArray/\bi S w caps us
 | .any,_=>True
def bi (S:Nat->Prop) (w:World):List AV->List Value->Prop
 | [],us=>us=[]
 | a::l,us=>∃ u us',us=u::us'/\Rel S w a u/\bi S w l us'
end
mutual
theorem Rel.move {S S' T:Nat->Prop} {w w':World} (hk:Keeps T w w') (hs:∀ k,k<w.heap.size->S k->T k/\S' k):∀ {a:AV} {v:Value},Rel S w a v->Rel S' w' a v
 | .rd c,v,h=>by
  simp only[Rel]at h ⊢
  exact h.move hk hs
 | .agg cs,v,h=>by
  simp only[Rel]at h ⊢
  obtain⟨us,hv,h⟩:=h
  exact⟨us,hv,h.move hk hs⟩
 | .ptr cs,v,h=>by
  simp only[Rel]at h ⊢
  obtain⟨b,off,us,hv,hb,hS,hr,hc⟩:=h
  exact⟨b,off,us,hv,by have:=hk.size;omega,(hs b hb hS).2,hr.move hk hs,λj u hj=>hk.cell (hs b hb hS).1 (hc j u hj)⟩
 | .bF l,v,h=>by
  simp only[Rel]at h ⊢
  obtain⟨us,hv,h⟩:=h
  exact⟨us,hv,bi.move hk hs h⟩
 | .fn f caps,v,h=>by
  simp only[Rel]at h ⊢
  obtain⟨us,hv,h⟩:=h
  exact⟨us,hv,bi.move hk hs h⟩
 | .any,_,_=>by simp only[Rel]
theorem bi.move {S S' T:Nat->Prop} {w w':World} (hk:Keeps T w w') (hs:∀ k,k<w.heap.size->S k->T k/\S' k):∀ {l:List AV} {us:List Value},bi S w l us->bi S' w' l us
 | [],us,h=>by simp only[bi]at h ⊢;exact h
 | a::l,us,h=>by
  simp only[bi]at h ⊢
  obtain⟨u,us',rfl,h1,h2⟩:=h
  exact⟨u,us',rfl,Rel.move hk hs h1,bi.move hk hs h2⟩
end
theorem Rel.on {S:Nat->Prop} {w w':World} {a:AV} {v:Value} (h:Rel S w a v) (hk:Keeps All w w'):Rel S w' a v:=Rel.move hk (λ_ _ h=>⟨trivial,h⟩) h
theorem Rel.sub {S T:Nat->Prop} {w:World} {a:AV} {v:Value} (h:Rel S w a v) (hs:∀ k,k<w.heap.size->S k->T k):Rel T w a v:=Rel.move (Keeps.refl All w) (λk hk h=>⟨trivial,hs k hk h⟩) h
theorem bi.sub {S T:Nat->Prop} {w:World} {l:List AV} {us:List Value} (h:bi S w l us) (hs:∀ k,k<w.heap.size->S k->T k):bi T w l us:=bi.move (Keeps.refl All w) (λk hk h=>⟨trivial,hs k hk h⟩) h
theorem Rel.lit {S:Nat->Prop} {w:World} {x v:Value} (h:Rel S w (.rd (.lit x)) v):v=x:=by
 simp only[Rel]at h
 exact h.aH
theorem Rel.aH {S:Nat->Prop} {w:World} (x:Value) (Z:io x:=by exact True.intro):Rel S w (.rd (.lit x)) x:=by
 simp only[Rel]
 exact .lit x Z
theorem Rel.sf {S:Nat->Prop} {w:World} {x v:Value} (h:Rel S w (.rd (.lit x)) v):io x:=by
 simp only[Rel]at h
 exact h.sf
abbrev AV.lit (v:Value):AV:=.rd (.lit v)
abbrev AV.int (n:Int):AV:=.rd (.lit (.int .i64 n))
abbrev AV.bool (b:Bool):AV:=.rd (.lit (.bool b))
abbrev AV.str (s:BA):AV:=.rd (.lit (.string s))
def cp (o:Oper):List Nat:=(o.after.toList.filter λe=>Region.binds .any e).map (·.on)
def tF (l:List Oper) (i s:Nat):Bool:=l.zipIdx.all λx=>x.1.dst !=some s||x.2==i|| (cp x.1).contains i
def jP (l:List Oper):Bool:=l.zipIdx.all λx=>l.zipIdx.all λy=>x.2==y.2||x.1.dst==none||x.1.dst !=y.1.dst
def jg (l:List Oper) (N:Nat):Bool:=l.all λo=>match o.dst with | some d=>decide (d<N) | none=>true
def lq (l:List Oper):Bool:=l.zipIdx.all λx=>(cp x.1).all λj=>decide (j<x.2)
theorem Oc {l:List Oper} {i s:Nat} (h:tF l i s=true) {m:Nat} {o:Oper} (hm:l[m]?=some o) (hd:o.dst=some s):m=i∨i∈cp o:=by
 have:=all_eq_true.1 h (o,m) (by rw[List.mem_zipIdx_iff_getElem?];simpa using hm)
 simp only[hd,bne_self_eq_false,Bool.false_or,Bool.or_eq_true,beq_iff_eq,List.contains_eq_mem,decide_eq_true_eq]at this
 exact this
theorem kA {l:List Oper} (h:jP l=true) {i j:Nat} {o p:Oper} (hi:l[i]?=some o) (hj:l[j]?=some p) {d:Nat} (ho:o.dst=some d) (hp:p.dst=some d):i=j:=by
 have h1:=all_eq_true.1 h (o,i) (by rw[List.mem_zipIdx_iff_getElem?];simpa using hi)
 have h2:=all_eq_true.1 h1 (p,j) (by rw[List.mem_zipIdx_iff_getElem?];simpa using hj)
 simpa [ho,hp]using h2
theorem ix {l:List Oper} {N:Nat} (h:jg l N=true) {i:Nat} {o:Oper} (hi:l[i]?=some o) {d:Nat} (hd:o.dst=some d):d<N:=by
 have h1:=all_eq_true.1 h o (mem_of_getElem? hi)
 simpa [hd]using h1
theorem CX {l:List Oper} (h:lq l=true) {i:Nat} {o:Oper} (hi:l[i]?=some o) {j:Nat} (hj:j∈cp o):j<i:=by
 have h1:=all_eq_true.1 h (o,i) (by rw[List.mem_zipIdx_iff_getElem?];simpa using hi)
 have h2:=all_eq_true.1 h1 j hj
 simpa using h2
def cP (b:Nat->Bool) (i:Nat):Nat->Bool:=λj=>if j=i then true else b j
structure Rn where
 d:Nat
 r:Option Nat
instance {k:Nat}:OfNat Rn k:=⟨⟨k,none⟩⟩
def Rn.F (n:Rn):Fence:= { Fence.wide with round:=n.r }
theorem xN {P:Program} {o:Oper} {ρ:Operand->Value} {w:World} {ro:Option Nat} {x:Next} {w':World} (h:(execOp ρ o).run P w= .ok x w') (Z:∀ d,x≠ .defer d):(o.semAt ro ρ).run P w= .ok x w':=by
 rw[Oper.semAt_eq ro ρ o λc hc=>?_]
 ·exact h
 ·simp only[execOp,hc,Sem.run_bind]at h
  cases hr:(resolve ρ c o.type).run P w with
  | ok d w1=>
   rw[hr]at h
   simp only[Result.andThen_ok]at h
   cases h
   exact Z _ rfl
  | halt e w1=>rw[hr]at h;cases h
section
variable {n:Rn} {P:Program}
def Does (n:Rn) (P:Program) (o:Oper) (a:Act) (w:World) (post:Value->WP):Prop:=
 ∀(K:Act->WP) (Q:Exit->Act->WP),(∀ v w',post v w'->K (a.put o.dst v) w')->o.wpIn n.F n.d P a w K Q
structure Look (S:Nat->Prop) (w:World) (env:List (Nat×AV)) (l:List Oper) (am:Nat->AV) (conds:Nat->Bool) (i:Nat) (a:Act):Prop where
 env:∀(m s:Nat) (av:AV),env[m]?=some (s,av)->tF l i s=true->Rel S w av (a.eval (.tmp s))
 dep:∀(j s:Nat) (o:Oper),l[j]?=some o->o.dst=some s->(match l[i]? with | some o=>(cp o).contains j | none=>false)=true->conds j=true->Rel S w (am j) (a.eval (.tmp s))
def lO (l:List Oper) (am:Nat->AV) (conds:Nat->Bool) (i:Nat) (o:Oper):Prop:=
 match o.guard with
 | none=>conds i=true
 | some (j,pol)=>∃ g p d,l[j]?=some p/\p.dst=some d/\am j= .bool g/\conds i=(conds j&& (g==pol))/\(cp o).contains j=true
structure RInv (K S1 S:Nat->Prop) (w0:World) (N:Nat) (env:List (Nat×AV)) (X:WP) (l:List Oper) (am:Nat->AV) (conds:Nat->Bool) (T:Array Value) (b:Nat->Bool) (a:Act) (w:World):Prop where
 defs:a.defers=[]
 size:a.tmps.size=N
 keep:Keeps K w0 w
 x:X w
 old:∀ s,(∀ i o,l[i]?=some o->o.dst=some s->b i=false)->a.tmps.getD s undef=T.getD s undef
 new:∀ i o d,l[i]?=some o->o.dst=some d->b i=true->conds i=true->Rel S w (am i) (a.tmps.getD d undef)
 skip:∀ i o d,l[i]?=some o->o.dst=some d->b i=true->conds i=false->a.tmps.getD d undef=undef
 closed:∀ i o,l[i]?=some o->b i=true->∀ j∈cp o,b j=true
 sub:∀ k,S1 k->S k
 env:∀ p∈env,p.1<N/\Rel S1 w p.2 (T.getD p.1 undef)
variable {K S1 S:Nat->Prop} {w0:World} {N:Nat} {env:List (Nat×AV)} {X:WP} {l:List Oper} {am:Nat->AV} {conds:Nat->Bool} {T:Array Value}
theorem uC (a:Act) (d:Option Tmp) (v:Value):(a.put d v).tmps.size=a.tmps.size:=by
 cases d<;>simp[Act.put]
theorem uB (a:Act) (d:Option Tmp) (v:Value):(a.put d v).defers=a.defers:=by
 cases d<;>simp[Act.put]
theorem la (a:Act) (d:Nat) (v:Value) (h:d<a.tmps.size):(a.put (some d) v).tmps.getD d undef=v:=by
 simp[Act.put,Array.getD_eq_getD_getElem?,h]
theorem ju (a:Act) (d:Option Tmp) (s:Nat) (v:Value) (h:d≠some s):(a.put d v).tmps.getD s undef=a.tmps.getD s undef:=by
 cases d with
 | none=>rfl
 | some d=>
  have:d≠s:=λe=>h (e▸rfl)
  simp only[Act.put,Array.getD_eq_getD_getElem?]
  rw[Array.getElem?_setIfInBounds_ne this]
theorem RInv.look {b:Nat->Bool} {a:Act} {w:World} (h:RInv K S1 S w0 N env X l am conds T b a w) {i:Nat} {o:Oper} (hi:l[i]?=some o) (hb:b i=false) (hd:∀ j∈cp o,b j=true):
 Look S w env l am conds i a where
 env:=λm s av he hf=>by
  have hs:a.tmps.getD s undef=T.getD s undef:=h.old s λm p hm hp=>by
   rcases Oc hf hm hp with rfl | kl
   ·exact hb
   ·cases fw:b m with
    | false=>rfl
    | true=>
     have:=h.closed m p hm fw i kl
     rw[hb]at this;cases this
  have h1:=h.env (s,av) (mem_of_getElem? he)
  show Rel S w av (a.tmps.getD s undef)
  rw[hs];exact h1.2.sub λk _ hk=>h.sub k hk
 dep:=λj s p hj hs hc l3=>by
  rw[hi]at hc
  have oS:j∈cp o:=by simpa using hc
  exact h.new j p s hj hs (hd j oS) l3
theorem RInv.step {b:Nat->Bool} {a:Act} {w w':World} (h:RInv K S1 S w0 N env X l am conds T b a w) (hu:jP l=true) (hN:jg l N=true) {i:Nat} {o:Oper} (hi:l[i]?=some o) (hb:b i=false) (hd:∀ j∈cp o,b j=true)
 (v:Value) (hk:Keeps All w w') (Z:X w') (hv:conds i=true->Rel S w' (am i) v) (hv':conds i=false->v=undef):RInv K S1 S w0 N env X l am conds T (cP b i) (a.put o.dst v) w' where
 defs:=by rw[uB];exact h.defs
 size:=by rw[uC];exact h.size
 keep:=h.keep.trans (hk.sub λ_ _ _=>trivial)
 x:=Z
 old:=λs hs=>by
  have hne:o.dst≠some s:=λe=>by
   have:=hs i o hi e
   simp[cP]at this
  rw[ju _ _ _ _ hne]
  refine h.old s λm p hm hp=>?_
  have:=hs m p hm hp
  unfold cP at this
  split at this
  ·cases this
  ·exact this
 new:=λm p d hm hp fw dg=>by
  by_cases e:m=i
  ·subst e
   rw[hi]at hm;cases hm
   rw[hp,la _ _ _ (by rw[h.size];exact ix hN hi hp)]
   exact hv dg
  ·have hne:o.dst≠some d:=λe'=>e (kA hu hm hi hp e')
   rw[ju _ _ _ _ hne]
   simp only[cP,if_neg e]at fw
   exact(h.new m p d hm hp fw dg).on hk
 skip:=λm p d hm hp fw dg=>by
  by_cases e:m=i
  ·subst e
   rw[hi]at hm;cases hm
   rw[hp,la _ _ _ (by rw[h.size];exact ix hN hi hp)]
   exact hv' dg
  ·have hne:o.dst≠some d:=λe'=>e (kA hu hm hi hp e')
   rw[ju _ _ _ _ hne]
   simp only[cP,if_neg e]at fw
   exact h.skip m p d hm hp fw dg
 closed:=λm p hm fw j hj=>by
  by_cases e:j=i
  ·simp[cP,e]
  ·simp only[cP,if_neg e]
   by_cases e2:m=i
   ·subst e2
    rw[hi]at hm;cases hm
    exact hd j hj
   ·simp only[cP,if_neg e2]at fw
    exact h.closed m p hm fw j hj
 sub:=h.sub
 env:=λp hp=>⟨(h.env p hp).1,(h.env p hp).2.on hk⟩
theorem RInv.step2 {yA S' T':Nat->Prop} {X':WP} {b:Nat->Bool} {a:Act} {w w':World} (h:RInv K S1 S w0 N env X l am conds T b a w) (hu:jP l=true) (hN:jg l N=true) {i:Nat} {o:Oper} (hi:l[i]?=some o) (hd:∀ j∈cp o,b j=true)
 (v:Value) (hk0:Keeps K w0 w') (hk:Keeps T' w w') (f8:∀ k,k<w.heap.size->S1 k->T' k/\yA k) (hs:∀ k,k<w.heap.size->S k->T' k/\S' k) (hsub:∀ k,yA k->S' k) (Z:X' w') (hc:conds i=true) (hv:Rel S' w' (am i) v):RInv K yA S' w0 N env X' l am conds T (cP b i) (a.put o.dst v) w' where
 defs:=by rw[uB];exact h.defs
 size:=by rw[uC];exact h.size
 keep:=hk0
 x:=Z
 old:=λs hs=>by
  have hne:o.dst≠some s:=λe=>by
   have:=hs i o hi e
   simp[cP]at this
  rw[ju _ _ _ _ hne]
  refine h.old s λm p hm hp=>?_
  have:=hs m p hm hp
  unfold cP at this
  split at this
  ·cases this
  ·exact this
 new:=λm p d hm hp fw dg=>by
  by_cases e:m=i
  ·subst e
   rw[hi]at hm;cases hm
   rw[hp,la _ _ _ (by rw[h.size];exact ix hN hi hp)]
   exact hv
  ·have hne:o.dst≠some d:=λe'=>e (kA hu hm hi hp e')
   rw[ju _ _ _ _ hne]
   simp only[cP,if_neg e]at fw
   exact Rel.move hk hs (h.new m p d hm hp fw dg)
 skip:=λm p d hm hp fw dg=>by
  by_cases e:m=i
  ·subst e
   rw[hc]at dg;cases dg
  ·have hne:o.dst≠some d:=λe'=>e (kA hu hm hi hp e')
   rw[ju _ _ _ _ hne]
   simp only[cP,if_neg e]at fw
   exact h.skip m p d hm hp fw dg
 closed:=λm p hm fw j hj=>by
  by_cases e:j=i
  ·simp[cP,e]
  ·simp only[cP,if_neg e]
   by_cases e2:m=i
   ·subst e2
    rw[hi]at hm;cases hm
    exact hd j hj
   ·simp only[cP,if_neg e2]at fw
    exact h.closed m p hm fw j hj
 sub:=hsub
 env:=λp hp=>⟨(h.env p hp).1,Rel.move hk f8 (h.env p hp).2⟩
def Ob (n:Rn) (P:Program) (K S:Nat->Prop) (w0:World) (env:List (Nat×AV)) (X:WP) (l:List Oper) (am:Nat->AV) (conds:Nat->Bool) (i:Nat) (o:Oper):Prop:=
 lO l am conds i o/\∀ a w,Keeps K w0 w->X w->Look S w env l am conds i a->conds i=true->Does n P o a w λv w'=>Rel S w' (am i) v/\Keeps All w w'/\X w'
def lk (p:Nat->Oper->Prop):Nat->List Oper->Prop
 | _,[]=>True
 | k,o::r=>p k o/\lk p (k+1) r
theorem se {p:Nat->Oper->Prop}:∀(l:List Oper) (k:Nat),lk p k l->∀ i o,l[i]?=some o->p (k+i) o
 | [],_,_,i,o,h=>by simp at h
 | x::r,k,⟨h1,h2⟩,i,o,h=>by
  cases i with
  | zero=>simp at h;subst h;exact h1
  | succ i=>have:=se r (k+1) h2 i o (by simpa using h);rwa [Nat.add_assoc,Nat.add_comm 1 i]at this
theorem Gv {o:Oper} {j:Nat}:j∈cp o↔ ∃ e∈o.after,Region.binds .any e=true/\e.on=j:=by
 simp[cp,and_assoc]
theorem RInv.tc {b:Nat->Bool} {a:Act} {w:World} {Q:Exit->Act->WP} {rest:List Oper} (h:RInv K S1 S w0 N env X l am conds T b a w) (hu:jP l=true) (hN:jg l N=true) {i:Nat} {o:Oper} (hi:l[i]?=some o) (hb:b i=false) (hd:∀ j∈cp o,b j=true)
 (ob:Ob n P K S w0 env X l am conds i o) (hK:∀ a' w',RInv K S1 S w0 N env X l am conds T (cP b i) a' w'->(∀ d,o.dst≠some d->a'.tmps.getD d undef=a.tmps.getD d undef)->wpListIn n.F n.d P l.toArray Q rest a' w'):wpListIn n.F n.d P l.toArray Q (o::rest) a w:=by
 refine wpListIn_step λK' hKr=>?_
 obtain⟨hg,gp⟩:=ob
 have Pp:=h.look hi hb hd
 cases hc:conds i with
 | true=>
  have hw:Region.wanted o (yielded l.toArray a.tmps)=true:=by
   unfold Region.wanted
   unfold lO at hg
   split
   ·rfl
   ·rename_i j pol k5
    rw[k5]at hg
    obtain⟨g,p,d,hj,km,cR,l3,tL⟩:=hg
    rw[hc]at l3
    have tJ:conds j=true/\(g==pol)=true:=by simpa using l3.symm
    have oS:j∈cp o:=by simpa using tL
    have hrel:=h.new j p d hj km (hd j oS) tJ.1
    rw[cR]at hrel
    have ei:=hrel.lit
    have hlt:d<a.tmps.size:=by rw[h.size];exact ix hN hj km
    have dD:a.tmps[d]?=some (.bool g):=by
     rw[Array.getD_eq_getD_getElem?,Array.getElem?_eq_getElem hlt]at ei
     rw[Array.getElem?_eq_getElem hlt];simpa using ei
    have tP:g=pol:=by simpa using tJ.2
    simp only[yielded,List.getElem?_toArray,hj,Option.bind_some,km,dD,tP]
    simp
  rw[if_pos hw]
  refine gp a w h.keep h.x Pp hc K' Q λv w' ⟨h1,h2,h3⟩=>hKr _ _ (hK _ _ (h.step hu hN hi hb hd v h2 h3 (λ_=>h1) λe=>by rw[hc]at e;cases e) λd hd=>ju _ _ _ _ hd)
 | false=>
  have hw:Region.wanted o (yielded l.toArray a.tmps)=false:=by
   unfold Region.wanted
   unfold lO at hg
   split
   ·rename_i k5
    rw[k5]at hg
    rw[hc]at hg;cases hg
   ·rename_i j pol k5
    rw[k5]at hg
    obtain⟨g,p,d,hj,km,cR,l3,tL⟩:=hg
    rw[hc]at l3
    have oS:j∈cp o:=by simpa using tL
    have hlt:d<a.tmps.size:=by rw[h.size];exact ix hN hj km
    simp only[yielded,List.getElem?_toArray,hj,Option.bind_some,km]
    cases hcc:conds j with
    | true=>
     have hrel:=h.new j p d hj km (hd j oS) hcc
     rw[cR]at hrel
     have ei:=hrel.lit
     have dD:a.tmps[d]?=some (.bool g):=by
      rw[Array.getD_eq_getD_getElem?,Array.getElem?_eq_getElem hlt]at ei
      rw[Array.getElem?_eq_getElem hlt];simpa using ei
     rw[hcc]at l3
     have tP:¬ g=pol:=by
      intro e;subst e;simp at l3
     simp only[dD]
     cases g<;>cases pol<;>simp at tP ⊢
    | false=>
     have ei:=h.skip j p d hj km (hd j oS) hcc
     have dD:a.tmps[d]?=some undef:=by
      rw[Array.getD_eq_getD_getElem?,Array.getElem?_eq_getElem hlt]at ei
      rw[Array.getElem?_eq_getElem hlt];simpa using ei
     simp[dD,undef]
  rw[hw]
  refine⟨λ_ _=>trivial,hKr _ _ (hK _ _ (h.step hu hN hi hb hd undef (Keeps.refl _ _) h.x (λe=>by rw[hc]at e;cases e) λ_=>rfl) λd hd=>ju _ _ _ _ hd)⟩
theorem RInv.does {b:Nat->Bool} {a:Act} {w:World} {Q:Exit->Act->WP} {rest:List Oper} (h:RInv K S1 S w0 N env X l am conds T b a w) (hu:jP l=true) (hN:jg l N=true) {i:Nat} {o:Oper} (hi:l[i]?=some o) (hb:b i=false) (hd:∀ j∈cp o,b j=true)
 (ob:Ob n P K S w0 env X l am conds i o) (hK:∀ a' w',RInv K S1 S w0 N env X l am conds T (cP b i) a' w'->wpListIn n.F n.d P l.toArray Q rest a' w'):wpListIn n.F n.d P l.toArray Q (o::rest) a w:=
 h.tc hu hN hi hb hd ob λa' w' h' _=>hK a' w' h'
def t8 (l:Array Bool):Nat:=l.toList.countP (· ==false)
theorem F4 {l:Array Bool} {i:Nat} (h:l.getD i true=false):t8 (l.setIfInBounds i true)+1=t8 l:=by
 obtain⟨l⟩:=l
 have hi:i<l.length:=by
  rcases Nat.lt_or_ge i l.length with h' | h'
  ·exact h'
  ·rw[Array.getD_eq_getD_getElem?,Array.getElem?_eq_none (by simpa using h')]at h
   simp at h
 have hv:l[i]=false:=by simpa [Array.getD,hi]using h
 simp only[t8,List.setIfInBounds_toArray]
 have h1:=List.countP_set (p:=(· ==false)) (l:=l) (i:=i) (a:=true) hi
 have h2:0<l.countP (· ==false):=List.countP_pos_iff.2 ⟨l[i],List.getElem_mem hi,by simp[hv]⟩
 rw[h1,hv,if_pos (by rfl),if_neg yz]
 omega
theorem Uz {l:List Oper} {d:Array Bool} (hl:d.size=l.length) (hs:lq l=true) (h:Region.ready .any l.toArray d=[]):∀ i,i<l.length->d.getD i false=true:=by
 intro i
 induction i using Nat.strongRecOn with
 | ind i ih=>
  intro hi
  have rM:i<d.size:=by omega
  cases hv:d.getD i false with
  | true=>rfl
  | false=>
   have hm:i∈Region.ready .any l.toArray d:=mem_ready.2 ⟨by simpa [Array.getD,rM]using hv,l[i],by simp[hi],λe he hb=>by
    have h1:e.on<i:=CX hs (List.getElem?_eq_getElem hi) (Gv.2 ⟨e,he,hb,rfl⟩)
    exact ih e.on h1 oz⟩
   rw[h]at hm
   cases hm
theorem Xg {i:Nat} {o:Oper} {ops:Array Oper} {Q:Exit->Act->WP} (ho:ops[i]?=some o) {K:Act->WP} {a:Act} {w:World}
 (h:wpListIn n.F n.d P ops (Exit.then K Q) [o] a w):wpOpIn n.F n.d P ops Q i K a w:=by
 unfold wpOpIn
 simp only[ho]
 simp only[wpListIn]at h
 have then_:∀ {r:Result Next},o.uponIn n.F n.d P a K (Exit.then K Q) r->o.uponIn n.F n.d P a K Q r:=λ{r} h=>by
  cases r with
  | ok x w'=>
   cases x<;>simp only[Oper.uponIn]at h ⊢ <;>
    first
     | exact h
     | exact⟨h.1,h.2.mono λe w'' he=>by cases e<;>exact he⟩
     | exact⟨h.1,RoundIn.mono h.2 λe w'' he=>by cases e<;>exact he⟩
     | exact⟨h.1,RowsIn.mono h.2 λe w'' he=>he⟩
  | halt x w'=>cases x<;>simp only[Oper.uponIn]at h ⊢ <;>exact h
 split
 ·rename_i hw
  rw[if_pos hw]at h
  exact⟨h.1,then_ h.2⟩
 ·rename_i hw
  rw[if_neg hw]at h
  exact h
section
variable {Q:Exit->Act->WP}
theorem xH {Pn:List PanicEntry->Act->WP} {I:(Nat->Bool)->Act->WP} {id:Nat} {draw:Bool} {a:Act} {w:World} (hP:∀ ch a w,Pn ch a w->Q (.panic ch) a w) (hm:P.follows .mixedOrders=true) (hback:lq l=true)
 (hstep:∀(Q:Exit->Act->WP),(∀ ch a w,Pn ch a w->Q (.panic ch) a w)->∀(b:Nat->Bool) (a:Act) (w:World) (i:Nat) (o:Oper) (rest:List Oper),l[i]?=some o->b i=false->(∀ j∈cp o,b j=true)->I b a w->(∀ a' w',I (cP b i) a' w'->wpListIn n.F n.d P l.toArray Q rest a' w')->wpListIn n.F n.d P l.toArray Q (o::rest) a w)
 (hend:∀ a w,I (λi=>decide (i<l.length)) a w->Q .normal a w) (h0:I (λ_=>false) a w) (hd:I (λ_=>false) a w.drew):(Code.region id l.toArray draw).wpIn n.F n.d P Q a w:=by
 have ac:∀(r:List Oper) (k:Nat) (a:Act) (w:World),k+r.length=l.length->l.drop k=r->I (λi=>decide (i<k)) a w->wpListIn n.F n.d P l.toArray Q r a w:=by
  intro r
  induction r with
  | nil=>
   intro k a w hl _ h
   simp only[List.length_nil,Nat.add_zero]at hl
   subst hl
   exact wpListIn_nil (hend _ _ h)
  | cons o r ih=>
   intro k a w hl hr h
   simp only[List.length_cons]at hl
   have hi:l[k]?=some o:=by
    have:(l.drop k)[0]?=some o:=by rw[hr];rfl
    simpa [List.getElem?_drop]using this
   refine hstep Q hP _ a w k o r hi yz (λj hj=>by have:=CX hback hi hj;simpa using this) h λa' w' h'=>?_
   refine ih (k+1) a' w' oz ?_ ?_
   ·have:l.drop (k+1)=(l.drop k).drop 1:=by rw[List.drop_drop]
    rw[this,hr];rfl
   ·have he:(λi=>decide (i<k+1))=cP (λi=>decide (i<k)) k:=by
     funext i
     unfold cP
     by_cases e:i=k
     ·simp[e]
     ·rw[if_neg e]
      congr 1
      apply propext
      omega
    rw[he];exact h'
 have fin:∀(d:Array Bool) (a:Act) (w:World),d.size=l.length->I (λi=>d.getD i false) a w->Region.ready .any l.toArray d=[]->Q .normal a w:=λd a w hl h oT=>by
  have nT:=Uz hl hback oT
  have he:(λi=>d.getD i false)=λi=>decide (i<l.length):=by
   funext i
   by_cases hi:i<l.length
   ·simp[nT i hi,hi]
   ·simp only[hi,decide_false]
    rw[Array.getD_eq_getD_getElem?,Array.getElem?_eq_none oz]
    rfl
  rw[he]at h
  exact hend _ _ h
 have any:∀(fuel:Nat) (d:Array Bool) (a:Act) (w:World),d.size=l.length->t8 d<=fuel->I (λi=>d.getD i false) a w->wpAnyIn n.F n.d P .any l.toArray Q fuel d a w:=by
  intro fuel
  induction fuel with
  | zero=>
   intro d a w hl hf h
   have oT:Region.ready .any l.toArray d=[]:=by
    cases hr:Region.ready .any l.toArray d with
    | nil=>rfl
    | cons x xs=>
     have Z:x∈Region.ready .any l.toArray d:=by rw[hr];simp
     have:=F4 (mem_ready.1 Z).1
     omega
   exact⟨oT,fin d a w hl h oT⟩
  | succ fuel ih=>
   intro d a w hl hf h
   refine⟨λoT=>fin d a w hl h oT,λi hr=>?_⟩
   obtain⟨h1,o,ho,h2⟩:=mem_ready.1 hr
   have ho':l[i]?=some o:=by simpa using ho
   have rM:i<d.size:=by rw[hl];exact(List.getElem?_eq_some_iff.1 ho').1
   refine Xg ho (hstep (Exit.then _ Q) (λch a w h=>hP ch a w h) _ a w i o [] ho' (by simpa [Array.getD,rM]using h1) (λj hj=>?_) h λa' w' h'=>?_)
   ·obtain⟨e,he,hb,rfl⟩:=Gv.1 hj
    exact h2 e he hb
   ·refine wpListIn_nil (ih _ a' w' (by simpa using hl) (by have:=F4 h1;omega) ?_)
    have he:(λj=>(d.setIfInBounds i true).getD j false)=cP (λj=>d.getD j false) i:=by
     funext j
     by_cases hj:j=i
     ·subst hj
      simp[cP,Array.getD,rM]
     ·simp only[cP,if_neg hj,Array.getD_eq_getD_getElem?]
      rw[Array.getElem?_setIfInBounds_ne (λe=>hj e.symm)]
    rw[he];exact h'
 cases draw with
 | false=>
  refine wpIn_region_lit (ac l 0 a w yz rfl ?_)
  have he:(λi=>decide (i<0))=λ_:Nat=>false:=by funext i;simp
  rw[he];exact h0
 | true=>
  refine wpIn_region_any hm (any _ _ a _ yz ?_ ?_)
  ·simp only[t8]
   exact Nat.le_trans List.countP_le_length yz
  ·have he:(λi=>(Array.replicate l.toArray.size false).getD i false)=λ_=>false:=by
    funext i
    simp[Array.getD]
   rw[he]
   exact hd
end
structure St (K S:Nat->Prop) (w0:World) (N:Nat) (env:List (Nat×AV)) (X:WP) (a:Act) (w:World):Prop where
 defs:a.defers=[]
 size:a.tmps.size=N
 keep:Keeps K w0 w
 x:X w
 env:∀ p∈env,p.1<N/\Rel S w p.2 (a.tmps.getD p.1 undef)
inductive u6 (S1 S:Nat->Prop) (env:List (Nat×AV)) (l:List Oper) (am:Nat->AV) (conds:Nat->Bool):Nat×AV->Prop where
 | old (m s:Nat) (av:AV) (h:env[m]?=some (s,av)) (hn:(l.all λo=>o.dst !=some s)=true):u6 S1 S env l am conds (s,av)
 | new (i s:Nat) (av:AV) (h:(l[i]?).bind (·.dst)=some s) (hc:conds i=true) (he:am i=av) (hs:(∃ v,av= .lit v)∨ ∀ k,S k->S1 k):u6 S1 S env l am conds (s,av)
def sL (S1 S:Nat->Prop) (env:List (Nat×AV)) (l:List Oper) (am:Nat->AV) (conds:Nat->Bool):List (Nat×AV)->Prop
 | []=>True
 | p::r=>u6 S1 S env l am conds p/\sL S1 S env l am conds r
theorem sL.mem {env env':List (Nat×AV)} {l:List Oper} {am:Nat->AV} {conds:Nat->Bool} (h:sL S1 S env l am conds env'):∀ p∈env',u6 S1 S env l am conds p:=by
 induction env' with
 | nil=>intro p hp;cases hp
 | cons q r ih=>
  intro p hp
  rcases List.mem_cons.1 hp with rfl | hp
  ·exact h.1
  ·exact ih h.2 p hp
theorem Ii {id:Nat} {draw:Bool} {Q:Exit->Act->WP} {a:Act} {w:World} (am:Nat->AV) (conds:Nat->Bool) (env':List (Nat×AV)) (h:St K S1 w0 N env X a w) (hsub:∀ k,S1 k->S k) (hm:P.follows .mixedOrders=true) (hu:jP l=true) (hN:jg l N=true) (hback:lq l=true) (Z:∀ w,X w->X w.drew)
 (ob:lk (Ob n P K S w0 env X l am conds) 0 l) (hf:sL S1 S env l am conds env') (hq:∀ a w,St K S1 w0 N env' X a w->Q .normal a w):(Code.region id l.toArray draw).wpIn n.F n.d P Q a w:=by
 have hq':∀ a' w',RInv K S1 S w0 N env X l am conds a.tmps (λi=>decide (i<l.length)) a' w'->Q .normal a' w':=λa' w' r=>by
  refine hq a' w' ⟨r.defs,r.size,r.keep,r.x,λp hp=>?_⟩
  cases hf.mem p hp with
  | old m s av he hn=>
   have h1:=r.env (s,av) (mem_of_getElem? he)
   refine⟨h1.1,?_⟩
   show Rel S1 w' av (a'.tmps.getD s undef)
   rw[r.old s λi o hi ho=>by
    have:=all_eq_true.1 hn o (mem_of_getElem? hi)
    simp[ho]at this]
   exact h1.2
  | new i s av hs hc he O6=>
   cases hi:l[i]? with
   | none=>rw[hi]at hs;cases hs
   | some o=>
    rw[hi]at hs
    have hs':o.dst=some s:=hs
    have hlt:i<l.length:=(List.getElem?_eq_some_iff.1 hi).1
    refine⟨ix hN hi hs',?_⟩
    have hr:=r.new i o s hi hs' (by simpa using hlt) hc
    rw[he]at hr
    rcases O6 with⟨v,rfl⟩ | hk
    ·simp only
     rw[hr.lit]
     exact Rel.aH _ hr.sf
    ·exact hr.sub λk _ h=>hk k h
 have start:∀ w',Keeps All w w'->X w'->RInv K S1 S w0 N env X l am conds a.tmps (λ_=>false) a w':=λw' hk hx'=>
  ⟨h.defs,h.size,h.keep.trans (hk.sub λ_ _ _=>trivial),hx',λ_ _=>rfl,λ_ _ _ _ _ e _=>(by cases e),λ_ _ _ _ _ e _=>(by cases e),λ_ _ _ e=>(by cases e),hsub,λp hp=>⟨(h.env p hp).1,(h.env p hp).2.on hk⟩⟩
 refine xH (Pn:=λ_ _ _=>False) (I:=λb a' w'=>RInv K S1 S w0 N env X l am conds a.tmps b a' w') (λ_ _ _ h=>h.elim) hm hback (λQ _ b a1 w1 i o rest hi hb hd h hK=>?_) (λa1 w1 h=>hq' a1 w1 h) (start w (Keeps.refl _ _) h.x) (start w.drew ((Keeps.refl _ _).drew) (Z w h.x))
 have gp:=se l 0 ob i o hi
 rw[Nat.zero_add]at gp
 exact h.does hu hN hi hb hd gp hK
end
end Go.Proofs.YtdfadihhfppjaaaGreatDoor
