/-
  THE ENGINE: slots that read as data; a region of operations, in whatever order, walked operation by operation.
-/
import Derived.Test.YtdfadihhfppjaaaGreatDoorQC
import Derived.OrdersIn
import Derived.TacticsIn
namespace Go.Proofs.YtdfadihhfppjaaaGreatDoor
open Go.RowKit
inductive AV where
 | rd (c:CD)
 | agg (cs:List CD)
 | ptr (cs:List CD)
 | tup (l:List AV)
 | fn (f:FuncId) (caps:List AV)
 | any
mutual
def Rel (S:Nat→Prop) (w:World):AV→Value→Prop
 | .rd c,v=>Rd S w c v
 | .agg cs,v=>∃ us:List Value,v= .agg us.toArray∧RdL S w cs us
 | .ptr cs,v=>∃ b off,∃ us:List Value,v= .pointer (some ⟨b,off,none⟩)∧b<w.heap.size∧S b∧RdL S w cs us∧∀ j u,us[j]?=some u→w.cell? ⟨b,off+j,none⟩=some u
 | .tup l,v=>∃ us:List Value,v= .tuple us.toArray∧RelL S w l us
 | .fn f caps,v=>∃ us:List Value,v= .func (.func f) #[] us.toArray∧RelL S w caps us
 | .any,_=>True
def RelL (S:Nat→Prop) (w:World):List AV→List Value→Prop
 | [],us=>us=[]
 | a::l,us=>∃ u us',us=u::us'∧Rel S w a u∧RelL S w l us'
end
mutual
theorem Rel.move {S S' T:Nat→Prop} {w w':World} (hk:Keeps T w w') (hs:∀ k,k<w.heap.size→S k→T k∧S' k):∀ {a:AV} {v:Value},Rel S w a v→Rel S' w' a v
 | .rd c,v,h=>by
  simp only[Rel]at h ⊢
  exact h.move hk hs
 | .agg cs,v,h=>by
  simp only[Rel]at h ⊢
  obtain⟨us,hv,h⟩:=h
  exact⟨us,hv,h.move hk hs⟩
 | .ptr cs,v,h=>by
  simp only[Rel]at h ⊢
  obtain⟨b,off,us,hv,hb,hS,hr,hc⟩:=h
  exact⟨b,off,us,hv,by have:=hk.size;omega,(hs b hb hS).2,hr.move hk hs,fun j u hj=>hk.cell (hs b hb hS).1 (hc j u hj)⟩
 | .tup l,v,h=>by
  simp only[Rel]at h ⊢
  obtain⟨us,hv,h⟩:=h
  exact⟨us,hv,RelL.move hk hs h⟩
 | .fn f caps,v,h=>by
  simp only[Rel]at h ⊢
  obtain⟨us,hv,h⟩:=h
  exact⟨us,hv,RelL.move hk hs h⟩
 | .any,_,_=>by simp only[Rel]
theorem RelL.move {S S' T:Nat→Prop} {w w':World} (hk:Keeps T w w') (hs:∀ k,k<w.heap.size→S k→T k∧S' k):∀ {l:List AV} {us:List Value},RelL S w l us→RelL S' w' l us
 | [],us,h=>by simp only[RelL]at h ⊢;exact h
 | a::l,us,h=>by
  simp only[RelL]at h ⊢
  obtain⟨u,us',rfl,h1,h2⟩:=h
  exact⟨u,us',rfl,Rel.move hk hs h1,RelL.move hk hs h2⟩
end
theorem Rel.on {S:Nat→Prop} {w w':World} {a:AV} {v:Value} (h:Rel S w a v) (hk:Keeps All w w'):Rel S w' a v:=Rel.move hk (fun _ _ h=>⟨trivial,h⟩) h
theorem Rel.sub {S T:Nat→Prop} {w:World} {a:AV} {v:Value} (h:Rel S w a v) (hs:∀ k,k<w.heap.size→S k→T k):Rel T w a v:=Rel.move (Keeps.refl All w) (fun k hk h=>⟨trivial,hs k hk h⟩) h
theorem RelL.sub {S T:Nat→Prop} {w:World} {l:List AV} {us:List Value} (h:RelL S w l us) (hs:∀ k,k<w.heap.size→S k→T k):RelL T w l us:=RelL.move (Keeps.refl All w) (fun k hk h=>⟨trivial,hs k hk h⟩) h
theorem Rel.lit {S:Nat→Prop} {w:World} {x v:Value} (h:Rel S w (.rd (.lit x)) v):v=x:=by
 simp only[Rel]at h
 exact h.of_lit
theorem Rel.of_lit {S:Nat→Prop} {w:World} (x:Value) (hx:okLit x:=by exact True.intro):Rel S w (.rd (.lit x)) x:=by
 simp only[Rel]
 exact .lit x hx
theorem Rel.okl {S:Nat→Prop} {w:World} {x v:Value} (h:Rel S w (.rd (.lit x)) v):okLit x:=by
 simp only[Rel]at h
 exact h.okl
abbrev AV.lit (v:Value):AV:=.rd (.lit v)
abbrev AV.int (n:Int):AV:=.rd (.lit (.int .i64 n))
abbrev AV.bool (b:Bool):AV:=.rd (.lit (.bool b))
abbrev AV.str (s:BA):AV:=.rd (.lit (.string s))
def ZL (o:Oper):List Nat:=(o.after.toList.filter fun e=>Region.binds .any e).map (·.on)
def ZiT (l:List Oper) (i s:Nat):Bool:=l.zipIdx.all fun x=>x.1.dst !=some s||x.2==i|| (ZL x.1).contains i
def Y4 (l:List Oper):Bool:=l.zipIdx.all fun x=>l.zipIdx.all fun y=>x.2==y.2||x.1.dst==none||x.1.dst !=y.1.dst
def Q9 (l:List Oper) (N:Nat):Bool:=l.all fun o=>match o.dst with | some d=>decide (d<N) | none=>true
def Zbm (l:List Oper):Bool:=l.zipIdx.all fun x=>(ZL x.1).all fun j=>decide (j<x.2)
theorem Zkh {l:List Oper} {i s:Nat} (h:ZiT l i s=true) {m:Nat} {o:Oper} (hm:l[m]?=some o) (hd:o.dst=some s):m=i∨i∈ZL o:=by
 have:=List.all_eq_true.1 h (o,m) (by rw[List.mem_zipIdx_iff_getElem?];simpa using hm)
 simp only[hd,bne_self_eq_false,Bool.false_or,Bool.or_eq_true,beq_iff_eq,List.contains_eq_mem,decide_eq_true_eq]at this
 exact this
theorem Yg {l:List Oper} (h:Y4 l=true) {i j:Nat} {o p:Oper} (hi:l[i]?=some o) (hj:l[j]?=some p) {d:Nat} (ho:o.dst=some d) (hp:p.dst=some d):i=j:=by
 have h1:=List.all_eq_true.1 h (o,i) (by rw[List.mem_zipIdx_iff_getElem?];simpa using hi)
 have h2:=List.all_eq_true.1 h1 (p,j) (by rw[List.mem_zipIdx_iff_getElem?];simpa using hj)
 simpa [ho,hp]using h2
theorem Z7 {l:List Oper} {N:Nat} (h:Q9 l N=true) {i:Nat} {o:Oper} (hi:l[i]?=some o) {d:Nat} (hd:o.dst=some d):d<N:=by
 have h1:=List.all_eq_true.1 h o (List.mem_of_getElem? hi)
 simpa [hd]using h1
theorem Za1 {l:List Oper} (h:Zbm l=true) {i:Nat} {o:Oper} (hi:l[i]?=some o) {j:Nat} (hj:j∈ZL o):j<i:=by
 have h1:=List.all_eq_true.1 h (o,i) (by rw[List.mem_zipIdx_iff_getElem?];simpa using hi)
 have h2:=List.all_eq_true.1 h1 j hj
 simpa using h2
def Ye (b:Nat→Bool) (i:Nat):Nat→Bool:=fun j=>if j=i then true else b j
structure Rn where
 d:Nat
 r:Option Nat
instance {k:Nat}:OfNat Rn k:=⟨⟨k,none⟩⟩
def Rn.F (n:Rn):Fence:= { Fence.wide with round:=n.r }
theorem Zcy {P:Program} {o:Oper} {ρ:Operand→Value} {w:World} {ro:Option Nat} {x:Next} {w':World} (h:(execOp ρ o).run P w= .ok x w') (hx:∀ d,x≠ .defer d):(o.semAt ro ρ).run P w= .ok x w':=by
 rw[Oper.semAt_eq ro ρ o fun c hc=>?_]
 · exact h
 · simp only[execOp,hc,Sem.run_bind]at h
   cases hr:(resolve ρ c o.type).run P w with
   | ok d w1=>
    rw[hr]at h
    simp only[Result.andThen_ok]at h
    cases h
    exact hx _ rfl
   | halt e w1=>rw[hr]at h;cases h
section
variable {n:Rn} {P:Program}
def Does (n:Rn) (P:Program) (o:Oper) (a:Act) (w:World) (post:Value→WP):Prop:=
 ∀(K:Act→WP) (Q:Exit→Act→WP),(∀ v w',post v w'→K (a.put o.dst v) w')→o.wpIn n.F n.d P a w K Q
structure Look (S:Nat→Prop) (w:World) (env:List (Nat×AV)) (l:List Oper) (avs:Nat→AV) (conds:Nat→Bool) (i:Nat) (a:Act):Prop where
 env:∀(m s:Nat) (av:AV),env[m]?=some (s,av)→ZiT l i s=true→Rel S w av (a.eval (.tmp s))
 dep:∀(j s:Nat) (o:Oper),l[j]?=some o→o.dst=some s→(match l[i]? with | some o=>(ZL o).contains j | none=>false)=true→conds j=true→Rel S w (avs j) (a.eval (.tmp s))
def Zae (l:List Oper) (avs:Nat→AV) (conds:Nat→Bool) (i:Nat) (o:Oper):Prop:=
 match o.guard with
 | none=>conds i=true
 | some (j,pol)=>∃ g p d,l[j]?=some p∧p.dst=some d∧avs j= .bool g∧conds i=(conds j&& (g==pol))∧(ZL o).contains j=true
structure RInv (K S1 S:Nat→Prop) (w0:World) (N:Nat) (env:List (Nat×AV)) (X:WP) (l:List Oper) (avs:Nat→AV) (conds:Nat→Bool) (T:Array Value) (b:Nat→Bool) (a:Act) (w:World):Prop where
 defs:a.defers=[]
 size:a.tmps.size=N
 keep:Keeps K w0 w
 x:X w
 old:∀ s,(∀ i o,l[i]?=some o→o.dst=some s→b i=false)→a.tmps.getD s undef=T.getD s undef
 new:∀ i o d,l[i]?=some o→o.dst=some d→b i=true→conds i=true→Rel S w (avs i) (a.tmps.getD d undef)
 skip:∀ i o d,l[i]?=some o→o.dst=some d→b i=true→conds i=false→a.tmps.getD d undef=undef
 closed:∀ i o,l[i]?=some o→b i=true→∀ j∈ZL o,b j=true
 sub:∀ k,S1 k→S k
 env:∀ p∈env,p.1<N∧Rel S1 w p.2 (T.getD p.1 undef)
variable {K S1 S:Nat→Prop} {w0:World} {N:Nat} {env:List (Nat×AV)} {X:WP} {l:List Oper} {avs:Nat→AV} {conds:Nat→Bool} {T:Array Value}
theorem ZcE (a:Act) (d:Option Tmp) (v:Value):(a.put d v).tmps.size=a.tmps.size:=by
 cases d<;>simp[Act.put]
theorem ZaN (a:Act) (d:Option Tmp) (v:Value):(a.put d v).defers=a.defers:=by
 cases d<;>simp[Act.put]
theorem XM (a:Act) (d:Nat) (v:Value) (h:d<a.tmps.size):(a.put (some d) v).tmps.getD d undef=v:=by
 simp[Act.put,Array.getD_eq_getD_getElem?,h]
theorem YB (a:Act) (d:Option Tmp) (s:Nat) (v:Value) (h:d≠some s):(a.put d v).tmps.getD s undef=a.tmps.getD s undef:=by
 cases d with
 | none=>rfl
 | some d=>
  have:d≠s:=fun e=>h (e▸rfl)
  simp only[Act.put,Array.getD_eq_getD_getElem?]
  rw[Array.getElem?_setIfInBounds_ne this]
theorem RInv.look {b:Nat→Bool} {a:Act} {w:World} (h:RInv K S1 S w0 N env X l avs conds T b a w) {i:Nat} {o:Oper} (hi:l[i]?=some o) (hb:b i=false) (hd:∀ j∈ZL o,b j=true):
 Look S w env l avs conds i a where
 env:=fun m s av he hf=>by
  have hs:a.tmps.getD s undef=T.getD s undef:=h.old s fun m p hm hp=>by
   rcases Zkh hf hm hp with rfl | hmem
   · exact hb
   · cases hbm:b m with
     | false=>rfl
     | true=>
      have:=h.closed m p hm hbm i hmem
      rw[hb]at this;cases this
  have h1:=h.env (s,av) (List.mem_of_getElem? he)
  show Rel S w av (a.tmps.getD s undef)
  rw[hs];exact h1.2.sub fun k _ hk=>h.sub k hk
 dep:=fun j s p hj hs hc hcj=>by
  rw[hi]at hc
  have hjd:j∈ZL o:=by simpa using hc
  exact h.new j p s hj hs (hd j hjd) hcj
theorem RInv.step {b:Nat→Bool} {a:Act} {w w':World} (h:RInv K S1 S w0 N env X l avs conds T b a w) (hu:Y4 l=true) (hN:Q9 l N=true) {i:Nat} {o:Oper} (hi:l[i]?=some o) (hb:b i=false) (hd:∀ j∈ZL o,b j=true)
 (v:Value) (hk:Keeps All w w') (hx:X w') (hv:conds i=true→Rel S w' (avs i) v) (hv':conds i=false→v=undef):RInv K S1 S w0 N env X l avs conds T (Ye b i) (a.put o.dst v) w' where
 defs:=by rw[ZaN];exact h.defs
 size:=by rw[ZcE];exact h.size
 keep:=h.keep.trans (hk.sub fun _ _ _=>trivial)
 x:=hx
 old:=fun s hs=>by
  have hne:o.dst≠some s:=fun e=>by
   have:=hs i o hi e
   simp[Ye]at this
  rw[YB _ _ _ _ hne]
  refine h.old s fun m p hm hp=>?_
  have:=hs m p hm hp
  unfold Ye at this
  split at this
  · cases this
  · exact this
 new:=fun m p d hm hp hbm hcm=>by
  by_cases e:m=i
  · subst e
    rw[hi]at hm;cases hm
    rw[hp,XM _ _ _ (by rw[h.size];exact Z7 hN hi hp)]
    exact hv hcm
  · have hne:o.dst≠some d:=fun e'=>e (Yg hu hm hi hp e')
    rw[YB _ _ _ _ hne]
    simp only[Ye,if_neg e]at hbm
    exact(h.new m p d hm hp hbm hcm).on hk
 skip:=fun m p d hm hp hbm hcm=>by
  by_cases e:m=i
  · subst e
    rw[hi]at hm;cases hm
    rw[hp,XM _ _ _ (by rw[h.size];exact Z7 hN hi hp)]
    exact hv' hcm
  · have hne:o.dst≠some d:=fun e'=>e (Yg hu hm hi hp e')
    rw[YB _ _ _ _ hne]
    simp only[Ye,if_neg e]at hbm
    exact h.skip m p d hm hp hbm hcm
 closed:=fun m p hm hbm j hj=>by
  by_cases e:j=i
  · simp[Ye,e]
  · simp only[Ye,if_neg e]
    by_cases e2:m=i
    · subst e2
      rw[hi]at hm;cases hm
      exact hd j hj
    · simp only[Ye,if_neg e2]at hbm
      exact h.closed m p hm hbm j hj
 sub:=h.sub
 env:=fun p hp=>⟨(h.env p hp).1,(h.env p hp).2.on hk⟩
theorem RInv.step2 {S1' S' T':Nat→Prop} {X':WP} {b:Nat→Bool} {a:Act} {w w':World} (h:RInv K S1 S w0 N env X l avs conds T b a w) (hu:Y4 l=true) (hN:Q9 l N=true) {i:Nat} {o:Oper} (hi:l[i]?=some o) (hd:∀ j∈ZL o,b j=true)
 (v:Value) (hk0:Keeps K w0 w') (hk:Keeps T' w w') (hs1:∀ k,k<w.heap.size→S1 k→T' k∧S1' k) (hs:∀ k,k<w.heap.size→S k→T' k∧S' k) (hsub:∀ k,S1' k→S' k) (hx:X' w') (hc:conds i=true) (hv:Rel S' w' (avs i) v):RInv K S1' S' w0 N env X' l avs conds T (Ye b i) (a.put o.dst v) w' where
 defs:=by rw[ZaN];exact h.defs
 size:=by rw[ZcE];exact h.size
 keep:=hk0
 x:=hx
 old:=fun s hs=>by
  have hne:o.dst≠some s:=fun e=>by
   have:=hs i o hi e
   simp[Ye]at this
  rw[YB _ _ _ _ hne]
  refine h.old s fun m p hm hp=>?_
  have:=hs m p hm hp
  unfold Ye at this
  split at this
  · cases this
  · exact this
 new:=fun m p d hm hp hbm hcm=>by
  by_cases e:m=i
  · subst e
    rw[hi]at hm;cases hm
    rw[hp,XM _ _ _ (by rw[h.size];exact Z7 hN hi hp)]
    exact hv
  · have hne:o.dst≠some d:=fun e'=>e (Yg hu hm hi hp e')
    rw[YB _ _ _ _ hne]
    simp only[Ye,if_neg e]at hbm
    exact Rel.move hk hs (h.new m p d hm hp hbm hcm)
 skip:=fun m p d hm hp hbm hcm=>by
  by_cases e:m=i
  · subst e
    rw[hc]at hcm;cases hcm
  · have hne:o.dst≠some d:=fun e'=>e (Yg hu hm hi hp e')
    rw[YB _ _ _ _ hne]
    simp only[Ye,if_neg e]at hbm
    exact h.skip m p d hm hp hbm hcm
 closed:=fun m p hm hbm j hj=>by
  by_cases e:j=i
  · simp[Ye,e]
  · simp only[Ye,if_neg e]
    by_cases e2:m=i
    · subst e2
      rw[hi]at hm;cases hm
      exact hd j hj
    · simp only[Ye,if_neg e2]at hbm
      exact h.closed m p hm hbm j hj
 sub:=hsub
 env:=fun p hp=>⟨(h.env p hp).1,Rel.move hk hs1 (h.env p hp).2⟩
def Ob (n:Rn) (P:Program) (K S:Nat→Prop) (w0:World) (env:List (Nat×AV)) (X:WP) (l:List Oper) (avs:Nat→AV) (conds:Nat→Bool) (i:Nat) (o:Oper):Prop:=
 Zae l avs conds i o∧∀ a w,Keeps K w0 w→X w→Look S w env l avs conds i a→conds i=true→Does n P o a w fun v w'=>Rel S w' (avs i) v∧Keeps All w w'∧X w'
def Obs (p:Nat→Oper→Prop):Nat→List Oper→Prop
 | _,[]=>True
 | k,o::r=>p k o∧Obs p (k+1) r
theorem Zbw {p:Nat→Oper→Prop}:∀(l:List Oper) (k:Nat),Obs p k l→∀ i o,l[i]?=some o→p (k+i) o
 | [],_,_,i,o,h=>by simp at h
 | x::r,k,⟨h1,h2⟩,i,o,h=>by
  cases i with
  | zero=>simp at h;subst h;exact h1
  | succ i=>have:=Zbw r (k+1) h2 i o (by simpa using h);rwa [Nat.add_assoc,Nat.add_comm 1 i]at this
theorem mem_depsOf {o:Oper} {j:Nat}:j∈ZL o↔ ∃ e∈o.after,Region.binds .any e=true∧e.on=j:=by
 simp[ZL,and_assoc]
theorem RInv.does2 {b:Nat→Bool} {a:Act} {w:World} {Q:Exit→Act→WP} {rest:List Oper} (h:RInv K S1 S w0 N env X l avs conds T b a w) (hu:Y4 l=true) (hN:Q9 l N=true) {i:Nat} {o:Oper} (hi:l[i]?=some o) (hb:b i=false) (hd:∀ j∈ZL o,b j=true)
 (ob:Ob n P K S w0 env X l avs conds i o) (hK:∀ a' w',RInv K S1 S w0 N env X l avs conds T (Ye b i) a' w'→(∀ d,o.dst≠some d→a'.tmps.getD d undef=a.tmps.getD d undef)→wpListIn n.F n.d P l.toArray Q rest a' w'):wpListIn n.F n.d P l.toArray Q (o::rest) a w:=by
 refine wpListIn_step fun K' hKr=>?_
 obtain⟨hg,hob⟩:=ob
 have hlook:=h.look hi hb hd
 cases hc:conds i with
 | true=>
  have hw:Region.wanted o (yielded l.toArray a.tmps)=true:=by
   unfold Region.wanted
   unfold Zae at hg
   split
   · rfl
   · rename_i j pol hgd
     rw[hgd]at hg
     obtain⟨g,p,d,hj,hpd,hav,hcj,hdep⟩:=hg
     rw[hc]at hcj
     have hcj':conds j=true∧(g==pol)=true:=by simpa using hcj.symm
     have hjd:j∈ZL o:=by simpa using hdep
     have hrel:=h.new j p d hj hpd (hd j hjd) hcj'.1
     rw[hav]at hrel
     have hval:=hrel.lit
     have hlt:d<a.tmps.size:=by rw[h.size];exact Z7 hN hj hpd
     have hget:a.tmps[d]?=some (.bool g):=by
      rw[Array.getD_eq_getD_getElem?,Array.getElem?_eq_getElem hlt]at hval
      rw[Array.getElem?_eq_getElem hlt];simpa using hval
     have hgp:g=pol:=by simpa using hcj'.2
     simp only[yielded,List.getElem?_toArray,hj,Option.bind_some,hpd,hget,hgp]
     simp
  rw[if_pos hw]
  refine hob a w h.keep h.x hlook hc K' Q fun v w' ⟨h1,h2,h3⟩=>hKr _ _ (hK _ _ (h.step hu hN hi hb hd v h2 h3 (fun _=>h1) fun e=>by rw[hc]at e;cases e) fun d hd=>YB _ _ _ _ hd)
 | false=>
  have hw:Region.wanted o (yielded l.toArray a.tmps)=false:=by
   unfold Region.wanted
   unfold Zae at hg
   split
   · rename_i hgd
     rw[hgd]at hg
     rw[hc]at hg;cases hg
   · rename_i j pol hgd
     rw[hgd]at hg
     obtain⟨g,p,d,hj,hpd,hav,hcj,hdep⟩:=hg
     rw[hc]at hcj
     have hjd:j∈ZL o:=by simpa using hdep
     have hlt:d<a.tmps.size:=by rw[h.size];exact Z7 hN hj hpd
     simp only[yielded,List.getElem?_toArray,hj,Option.bind_some,hpd]
     cases hcc:conds j with
     | true=>
      have hrel:=h.new j p d hj hpd (hd j hjd) hcc
      rw[hav]at hrel
      have hval:=hrel.lit
      have hget:a.tmps[d]?=some (.bool g):=by
       rw[Array.getD_eq_getD_getElem?,Array.getElem?_eq_getElem hlt]at hval
       rw[Array.getElem?_eq_getElem hlt];simpa using hval
      rw[hcc]at hcj
      have hgp:¬ g=pol:=by
       intro e;subst e;simp at hcj
      simp only[hget]
      cases g<;>cases pol<;>simp at hgp ⊢
     | false=>
      have hval:=h.skip j p d hj hpd (hd j hjd) hcc
      have hget:a.tmps[d]?=some undef:=by
       rw[Array.getD_eq_getD_getElem?,Array.getElem?_eq_getElem hlt]at hval
       rw[Array.getElem?_eq_getElem hlt];simpa using hval
      simp[hget,undef]
  rw[hw]
  refine⟨fun _ _=>trivial,hKr _ _ (hK _ _ (h.step hu hN hi hb hd undef (Keeps.refl _ _) h.x (fun e=>by rw[hc]at e;cases e) fun _=>rfl) fun d hd=>YB _ _ _ _ hd)⟩
theorem RInv.does {b:Nat→Bool} {a:Act} {w:World} {Q:Exit→Act→WP} {rest:List Oper} (h:RInv K S1 S w0 N env X l avs conds T b a w) (hu:Y4 l=true) (hN:Q9 l N=true) {i:Nat} {o:Oper} (hi:l[i]?=some o) (hb:b i=false) (hd:∀ j∈ZL o,b j=true)
 (ob:Ob n P K S w0 env X l avs conds i o) (hK:∀ a' w',RInv K S1 S w0 N env X l avs conds T (Ye b i) a' w'→wpListIn n.F n.d P l.toArray Q rest a' w'):wpListIn n.F n.d P l.toArray Q (o::rest) a w:=
 h.does2 hu hN hi hb hd ob fun a' w' h' _=>hK a' w' h'
theorem ZnV {Q:Exit→Act→WP} (hu:Y4 l=true) (hN:Q9 l N=true) (hback:Zbm l=true) (ob:Obs (Ob n P K S w0 env X l avs conds) 0 l) (hq:∀ a w,RInv K S1 S w0 N env X l avs conds T (fun i=>decide (i<l.length)) a w→Q .normal a w):
 ∀(r:List Oper) (k:Nat) (a:Act) (w:World),k+r.length=l.length→l.drop k=r→RInv K S1 S w0 N env X l avs conds T (fun i=>decide (i<k)) a w→wpListIn n.F n.d P l.toArray Q r a w
 | [],k,a,w,hl,_,h=>by
  simp only[List.length_nil,Nat.add_zero]at hl
  subst hl
  exact wpListIn_nil (hq _ _ h)
 | o::r,k,a,w,hl,hr,h=>by
  simp only[List.length_cons]at hl
  have hi:l[k]?=some o:=by
   have:(l.drop k)[0]?=some o:=by rw[hr];rfl
   simpa [List.getElem?_drop]using this
  have hob:=Zbw l 0 ob k o hi
  rw[Nat.zero_add]at hob
  refine h.does hu hN hi yz (fun j hj=>by have:=Za1 hback hi hj;simpa using this) hob fun a' w' h'=>?_
  refine ZnV hu hN hback ob hq r (k+1) a' w' oz ?_ ?_
  · have:l.drop (k+1)=(l.drop k).drop 1:=by rw[List.drop_drop]
    rw[this,hr];rfl
  · have he:(fun i=>decide (i<k+1))=Ye (fun i=>decide (i<k)) k:=by
     funext i
     unfold Ye
     by_cases e:i=k
     · simp[e]
     · rw[if_neg e]
       congr 1
       apply propext
       omega
    rw[he];exact h'
def ZeS (l:Array Bool):Nat:=l.toList.countP (· ==false)
theorem Qz {l:Array Bool} {i:Nat} (h:l.getD i true=false):ZeS (l.setIfInBounds i true)+1=ZeS l:=by
 obtain⟨l⟩:=l
 have hi:i<l.length:=by
  rcases Nat.lt_or_ge i l.length with h' | h'
  · exact h'
  · rw[Array.getD_eq_getD_getElem?,Array.getElem?_eq_none (by simpa using h')]at h
    simp at h
 have hv:l[i]=false:=by simpa [Array.getD,hi]using h
 simp only[ZeS,List.setIfInBounds_toArray]
 have h1:=List.countP_set (p:=(· ==false)) (l:=l) (i:=i) (a:=true) hi
 have h2:0<l.countP (· ==false):=List.countP_pos_iff.2 ⟨l[i],List.getElem_mem hi,by simp[hv]⟩
 rw[h1,hv,if_pos (by rfl),if_neg yz]
 omega
theorem ZbM {l:List Oper} {d:Array Bool} (hl:d.size=l.length) (hs:Zbm l=true) (h:Region.ready .any l.toArray d=[]):∀ i,i<l.length→d.getD i false=true:=by
 intro i
 induction i using Nat.strongRecOn with
 | ind i ih=>
  intro hi
  have hil:i<d.size:=by omega
  cases hv:d.getD i false with
  | true=>rfl
  | false=>
   have hm:i∈Region.ready .any l.toArray d:=mem_ready.2 ⟨by simpa [Array.getD,hil]using hv,l[i],by simp[hi],fun e he hb=>by
    have h1:e.on<i:=Za1 hs (List.getElem?_eq_getElem hi) (mem_depsOf.2 ⟨e,he,hb,rfl⟩)
    exact ih e.on h1 oz⟩
   rw[h]at hm
   cases hm
theorem QJ {i:Nat} {o:Oper} {ops:Array Oper} {Q:Exit→Act→WP} (ho:ops[i]?=some o) {K:Act→WP} {a:Act} {w:World}
 (h:wpListIn n.F n.d P ops (Exit.then K Q) [o] a w):wpOpIn n.F n.d P ops Q i K a w:=by
 unfold wpOpIn
 simp only[ho]
 simp only[wpListIn]at h
 have then_:∀ {r:Result Next},o.uponIn n.F n.d P a K (Exit.then K Q) r→o.uponIn n.F n.d P a K Q r:=fun {r} h=>by
  cases r with
  | ok x w'=>
   cases x<;>simp only[Oper.uponIn]at h ⊢ <;>
    first
     | exact h
     | exact⟨h.1,h.2.mono fun e w'' he=>by cases e<;>exact he⟩
     | exact⟨h.1,RoundIn.mono h.2 fun e w'' he=>by cases e<;>exact he⟩
     | exact⟨h.1,RowsIn.mono h.2 fun e w'' he=>he⟩
  | halt x w'=>cases x<;>simp only[Oper.uponIn]at h ⊢ <;>exact h
 split
 · rename_i hw
   rw[if_pos hw]at h
   exact⟨h.1,then_ h.2⟩
 · rename_i hw
   rw[if_neg hw]at h
   exact h
theorem wp_any {Q:Exit→Act→WP} (hu:Y4 l=true) (hN:Q9 l N=true) (hback:Zbm l=true) (ob:Obs (Ob n P K S w0 env X l avs conds) 0 l) (hq:∀ a w,RInv K S1 S w0 N env X l avs conds T (fun i=>decide (i<l.length)) a w→Q .normal a w):
 ∀(fuel:Nat) (d:Array Bool) (a:Act) (w:World),d.size=l.length→ZeS d≤fuel→RInv K S1 S w0 N env X l avs conds T (fun i=>d.getD i false) a w→wpAnyIn n.F n.d P .any l.toArray Q fuel d a w:=by
 intro fuel
 have fin:∀(d:Array Bool) (a:Act) (w:World),d.size=l.length→RInv K S1 S w0 N env X l avs conds T (fun i=>d.getD i false) a w→Region.ready .any l.toArray d=[]→Q .normal a w:=fun d a w hl h hnil=>by
  have hall:=ZbM hl hback hnil
  have he:(fun i=>d.getD i false)=fun i=>decide (i<l.length):=by
   funext i
   by_cases hi:i<l.length
   · simp[hall i hi,hi]
   · simp only[hi,decide_false]
     rw[Array.getD_eq_getD_getElem?,Array.getElem?_eq_none oz]
     rfl
  rw[he]at h
  exact hq _ _ h
 induction fuel with
 | zero=>
  intro d a w hl hf h
  have hnil:Region.ready .any l.toArray d=[]:=by
   cases hr:Region.ready .any l.toArray d with
   | nil=>rfl
   | cons x xs=>
    have hx:x∈Region.ready .any l.toArray d:=by rw[hr];simp
    have:=Qz (mem_ready.1 hx).1
    omega
  exact⟨hnil,fin d a w hl h hnil⟩
 | succ fuel ih=>
  intro d a w hl hf h
  refine⟨fun hnil=>fin d a w hl h hnil,fun i hr=>?_⟩
  obtain⟨h1,o,ho,h2⟩:=mem_ready.1 hr
  have ho':l[i]?=some o:=by simpa using ho
  have hil:i<d.size:=by rw[hl];exact(List.getElem?_eq_some_iff.1 ho').1
  have hob:=Zbw l 0 ob i o ho'
  rw[Nat.zero_add]at hob
  refine QJ ho (h.does hu hN ho' (by simpa [Array.getD,hil]using h1) (fun j hj=>?_) hob fun a' w' h'=>?_)
  · obtain⟨e,he,hb,rfl⟩:=mem_depsOf.1 hj
    exact h2 e he hb
  · refine wpListIn_nil ?_
    refine ih _ a' w' (by simpa using hl) (by have:=Qz h1;omega) ?_
    have he:(fun j=>(d.setIfInBounds i true).getD j false)=Ye (fun j=>d.getD j false) i:=by
     funext j
     by_cases hj:j=i
     · subst hj
       simp[Ye,Array.getD,hil]
     · simp only[Ye,if_neg hj,Array.getD_eq_getD_getElem?]
       rw[Array.getElem?_setIfInBounds_ne (fun e=>hj e.symm)]
    rw[he];exact h'
structure St (K S:Nat→Prop) (w0:World) (N:Nat) (env:List (Nat×AV)) (X:WP) (a:Act) (w:World):Prop where
 defs:a.defers=[]
 size:a.tmps.size=N
 keep:Keeps K w0 w
 x:X w
 env:∀ p∈env,p.1<N∧Rel S w p.2 (a.tmps.getD p.1 undef)
inductive From (S1 S:Nat→Prop) (env:List (Nat×AV)) (l:List Oper) (avs:Nat→AV) (conds:Nat→Bool):Nat×AV→Prop where
 | old (m s:Nat) (av:AV) (h:env[m]?=some (s,av)) (hn:(l.all fun o=>o.dst !=some s)=true):From S1 S env l avs conds (s,av)
 | new (i s:Nat) (av:AV) (h:(l[i]?).bind (·.dst)=some s) (hc:conds i=true) (he:avs i=av) (hs:(∃ v,av= .lit v)∨ ∀ k,S k→S1 k):From S1 S env l avs conds (s,av)
def Froms (S1 S:Nat→Prop) (env:List (Nat×AV)) (l:List Oper) (avs:Nat→AV) (conds:Nat→Bool):List (Nat×AV)→Prop
 | []=>True
 | p::r=>From S1 S env l avs conds p∧Froms S1 S env l avs conds r
theorem Froms.mem {env env':List (Nat×AV)} {l:List Oper} {avs:Nat→AV} {conds:Nat→Bool} (h:Froms S1 S env l avs conds env'):∀ p∈env',From S1 S env l avs conds p:=by
 induction env' with
 | nil=>intro p hp;cases hp
 | cons q r ih=>
  intro p hp
  rcases List.mem_cons.1 hp with rfl | hp
  · exact h.1
  · exact ih h.2 p hp
theorem Zlh {id:Nat} {draw:Bool} {Q:Exit→Act→WP} {a:Act} {w:World} (avs:Nat→AV) (conds:Nat→Bool) (env':List (Nat×AV)) (h:St K S1 w0 N env X a w) (hsub:∀ k,S1 k→S k) (hm:P.follows .mixedOrders=true) (hu:Y4 l=true) (hN:Q9 l N=true) (hback:Zbm l=true) (hx:∀ w,X w→X w.drew)
 (ob:Obs (Ob n P K S w0 env X l avs conds) 0 l) (hf:Froms S1 S env l avs conds env') (hq:∀ a w,St K S1 w0 N env' X a w→Q .normal a w):(Code.region id l.toArray draw).wpIn n.F n.d P Q a w:=by
 have hq':∀ a' w',RInv K S1 S w0 N env X l avs conds a.tmps (fun i=>decide (i<l.length)) a' w'→Q .normal a' w':=fun a' w' r=>by
  refine hq a' w' ⟨r.defs,r.size,r.keep,r.x,fun p hp=>?_⟩
  cases hf.mem p hp with
  | old m s av he hn=>
   have h1:=r.env (s,av) (List.mem_of_getElem? he)
   refine⟨h1.1,?_⟩
   show Rel S1 w' av (a'.tmps.getD s undef)
   rw[r.old s fun i o hi ho=>by
    have:=List.all_eq_true.1 hn o (List.mem_of_getElem? hi)
    simp[ho]at this]
   exact h1.2
  | new i s av hs hc he hflat=>
   cases hi:l[i]? with
   | none=>rw[hi]at hs;cases hs
   | some o=>
    rw[hi]at hs
    have hs':o.dst=some s:=hs
    have hlt:i<l.length:=(List.getElem?_eq_some_iff.1 hi).1
    refine⟨Z7 hN hi hs',?_⟩
    have hr:=r.new i o s hi hs' (by simpa using hlt) hc
    rw[he]at hr
    rcases hflat with⟨v,rfl⟩ | hk
    · simp only
      rw[hr.lit]
      exact Rel.of_lit _ hr.okl
    · exact hr.sub fun k _ h=>hk k h
 have start:∀ w',Keeps All w w'→X w'→RInv K S1 S w0 N env X l avs conds a.tmps (fun _=>false) a w':=fun w' hk hx'=>
  ⟨h.defs,h.size,h.keep.trans (hk.sub fun _ _ _=>trivial),hx',fun _ _=>rfl,fun _ _ _ _ _ e _=>(by cases e),fun _ _ _ _ _ e _=>(by cases e),fun _ _ _ e=>(by cases e),hsub,fun p hp=>⟨(h.env p hp).1,(h.env p hp).2.on hk⟩⟩
 cases draw with
 | false=>
  refine wpIn_region_lit (ZnV hu hN hback ob hq' l 0 a w yz rfl ?_)
  have he:(fun i=>decide (i<0))=fun _:Nat=>false:=by funext i;simp
  rw[he];exact start w (Keeps.refl _ _) h.x
 | true=>
  refine wpIn_region_any hm (wp_any hu hN hback ob hq' _ _ a _ yz ?_ ?_)
  · simp only[ZeS]
    exact Nat.le_trans List.countP_le_length yz
  · have he:(fun i=>(Array.replicate l.toArray.size false).getD i false)=fun _=>false:=by
     funext i
     simp[Array.getD]
    rw[he]
    exact start w.drew ((Keeps.refl _ _).drew) (hx w h.x)
end
end Go.Proofs.YtdfadihhfppjaaaGreatDoor
