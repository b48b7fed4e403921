/-
  Part of the proof that MinimizeChecks returns true. Conditions: none.
-/
import Derived.Test.YtdfadihhfppjaaaGreatDoorBEX
open List (all_eq_true)
namespace Go.Proofs
open Go.Shelf
def Tryz.lays156_ren:Go.Shelf.Ren:=⟨fun | 156=>91 | 165=>116 | 166=>117 | 169=>118 | 240=>140 | 241=>141 | 276=>185 | 277=>186 | n=>n,fun | 31=>22 | 9=>9 | 3=>3 | 4=>4 | 0=>0 | 20=>20 | 72=>188 | 76=>192 | 70=>185 | 37=>186 | 75=>191 | 127=>222 | 164=>253 | 5=>5 | 80=>194 | n=>n,fun | n=>n⟩
theorem Tryz.lays156:Go.Proofs.Lays.n156 Tryz.prog Tryz.lays156_ren:= {
 mixed:=by kernel_rfl
 f156:=Tryz.func91.trans (congrArg some (by kernel_rfl))
 f165:=Tryz.func116.trans (congrArg some (by kernel_rfl))
 f166:=Tryz.func117.trans (congrArg some (by kernel_rfl))
 f169:=Tryz.func118.trans (congrArg some (by kernel_rfl))
 f240:=Tryz.func140.trans (congrArg some (by kernel_rfl))
 f241:=Tryz.func141.trans (congrArg some (by kernel_rfl))
 f276:=Tryz.func185.trans (congrArg some (by kernel_rfl))
 f277:=Tryz.func186.trans (congrArg some (by kernel_rfl))
 t0:=Tryz.underlying0
 a0:=Tryz.isAgg0
 z0:=Tryz.sizeOf0
 v0:=Tryz.zeroValue0
 t3:=Tryz.underlying3
 a3:=Tryz.isAgg3
 z3:=Tryz.sizeOf3
 v3:=Tryz.zeroValue3
 t4:=Tryz.underlying4
 a4:=Tryz.isAgg4
 z4:=Tryz.sizeOf4
 v4:=Tryz.zeroValue4
 t9:=Tryz.underlying9
 a9:=Tryz.isAgg9
 z9:=Tryz.sizeOf9
 v9:=Tryz.zeroValue9
 t20:=Tryz.underlying20
 a20:=Tryz.isAgg20
 z20:=Tryz.sizeOf20
 v20:=Tryz.zeroValue20
 t31:=Tryz.underlying22
 a31:=Tryz.isAgg22
 z31:=Tryz.sizeOf22
 v31:=Tryz.zeroValue22
 t37:=Tryz.underlying186
 a37:=Tryz.isAgg186
 z37:=Tryz.sizeOf186
 v37:=Tryz.zeroValue186
 t70:=Tryz.underlying185
 a70:=Tryz.isAgg185
 z70:=Tryz.sizeOf185
 v70:=Tryz.zeroValue185
 t72:=Tryz.underlying188
 a72:=Tryz.isAgg188
 z72:=Tryz.sizeOf188
 v72:=Tryz.zeroValue188
 t75:=Tryz.underlying191
 a75:=Tryz.isAgg191
 z75:=Tryz.sizeOf191
 v75:=Tryz.zeroValue191
 t76:=Tryz.underlying192
 a76:=Tryz.isAgg192
 z76:=Tryz.sizeOf192
 v76:=Tryz.zeroValue192
 t127:=Tryz.underlying222
 a127:=Tryz.isAgg222
 z127:=Tryz.sizeOf222
 v127:=Tryz.zeroValue222
 t164:=Tryz.underlying253
 a164:=Tryz.isAgg253
 z164:=Tryz.sizeOf253
 v164:=Tryz.zeroValue253 }
theorem Tryz.Builder_Extra_156:Builder.Extra Tryz.prog Tryz.lays156_ren:= {
 sizeBuilder:=by kernel_rfl
 liesBuilder:=by kernel_rfl
 t5:=Tryz.underlying5
 a5:=Tryz.isAgg5
 z5:=Tryz.sizeOf5
 v5:=Tryz.zeroValue5
 infoByte:=by kernel_rfl
 cellsByte:=by kernel_rfl
 sizeByte:=by kernel_rfl
 neB5:=by decide }
open Go.RowKit in
theorem Tryz.strings_Join_none (a:Option Addr) (c:Nat) (sep:ByteArray) (w:World):
 Calls Tryz.prog 91 #[.slice a 0 c,.string sep] w λe w'=>e= .returned (.string ⟨#[]⟩)/\w'=w:=Any.strings_Join_none Tryz.lays156 Tryz.Builder_Extra_156 a c sep w
open Go.RowKit in
theorem Tryz.strings_Join (bk o c:Nat) (xs:List ByteArray) (sep:ByteArray) (w:World) (hcells:∀(j:Nat) x,xs[j]?=some x->w.cell? ⟨bk,o+j,none⟩=some (.string x)) (OP:bk<w.heap.size) (hN:xs.length<=140737488355328) (hcap:xs.length<=c) (hlen:(Lib.join (xs.map (·.data.toList)) sep.data.toList).length<=140737488355328):
 Calls Tryz.prog 91 #[.slice (some ⟨bk,o,none⟩) xs.length c,.string sep] w λe w'=>e= .returned (.string ⟨(Lib.join (xs.map (·.data.toList)) sep.data.toList).toArray⟩)/\Below w.heap.size w w':=Any.strings_Join Tryz.lays156 Tryz.Builder_Extra_156 bk o c xs sep w hcells OP hN hcap hlen
end Go.Proofs
set_option maxHeartbeats 8000000
set_option maxRecDepth 100000
namespace Go.Proofs.YtdfadihhfppjaaaGreatDoor
open Go.RowKit
theorem V1 {S:Nat->Prop} {w:World} {xs:List BA} {v:Value} (h:Rd S w (ai xs) v):(xs=[]/\∃ a c,v= .slice a 0 c)∨ ∃ b off cap,v= .slice (some ⟨b,off,none⟩) xs.length cap/\xs.length<=cap/\b<w.heap.size/\∀(j:Nat) (x:BA),xs[j]?=some x->w.cell? ⟨b,off+j,none⟩=some (.string x):=by
 unfold ai at h
 generalize hr:xs.map dO=rows at h
 cases h with
 | nil a cap hm=>exact .inl ⟨by simpa using hr,a,cap,Y⟩
 | sl b off cap n rows vs hl hm hb hS hn hc hrd=>
  subst hr
  refine .inr ⟨b,off,cap,by rw[List.length_map],by simpa using hl,hb,λj x hj=>?_⟩
  have rN:j<xs.length:=(List.getElem?_eq_some_iff.1 hj).1
  have hrow:(xs.map dO)[j]?=some (dO x):=by rw[List.getElem?_map,hj];rfl
  have Ap:n=1:=(hn _ (List.mem_of_getElem? hrow)).symm
  subst Ap
  have h1:=hc j 0 (by simpa using rN) oz
  have h2:=(hrd j 0 _ _ hrow (show(dO x)[0]?=some (lS x)from Y)).aH
  rw[h2]at h1
  simpa using h1
theorem ST {J:WP} (V:aR J) (xs:List BA) (s:BA) (hn:xs.length<=140737488355328) (hl:(Lib.join (xs.map (·.data.toList)) s.data.toList).length<=140737488355328):Fn Tryz.prog J 91 [.rd (ai xs),.str s] (.str (qr xs s)):=by
 intro S w vs hS hJ0 h
 simp only[bi]at h
 obtain⟨u,_,rfl,h1,u2,_,rfl,h2,rfl⟩:=h
 rw[h2.lit]
 have bw:io (.string (qr xs s)):=by
  show(qr xs s).size<=maxLen
  simp only[qr,ByteArray.size,List.size_toArray,maxLen]
  omega
 simp only[Rel]at h1
 rcases V1 h1 with⟨rfl,a,c,rfl⟩ | ⟨b,off,cap,rfl,hcap,hb,hc⟩
 ·exact Calls.mono (Tryz.strings_Join_none a c s w) λe w' ⟨he,hw⟩=>⟨_,he,Rel.aH _ bw,hw▸Keeps.refl _ _,hw▸hJ0⟩
 ·refine Calls.mono (Tryz.strings_Join b off cap xs s w hc hb hn hcap hl) λe w' ⟨he,hw⟩=>?_
  have hk:Keeps All w w':=⟨hw.os,hw.tape,hw.output,hw.size,λk hk _=>hw.block k hk⟩
  exact⟨_,he,Rel.aH _ bw,hk,V _ _ hk hJ0⟩
theorem DX {κ α:Type} [DecidableEq κ] {n:Rn} {P:Program} {J:WP} {S:Nat->Prop} {O:List OB} {w0 w:World} {o:Oper} {a:Act} {t:TypeId} (Kd:iu κ) (f:α->AV) (V:aR J) (hop:o.op= .makeMap t none) (hk0:Keeps All w0 w) (Z:XO J S w0.heap.size O w):
 Does n P o a w λv w'=>∃ M:Nat,v= .map (some M)/\dc J S w0 O w (OB.map Kd f M []::O) w':=by
 have hk:Keeps All w (w.alloc (.map #[] 0)):=(Keeps.refl _ _).alloc _
 refine en (v:=.map (some w.heap.size)) (w':=w.alloc (.map #[] 0)) ?_ ⟨w.heap.size,rfl,lh V hk0 Z hk (λb hb=>Nat.le_of_eq hb.symm) ⟨hk0.size,[],IsMap.new w,trivial⟩⟩
 simp[execOp,hop,Instr.makeMap,newObj,Sem.run]
section
variable {n:Rn} {P:Program} {l:List Oper} {Q:Exit->Act->WP}
variable {N:Nat} {J:WP} {S:Nat->Prop} {O:List OB} {w0:World} {env:List (Nat×AV)} {am:Nat->AV} {conds:Nat->Bool} {T:Array Value} {γ:Type}
def gH (D:Nat->Bool) (k:Nat):Nat->Bool:=λj=>if j=k then true else D j
def CB (n:Rn) (P:Program) (J:WP) (S:Nat->Prop) (w0:World) (env:List (Nat×AV)) (l:List Oper) (am:Nat->AV) (conds:Nat->Bool) (ck:(Nat->Bool)->γ->List OB) (sv:Nat->γ->Value) (ch:List Nat) (k i:Nat):Prop:=
 ∃ o,l[i]?=some o/\o.guard=none/\conds i=true/\
  ∀ D g a w,D k=false->(∀ k' i',ch[k']?=some i'->under l l.length i i'=true->D k'=true)->(∀ k1 k2 i1 i2,ch[k1]?=some i1->ch[k2]?=some i2->D k1=true->under l l.length i1 i2=true->D k2=true)->
   Keeps All w0 w->XO J S w0.heap.size (ck D g) w->Look (SO S (ck D g)) w env l am conds i a->(∀(k' i':Nat) (o':Oper) (d:Nat),D k'=true->ch[k']?=some i'->l[i']?=some o'->o'.dst=some d->a.eval (.tmp d)=sv k' g)->
   Does n P o a w λv w'=>∃ g',(∀ k',D k'=true->sv k' g'=sv k' g)/\(o.dst.isSome=true->v=sv k g')/\Rel (SO S (ck (gH D k) g')) w' (am i) v/\dc J S w0 (ck D g) w (ck (gH D k) g') w'
structure u5 (J:WP) (S:Nat->Prop) (w0:World) (N:Nat) (env:List (Nat×AV)) (l:List Oper) (am:Nat->AV) (conds:Nat->Bool) (T:Array Value) (ck:(Nat->Bool)->γ->List OB) (sv:Nat->γ->Value) (ch:List Nat) (D:Nat->Bool) (g:γ) (b:Nat->Bool) (a:Act) (w:World):Prop where
 inv:RInv All (SO S (ck D g)) (SO S (ck D g)) w0 N env (XO J S w0.heap.size (ck D g)) l am conds T b a w
 done:∀(k i:Nat),ch[k]?=some i->b i=D k
 out:∀ k,ch.length<=k->D k=false
 slot:∀(k i:Nat) (o:Oper) (d:Nat),D k=true->ch[k]?=some i->l[i]?=some o->o.dst=some d->a.tmps.getD d undef=sv k g
abbrev CM (n:Rn) (P:Program) (l:List Oper) (Q:Exit->Act->WP) (a:Act) (w:World) (Yn:Prop):Prop:=∀ I:(Nat->Bool)->Act->WP,
 (∀(Q:Exit->Act->WP) (b:Nat->Bool) (a:Act) (w:World) (i:Nat) (o:Oper) (rest:List Oper),l[i]?=some o->b i=false->(∀ j∈cp o,b j=true)->I b a w->(∀ a' w',I (cP b i) a' w'->wpListIn n.F n.d P l.toArray Q rest a' w')->wpListIn n.F n.d P l.toArray Q (o::rest) a w)->
 (∀ a w,I (λi=>decide (i<l.length)) a w->Q .normal a w)->I (λ_=>false) a w->I (λ_=>false) a w.drew->Yn
theorem UC {Yn:Prop} {a:Act} {w:World} (law:CM n P l Q a w Yn) (Or:List OB) (am:Nat->AV) (conds:Nat->Bool) (env':List (Nat×(γ->AV))) (ck:(Nat->Bool)->γ->List OB) (sv:Nat->γ->Value) (ch:List Nat) (g0:γ) (h0:∀ g,ck (λ_=>false) g=O)
 (h:So J S w0 N O env a w) (V:aR J) (hu:jP l=true) (hN:jg l N=true) (d8:qy ch=true)
 (hsub:∀ D g p,p∈Or->p∈ck D g) (ob:lk (nC n P J S Or w0 env l am conds ch) 0 l) (d6:mx (CB n P J S w0 env l am conds ck sv ch) 0 ch) (hf:lj env l am conds sv ch env')
 (hq:∀ g a w,So J S w0 N (ck (λk=>decide (k<ch.length)) g) (env'.map λp=>(p.1,p.2 g)) a w->Q .normal a w):Yn:=by
 have start:∀ w',Keeps All w w'->u5 J S w0 N env l am conds a.tmps ck sv ch (λ_=>false) g0 (λ_=>false) a w':=λw' hk=>
  ⟨by
   rw[h0]
   exact⟨h.defs,h.size,h.keep.trans hk,fo V _ _ hk h.x,λ_ _=>rfl,λ_ _ _ _ _ e _=>(by cases e),λ_ _ _ _ _ e _=>(by cases e),λ_ _ _ e=>(by cases e),λ_ h=>h,λp hp=>⟨(h.env p hp).1,(h.env p hp).2.on hk⟩⟩,
   λ_ _ _=>rfl,λ_ _=>rfl,λ_ _ _ _ hk=>by cases hk⟩
 have oU:∀(k k' i:Nat),ch[k]?=some i->ch[k']?=some i->k=k':=λk k' i h1 h2=>by
  have g1:=all_eq_true.1 d8 (i,k) (by rw[List.mem_zipIdx_iff_getElem?];simpa using h1)
  have g2:=all_eq_true.1 g1 (i,k') (by rw[List.mem_zipIdx_iff_getElem?];simpa using h2)
  simpa using g2
 refine law (λb a' w'=>∃ D g,u5 J S w0 N env l am conds a.tmps ck sv ch D g b a' w') ?_ ?_ ⟨_,g0,start w (Keeps.refl _ _)⟩ ⟨_,g0,start _ (Keeps.refl _ _).drew⟩
 ·rintro Q b a1 w1 i o rest hi hb hd ⟨D,g,hg⟩ hK
  by_cases gS:∃ k:Nat,ch[k]?=some i
  ·obtain⟨k,hk⟩:=gS
   obtain⟨o',ho',k5,hc,gp⟩:=d6.get k i hk
   rw[hi]at ho';cases ho'
   simp only[Nat.zero_add]at gp
   refine wpListIn_plain k5 λK' hKr=>gp D g a1 w1 (by rw[<-hg.done k i hk];exact hb) (λk' i' hk' ma=>?_) (λk1 k2 i1 i2 h1 h2 hD ma=>?_) hg.inv.keep hg.inv.x (hg.inv.look hi hb hd) (λk' i' o' d hk' hi' hl' hd'=>hg.slot k' i' o' d hk' hi' hl' hd') K' Q λu w2 ⟨g',e2,e3,e4,hs⟩=>?_
   ·rw[<-hg.done k' i' hk']
    exact qX hg.inv.closed _ i _ o hi hd ma
   ·rw[<-hg.done k2 i2 h2]
    rw[<-hg.done k1 i1 h1]at hD
    cases hl:l[i1]? with
    | none=>
     have:∀ f,under l f i1 i2=false:=λf=>by cases f<;>simp[under,hl]
     rw[this]at ma;cases ma
    | some p=>exact qX hg.inv.closed _ _ _ p hl (hg.inv.closed _ p hl hD) ma
   refine hKr _ _ (hK _ _ ⟨gH D k,g',hg.inv.B8 hu hN hi hd u hs.1 hs.2.2 hs.2.1 hc e4,λk' i' hk'=>?_,λk' hk'=>?_,λk' i' o' d hk' hi' hl' hd'=>?_⟩)
   ·by_cases e:i'=i
    ·subst e
     have:=oU k' k i' hk' hk
     subst this
     simp[cP,gH]
    ·simp only[cP,if_neg e]
     rw[hg.done k' i' hk']
     have:k'≠k:=λe'=>by subst e';rw[hk]at hk';cases hk';exact e rfl
     simp[gH,this]
   ·have k6:k<ch.length:=(List.getElem?_eq_some_iff.1 hk).1
    have:k'≠k:=by omega
    simp[gH,this,hg.out k' hk']
   ·by_cases e:k'=k
    ·subst e
     rw[hk]at hi';cases hi'
     rw[hi]at hl';cases hl'
     rw[hd',la _ _ _ (by rw[hg.inv.size];exact ix hN hi hd')]
     exact e3 (by simp[hd'])
    ·have hne:i'≠i:=λe'=>e (by subst e';exact oU k' k i' hi' hk)
     have hk'':D k'=true:=by simpa [gH,e]using hk'
     rw[ju _ _ _ _ (λe'=>hne (kA hu hl' hi hd' e'))]
     rw[hg.slot k' i' o' d hk'' hi' hl' hd',e2 k' hk'']
  ·have rP:ch.contains i=false:=by
    simp only[List.contains_eq_mem,decide_eq_false_iff_not]
    intro kl
    obtain⟨k,hk,he⟩:=List.getElem_of_mem kl
    exact gS ⟨k,by rw[List.getElem?_eq_getElem hk,he]⟩
   have oV:=se l 0 ob i o hi
   rw[Nat.zero_add]at oV
   refine hg.inv.tc hu hN hi hb hd (oV rP _ (hsub D g)) λa' w' h' hsl=>hK _ _ ⟨D,g,h',λk' i' hk'=>?_,hg.out,λk' i' o' d hk' hi' hl' hd'=>?_⟩
   ·have:i'≠i:=λe=>gS ⟨k',e▸hk'⟩
    simp only[cP,if_neg this]
    exact hg.done k' i' hk'
   ·have hne:i'≠i:=λe=>gS ⟨k',e▸hi'⟩
    rw[hsl d (λe'=>hne (kA hu hl' hi hd' e'))]
    exact hg.slot k' i' o' d hk' hi' hl' hd'
 ·rintro a1 w1 ⟨D,g,hg⟩
  have nT:∀ k,k<ch.length->D k=true:=λk hk=>by
   have dD:ch[k]?=some (ch[k]'hk):=List.getElem?_eq_getElem _
   obtain⟨o',ho',_⟩:=d6.get k _ dD
   have hb:=hg.done k _ dD
   have hlt2:ch[k]<l.length:=(List.getElem?_eq_some_iff.1 ho').1
   simpa [hlt2]using hb.symm
  have hD:D=λk=>decide (k<ch.length):=by
   funext k
   by_cases hk:k<ch.length
   ·rw[nT k hk];simp[hk]
   ·rw[hg.out k oz];simp[hk]
  subst hD
  refine hq g a1 w1 ⟨hg.inv.defs,hg.inv.size,hg.inv.keep,hg.inv.x,λp hp=>?_⟩
  obtain⟨q,hq',rfl⟩:=List.mem_map.1 hp
  cases hf.mem q hq' with
  | old m s av he hn=>
   have h1:=hg.inv.env (s,av) (List.mem_of_getElem? he)
   refine⟨h1.1,?_⟩
   show Rel _ w1 av (a1.tmps.getD s undef)
   rw[hg.inv.old s λi o hi ho=>by
    have:=all_eq_true.1 hn o (List.mem_of_getElem? hi)
    simp[ho]at this]
   exact h1.2
  | new i s av hs hc he=>
   cases hi:l[i]? with
   | none=>rw[hi]at hs;cases hs
   | some o=>
    rw[hi]at hs
    have hs':o.dst=some s:=hs
    have hlt:i<l.length:=(List.getElem?_eq_some_iff.1 hi).1
    refine⟨ix hN hi hs',?_⟩
    have hr:=hg.inv.new i o s hi hs' (by simpa using hlt) hc
    rw[he]at hr
    exact hr
  | d6 k i s f hk hs hf ho=>
   cases hi:l[i]? with
   | none=>rw[hi]at hs;cases hs
   | some o=>
    rw[hi]at hs
    have hs':o.dst=some s:=hs
    refine⟨ix hN hi hs',?_⟩
    have hr:=hg.slot k i o s (by simpa using(List.getElem?_eq_some_iff.1 hk).1) hk hi hs'
    simp only
    rw[hr,hf]
    exact Rel.aH _ (ho g)
end
section
variable {n:Rn} {P:Program} {X:WP} {S S':Nat->Prop} {o:Oper} {a:Act} {w:World} {s d:TypeId} {x:Operand}
end
section
variable {n:Rn} {P:Program} {J:WP} {S:Nat->Prop} {O:List OB} {w0:World}
theorem VU {w w':World} {v:Value} {e:TypeId} {size:Nat} {rows:List (List CD)} {O1:List OB} (hS:∀ b,w0.heap.size<=b->S b) (h:dc J S w0 O1 w (OB.row v e size rows::O) w'):Rel (SO S O) w' (.rd (.sl rows)) v/\dc J S w0 O1 w O w':=by
 obtain⟨hk,Z,hr⟩:=h
 have hi:=Z.2.1 (OB.row v e size rows) yz
 have hfree:∀ k,(OB.row v e size rows).blk k->SO S O k:=λk hk=>⟨hS k ((OB.row v e size rows).lt hi k hk).1,λp hp=>(List.pairwise_cons.1 Z.2.2).1 p hp k hk⟩
 refine⟨qK (λk hk=>hfree k hk) (OB.sub hi λk _ hk=>hk.drop),hk,⟨Z.1,λp hp=>OB.sub (Z.2.1 p (by simp[hp])) λ_ _ hk=>hk.drop,(List.pairwise_cons.1 Z.2.2).2⟩,λav u hu=>(hr av u hu).sub λk _ hk=>hk.drop⟩
theorem vQ {α:Type} {f:α->List CD} {o:Oper} {a:Act} {w:World} {t e:TypeId} {size bytes:Nat} {x y:Operand} {v:Value} (xs ys:List α) (hf:∀ x,(f x).length=size) (ht:jA P t e size bytes) (hS:∀ b,w0.heap.size<=b->S b) (V:aR J) (hJ0:J w0)
 (hop:o.op= .call { callee:=.builtin .append,args:= #[x,y],argTypes:= #[t,t] }) (hk:Keeps All w0 w) (Z:XO J S w0.heap.size (OB.row v e size (xs.map f)::O) w)
 (hv:a.eval x=v) (hy:Rel (SO S (OB.row v e size (xs.map f)::O)) w (.rd (.sl (ys.map f))) (a.eval y)) (hb:(xs.length+ys.length)*bytes<=140737488355328) (h63:xs.length+ys.length<=9223372036854775807):
 Does n P o a w λv' w'=>Rel (SO S O) w' (.rd (.sl ((xs++ys).map f))) v'/\dc J S w0 (OB.row v e size (xs.map f)::O) w O w':=
 bD (lw xs ys hf ht V hJ0 hop hk Z hv hy hb h63) λ_ _ h=>VU hS h
end
end Go.Proofs.YtdfadihhfppjaaaGreatDoor
