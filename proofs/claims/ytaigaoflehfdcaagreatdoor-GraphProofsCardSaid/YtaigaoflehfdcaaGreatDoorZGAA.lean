/-
  CONTRACTS of the program: what a proof's words mean.
  THE ENGINE: a region in which several operations turn what is owned, in whatever order the text leaves open.
-/
import Derived.Test.YtaigaoflehfdcaaGreatDoorZGZ
set_option maxHeartbeats 8000000
set_option maxRecDepth 100000
namespace Go.Proofs.YtaigaoflehfdcaaGreatDoor
open Go.RowKit
theorem Zib:ZbO Tryz.prog 165 2:=⟨#[.slice none 0 0,.slice none 0 0],rfl,fun i=>some (i*1,1),fun j _=>(show some (j*1,1)=some (j,1) by rw[Nat.mul_one]),fun parts=>by kernel_rfl⟩
theorem Zia:Zf4 Tryz.prog 60 [.string ⟨#[]⟩,.bool false,.slice none 0 0]:=⟨fun i=>(#[(0,1),(1,1),(2,1)]:Array (Nat×Nat))[i]?,fun j hj=>by rcases j with _ | _ | _ | j<;>first | rfl | (simp at hj;omega) | simp at hj,fun parts=>by kernel_rfl⟩
theorem p_Hyp {J:WP} (hJ:Stab J) (f:Fr) (s:BA) (ht:∀ h∈f.hyps++f.dummies,h.text.length≤2000):Fn Tryz.prog J 70 [.agg (frC f),.str s] (.tup [.agg (hyC ((X0 f s).getD default)),.bool ((X0 f s).isSome)]):=by
 refine fE Tryz.func70 fun S w0 hS hJ0=>?_
 refine tw Z6 (tsq ?_)
 refine sy (.ptr (frC f)) (fun h=>Zfk rfl (h.get 0 rfl) (Zy hS _ h.keep h.x _ nlr) (jo hJ h.x)) ?_
 refine Z9 YM hJ rfl rfl rfl (lb rfl) fun b1=>?_
 refine snK 1 tb rfl (seK [1,2,4] U3 rfl ?_)
 refine nx (Zd (ZE tb hJ [0,2,1001,1003,1004,1005] (V4 [.agg [Xl f.hyps,Xl f.dummies],_]) [4] U6 rfl ⟨fun a _ _ hx hl _=>XP (us:=[a.eval (.tmp 11),a.eval (.tmp 13)]) Zib rfl yz (ZJ (hl.D 1 11 rfl rfl) (ZJ (hl.D 3 13 rfl rfl) Yp)) rfl hx,trivial⟩ ?_))
 refine ln 2 fun hl1=>?_
 refine ln 3 fun hl2=>?_
 refine Zc (lpo (ι:=Nat) (fun k=>(k≤2)∧(∀ i,i<k→∀ h∈ZcR f.hyps f.dummies i,¬ h.label=s)) (fun _=>[OB.var b1 [lS (⟨#[]⟩:BA),lB false,Zi ([]:List BA)]]) (fun k=>[(15,.int (k:Nat))]) (fun k=>2-k) [0,1,4,5] U3 0 ⟨nzl,fun i hi=>by omega⟩ ?_)
 rintro k ⟨f1_1,f1_2⟩
 refine qso tb hJ [0,1,2,3,1000] [_] U5 ?_
 refine cjS 4 (fun hb1=>?_) fun hb1=>?_
 ·
  try simp at hb1
  refine Za (nx (Zd (Zc (ZE tb hJ [0,1,2,3,1000,1001] [.rd (Xl (ZcR f.hyps f.dummies k)),_] [0] U6 rfl ⟨fun _ _ _ hx hl _=>ZpA (c:=Xl (ZcR f.hyps f.dummies k)) Zf9 ZhD Zmw rfl (hl.env 2 14 _ rfl rfl) (hl.env 3 15 _ rfl rfl) nnn rfl (two_at sfz) hx,trivial⟩ ?_))))
  refine ln 4 fun hl3=>?_
  refine ZE tb hJ [0,1,2,3,1000,1001,1002] [_,.int ((ZcR f.hyps f.dummies k).length:Nat),_] [1] U7 rfl ⟨ZX Zx,trivial⟩ ?_
  refine Zc (lpo (ι:=Nat) (fun j=>(j≤(ZcR f.hyps f.dummies k).length)∧(∀ i,i<j→¬ (ge (ZcR f.hyps f.dummies k) i).label=s)) (fun _=>[OB.var b1 [lS (⟨#[]⟩:BA),lB false,Zi ([]:List BA)]]) (fun j=>[(20,.int (j:Nat))]) (fun j=>(ZcR f.hyps f.dummies k).length-j) [0,1,2,3,4,5,6] U6 0 ⟨nzl,fun i hi=>by omega⟩ ?_)
  rintro j ⟨f2_1,f2_2⟩
  refine qso tb hJ [0,1,2,3,4,5,6,1000] [_] U8 ?_
  refine cjS 7 (fun hb2=>?_) fun hb2=>?_
  ·
   try simp at hb2
   refine Za (nx (Zd (Zc (tsq (sy (.ptr (hyC (ge (ZcR f.hyps f.dummies k) j))) (fun h=>ZK (i:=(j:Int)) Zq rfl (h.get 4 rfl) (h.get 6 rfl) nnn (ZR (xs:=(ZcR f.hyps f.dummies k)) (k:=j) sfz) rfl h.x) ?_)))))
   refine snK 1 tb rfl (Qn (cs:=hyC (ge (ZcR f.hyps f.dummies k) j)) Zb9 rfl rfl rfl (lb rfl) rfl rfl rfl dz (m:=0) rfl rfl (fun a w h=>Zy hS _ h.keep h.x _ nlr) (fun a w h w' hk'=>YL hJ _ _ hk' h.x) ?_)
   refine seK [0,3,4,5,6,7,8,9] U8 rfl (nx (qso tb hJ [0,1,2,3,4,5,6,7,1003] U4 U9 ?_))
   refine cj 8 (fun hb3=>?_) fun hb3=>?_
   ·
    try simp at hb3
    have e3:=ZeB oz f1_2 hb2 f2_2 hb3
    refine tsq (snK 1 tb rfl (sy (.agg (hyC (ge (ZcR f.hyps f.dummies k) j))) (fun h=>ZcZ (ZjX hJ (ge (ZcR f.hyps f.dummies k) j) (by have h9:=ht _ (ZsR (k:=k) (Zj hb2));omega)) ZkI rfl (Zy hS _ h.keep h.x) (h.x.1) (Zb (h.get 0 rfl) Zk) (jo hJ h.x)) ?_))
    refine ZD (b:=b1) (off:=0) (es:=U3) (news:=U3) hJ hJ0 YO rfl rfl rfl (lb rfl) rfl (fun a w h=>⟨(h.get 3 rfl),(h.get 0 rfl)⟩) ?_
    refine snK 1 tb rfl (seK [0,4] U2 rfl ?_)
    exact nx (ZB (fun a w h=>QP (m:=1) (q:=0) rfl Qz h rfl rfl (show(_:List CD)=[lS (((X0 f s).getD default).label),lB (((X0 f s).getD default).floating),Zi (((X0 f s).getD default).text)]from by(rw[e3];rfl)<;>rfl) rfl (eB (by rw[e3];rfl))))
   ·
    try simp at hb3
    refine Za (nx (YA tb hJ [1,2,3,4,5,6,1001] [.int (j+1:Nat),_] [0] U7 rfl ⟨Yf,trivial⟩ ?_))
    exact YK (j+1) [0,1,2,3,4,5,6] ⟨oz,ZG f2_2 hb3⟩
  ·
   try simp at hb2
   refine Zp (nx (YA tb hJ [0,1,2,1001] [.int (k+1:Nat),_] [0] U4 rfl ⟨Yf,trivial⟩ ?_))
   exact YK (k+1) [0,1,2,3] ⟨oz,ZG f1_2 fun h hm=>by obtain⟨i,hi,rfl⟩:=Y5 hm;exact f2_2 i oz⟩
 ·
  try simp at hb1
  refine Zp (nx (tsq (sy (.agg (hyC (⟨⟨#[]⟩,false,[]⟩:Hy))) (fun h=>XL (ps:=[]) (us:=[.string ⟨#[]⟩,.bool false,.slice none 0 0]) Zia rfl yz ZlV rfl (Q0 (.lit _ nzl) (Q0 (.lit _ True.intro) (Q0 (.nil _ _ nzl) Yp))) h.x) ?_)))
  refine ZD (b:=b1) (off:=0) (es:=U3) (news:=U3) hJ hJ0 YO rfl rfl rfl (lb rfl) rfl (fun a w h=>⟨(h.get 1 rfl),(h.get 0 rfl)⟩) ?_
  refine snK 1 tb rfl (seK [0,2] U2 rfl ?_)
  exact nx (ZB (fun a w h=>QP (m:=1) (q:=0) rfl Qz h rfl rfl (show(_:List CD)=[lS (((X0 f s).getD default).label),lB (((X0 f s).getD default).floating),Zi (((X0 f s).getD default).text)]from by(rw[ZeC fun i hi=>f1_2 i oz];rfl)<;>rfl) rfl (eB (by rw[ZeC fun i hi=>f1_2 i oz];rfl))))
section
variable {n:Rn} {P:Program} {l:List Oper} {Q:Exit→Act→WP}
variable {N:Nat} {J:WP} {S:Nat→Prop} {O:List OB} {w0:World} {env:List (Nat×AV)} {avs:Nat→AV} {conds:Nat→Bool} {T:Array Value} {γ:Type}
def ZlS (D:Nat→Bool) (k:Nat):Nat→Bool:=fun j=>if j=k then true else D j
def EffR (n:Rn) (P:Program) (J:WP) (S:Nat→Prop) (w0:World) (env:List (Nat×AV)) (l:List Oper) (avs:Nat→AV) (conds:Nat→Bool) (Stg:(Nat→Bool)→γ→List OB) (sv:Nat→γ→Value) (ch:List Nat) (k i:Nat):Prop:=
 ∃ o,l[i]?=some o∧o.guard=none∧conds i=true∧
  ∀ D g a w,D k=false→(∀ k' i',ch[k']?=some i'→ZcQ l l.length i i'=true→D k'=true)→(∀ k1 k2 i1 i2,ch[k1]?=some i1→ch[k2]?=some i2→D k1=true→ZcQ l l.length i1 i2=true→D k2=true)→
   Keeps All w0 w→XO J S w0.heap.size (Stg D g) w→Look (SO S (Stg D g)) w env l avs conds i a→(∀(k' i':Nat) (o':Oper) (d:Nat),D k'=true→ch[k']?=some i'→l[i']?=some o'→o'.dst=some d→a.eval (.tmp d)=sv k' g)→
   Yr n P o a w fun v w'=>∃ g',(∀ k',D k'=true→sv k' g'=sv k' g)∧(o.dst.isSome=true→v=sv k g')∧Rel (SO S (Stg (ZlS D k) g')) w' (avs i) v∧ZdJ J S w0 (Stg D g) w (Stg (ZlS D k) g') w'
structure DInv (J:WP) (S:Nat→Prop) (w0:World) (N:Nat) (env:List (Nat×AV)) (l:List Oper) (avs:Nat→AV) (conds:Nat→Bool) (T:Array Value) (Stg:(Nat→Bool)→γ→List OB) (sv:Nat→γ→Value) (ch:List Nat) (D:Nat→Bool) (g:γ) (b:Nat→Bool) (a:Act) (w:World):Prop where
 inv:RInv All (SO S (Stg D g)) (SO S (Stg D g)) w0 N env (XO J S w0.heap.size (Stg D g)) l avs conds T b a w
 done:∀(k i:Nat),ch[k]?=some i→b i=D k
 out:∀ k,ch.length≤k→D k=false
 slot:∀(k i:Nat) (o:Oper) (d:Nat),D k=true→ch[k]?=some i→l[i]?=some o→o.dst=some d→a.tmps.getD d undef=sv k g
theorem Zpr (Or:List OB) {id:Nat} {draw:Bool} {a:Act} {w:World} (avs:Nat→AV) (conds:Nat→Bool) (env':List (Nat×(γ→AV))) (Stg:(Nat→Bool)→γ→List OB) (sv:Nat→γ→Value) (ch:List Nat) (g0:γ) (h0:∀ g,Stg (fun _=>false) g=O)
 (h:So J S w0 N O env a w) (hJ:Stab J) (hm:P.follows .mixedOrders=true) (hu:Xp l=true) (hN:Zbf l N=true) (hback:Zdc l=true) (hnd:Znd ch=true)
 (hsub:∀ D g p,p∈Or→p∈Stg D g) (ob:Obs (ObP n P J S Or w0 env l avs conds ch) 0 l) (eff:Effs (EffR n P J S w0 env l avs conds Stg sv ch) 0 ch) (hf:FromGs env l avs conds sv ch env')
 (hq:∀ g a w,So J S w0 N (Stg (fun k=>decide (k<ch.length)) g) (env'.map fun p=>(p.1,p.2 g)) a w→Q .normal a w):(Code.region id l.toArray draw).wpIn n.F n.d P Q a w:=by
 have start:∀ w',Keeps All w w'→DInv J S w0 N env l avs conds a.tmps Stg sv ch (fun _=>false) g0 (fun _=>false) a w':=fun w' hk=>
  ⟨by
   rw[h0]
   exact⟨h.defs,h.size,h.keep.trans hk,YL hJ _ _ hk h.x,fun _ _=>rfl,fun _ _ _ _ _ e _=>(by cases e),fun _ _ _ _ _ e _=>(by cases e),fun _ _ _ e=>(by cases e),fun _ h=>h,fun p hp=>⟨(h.env p hp).1,(h.env p hp).2.on hk⟩⟩,
   fun _ _ _=>rfl,fun _ _=>rfl,fun _ _ _ _ hk=>by cases hk⟩
 have hnodup:∀(k k' i:Nat),ch[k]?=some i→ch[k']?=some i→k=k':=fun k k' i h1 h2=>by
  have g1:=List.all_eq_true.1 hnd (i,k) (by rw[List.mem_zipIdx_iff_getElem?];simpa using h1)
  have g2:=List.all_eq_true.1 g1 (i,k') (by rw[List.mem_zipIdx_iff_getElem?];simpa using h2)
  simpa using g2
 refine ZjK (I:=fun b a' w'=>∃ D g,DInv J S w0 N env l avs conds a.tmps Stg sv ch D g b a' w') hm hback ?_ ?_ ⟨_,g0,start w (Keeps.refl _ _)⟩ ⟨_,g0,start _ (Keeps.refl _ _).drew⟩
 · rintro Q b a1 w1 i o rest hi hb hd ⟨D,g,hg⟩ hK
   by_cases hin:∃ k:Nat,ch[k]?=some i
   · obtain⟨k,hk⟩:=hin
     obtain⟨o',ho',hgd,hc,hob⟩:=eff.get k i hk
     rw[hi]at ho';cases ho'
     simp only[Nat.zero_add]at hob
     refine wpListIn_plain hgd fun K' hKr=>?_
     refine hob D g a1 w1 (by rw[←hg.done k i hk];exact hb) (fun k' i' hk' hun=>?_) (fun k1 k2 i1 i2 h1 h2 hD hun=>?_) hg.inv.keep hg.inv.x (hg.inv.look hi hb hd) (fun k' i' o' d hk' hi' hl' hd'=>hg.slot k' i' o' d hk' hi' hl' hd') K' Q fun u w2 ⟨g',e2,e3,e4,hs⟩=>?_
     · rw[←hg.done k' i' hk']
       exact Zaj hg.inv.closed _ i _ o hi hd hun
     · rw[←hg.done k2 i2 h2]
       rw[←hg.done k1 i1 h1]at hD
       cases hl:l[i1]? with
       | none=>
        have:∀ f,ZcQ l f i1 i2=false:=fun f=>by cases f<;>simp[ZcQ,hl]
        rw[this]at hun;cases hun
       | some p=>exact Zaj hg.inv.closed _ _ _ p hl (hg.inv.closed _ p hl hD) hun
     refine hKr _ _ (hK _ _ ⟨ZlS D k,g',hg.inv.step3 hu hN hi hd u hs.1 hs.2.2 hs.2.1 hc e4,fun k' i' hk'=>?_,fun k' hk'=>?_,fun k' i' o' d hk' hi' hl' hd'=>?_⟩)
     · by_cases e:i'=i
       · subst e
         have:=hnodup k' k i' hk' hk
         subst this
         simp[Yy,ZlS]
       · simp only[Yy,if_neg e]
         rw[hg.done k' i' hk']
         have:k'≠k:=fun e'=>by subst e';rw[hk]at hk';cases hk';exact e rfl
         simp[ZlS,this]
     · have hkl:k<ch.length:=(List.getElem?_eq_some_iff.1 hk).1
       have:k'≠k:=by omega
       simp[ZlS,this,hg.out k' hk']
     · by_cases e:k'=k
       · subst e
         rw[hk]at hi';cases hi'
         rw[hi]at hl';cases hl'
         rw[hd',XM _ _ _ (by rw[hg.inv.size];exact Yv hN hi hd')]
         exact e3 (by simp[hd'])
       · have hne:i'≠i:=fun e'=>e (by subst e';exact hnodup k' k i' hi' hk)
         have hk'':D k'=true:=by simpa [ZlS,e]using hk'
         rw[YH _ _ _ _ (fun e'=>hne (Ys hu hl' hi hd' e'))]
         rw[hg.slot k' i' o' d hk'' hi' hl' hd',e2 k' hk'']
   · have hnin:ch.contains i=false:=by
      simp only[List.contains_eq_mem,decide_eq_false_iff_not]
      intro hmem
      obtain⟨k,hk,he⟩:=List.getElem_of_mem hmem
      exact hin ⟨k,by rw[List.getElem?_eq_getElem hk,he]⟩
     have hobi:=ZbW l 0 ob i o hi
     rw[Nat.zero_add]at hobi
     refine hg.inv.does2 hu hN hi hb hd (hobi hnin _ (hsub D g)) fun a' w' h' hsl=>hK _ _ ⟨D,g,h',fun k' i' hk'=>?_,hg.out,fun k' i' o' d hk' hi' hl' hd'=>?_⟩
     · have:i'≠i:=fun e=>hin ⟨k',e▸hk'⟩
       simp only[Yy,if_neg this]
       exact hg.done k' i' hk'
     · have hne:i'≠i:=fun e=>hin ⟨k',e▸hi'⟩
       rw[hsl d (fun e'=>hne (Ys hu hl' hi hd' e'))]
       exact hg.slot k' i' o' d hk' hi' hl' hd'
 · rintro a1 w1 ⟨D,g,hg⟩
   have hall:∀ k,k<ch.length→D k=true:=fun k hk=>by
    have hget:ch[k]?=some (ch[k]'hk):=List.getElem?_eq_getElem _
    obtain⟨o',ho',_⟩:=eff.get k _ hget
    have hb:=hg.done k _ hget
    have hlt2:ch[k]<l.length:=(List.getElem?_eq_some_iff.1 ho').1
    simpa [hlt2]using hb.symm
   have hD:D=fun k=>decide (k<ch.length):=by
    funext k
    by_cases hk:k<ch.length
    · rw[hall k hk];simp[hk]
    · rw[hg.out k oz];simp[hk]
   subst hD
   refine hq g a1 w1 ⟨hg.inv.defs,hg.inv.size,hg.inv.keep,hg.inv.x,fun p hp=>?_⟩
   obtain⟨q,hq',rfl⟩:=List.mem_map.1 hp
   cases hf.mem q hq' with
   | old m s av he hn=>
    have h1:=hg.inv.env (s,av) (List.mem_of_getElem? he)
    refine⟨h1.1,?_⟩
    show Rel _ w1 av (a1.tmps.getD s undef)
    rw[hg.inv.old s fun i o hi ho=>by
     have:=List.all_eq_true.1 hn o (List.mem_of_getElem? hi)
     simp[ho]at this]
    exact h1.2
   | new i s av hs hc he=>
    cases hi:l[i]? with
    | none=>rw[hi]at hs;cases hs
    | some o=>
     rw[hi]at hs
     have hs':o.dst=some s:=hs
     have hlt:i<l.length:=(List.getElem?_eq_some_iff.1 hi).1
     refine⟨Yv hN hi hs',?_⟩
     have hr:=hg.inv.new i o s hi hs' (by simpa using hlt) hc
     rw[he]at hr
     exact hr
   | eff k i s f hk hs hf ho=>
    cases hi:l[i]? with
    | none=>rw[hi]at hs;cases hs
    | some o=>
     rw[hi]at hs
     have hs':o.dst=some s:=hs
     refine⟨Yv hN hi hs',?_⟩
     have hr:=hg.slot k i o s (by simpa using(List.getElem?_eq_some_iff.1 hk).1) hk hi hs'
     simp only
     rw[hr,hf]
     exact Rel.of_lit _ (ho g)
end
end Go.Proofs.YtaigaoflehfdcaaGreatDoor
