/-
  THE ENGINE: a region whose effects come in any order that the text leaves open: all the ways in which some are done are reckoned.
  CONTRACTS of the program: whether a change is good; bindings.
-/
import Derived.Test.YtdfadihhfppjaaaGreatDoorPAA
namespace Go.Proofs.YtdfadihhfppjaaaGreatDoor
open Go.RowKit
def bvs:Nat→List (List Bool)
 | 0=>[[]]
 | n+1=>(bvs n).flatMap fun l=>[l++[false],l++[true]]
theorem Zjs (D:Nat→Bool):∀ n,(List.range n).map D∈bvs n
 | 0=>by simp[bvs]
 | n+1=>by
  rw[bvs,List.mem_flatMap]
  refine⟨_,Zjs D n,?_⟩
  rw[List.range_succ,List.map_append,List.map_singleton]
  cases D n<;>simp
def ZkR (l:List Oper) (ch:List Nat) (k:Nat):List (List Bool):=
 (bvs ch.length).filter fun b=>!b.getD k false&& (ch.zipIdx.all fun p=>ch.zipIdx.all fun q=>!Zag l l.length p.1 q.1|| ((p.2 !=k||b.getD q.2 false)&& (!b.getD p.2 false||b.getD q.2 false)))
def AllB (P:List Bool→Prop):List (List Bool)→Prop
 | []=>True
 | b::bs=>P b∧AllB P bs
theorem ZgD {P:List Bool→Prop} {b:List Bool}:∀ {bs:List (List Bool)},AllB P bs→b∈bs→P b
 | _::_,⟨h,hr⟩,hm=>by
  rcases List.mem_cons.1 hm with rfl | hm
  · exact h
  · exact ZgD hr hm
theorem Xi (D:Nat→Bool) (n j:Nat):((List.range n).map D).getD j false=(decide (j<n)&&D j):=by
 rw[List.getD_eq_getElem?_getD]
 by_cases h:j<n
 · simp[h]
 · simp[h]
theorem Zg4 {S:Nat→Prop} {O O':List OB} {w:World} {avs:List AV} {vs:List Value} (hp:O.Perm O') (h:RelL (SO S O) w avs vs):RelL (SO S O') w avs vs:=RelL.move (Keeps.refl All w) (fun _ _ hs=>⟨trivial,hs.perm hp⟩) h
section
variable {n:Rn} {P:Program} {l:List Oper} {J:WP} {S:Nat→Prop} {w0:World} {env:List (Nat×AV)} {avs:Nat→AV} {conds:Nat→Bool} {γ:Type} {F:List Bool→γ→List OB} {sv:Nat→γ→Value} {ch:List Nat}
def EffX (n:Rn) (P:Program) (J:WP) (S:Nat→Prop) (w0:World) (env:List (Nat×AV)) (l:List Oper) (avs:Nat→AV) (conds:Nat→Bool) (F:List Bool→γ→List OB) (sv:Nat→γ→Value) (ch:List Nat) (k i:Nat):Prop:=
 EffR n P J S w0 env l avs conds (fun D g=>F ((List.range ch.length).map D) g) (fun k' g=>if k'<ch.length then sv k' g else undef) ch k i
theorem ZeL {k i:Nat} {o:Oper} (cs:List (List Bool)) (hcs:ZkR l ch k=cs) (hki:ch[k]?=some i) (ho:l[i]?=some o) (hg:o.guard=none) (hc:conds i=true)
 (core:AllB (fun b=>∀ g a w,Keeps All w0 w→XO J S w0.heap.size (F b g) w→Look (SO S (F b g)) w env l avs conds i a→(∀(k' i':Nat) (o':Oper) (d:Nat),b.getD k' false=true→ch[k']?=some i'→l[i']?=some o'→o'.dst=some d→a.eval (.tmp d)=sv k' g)→
  Does n P o a w fun v w'=>∃ g',(∀ k',b.getD k' false=true→sv k' g'=sv k' g)∧(o.dst.isSome=true→v=sv k g')∧Rel (SO S (F (b.set k true) g')) w' (avs i) v∧QS J S w0 (F b g) w (F (b.set k true) g') w') cs):
 EffX n P J S w0 env l avs conds F sv ch k i:=by
 refine⟨o,ho,hg,hc,fun D g a w hD hpre hcl hk hx hl hs=>?_⟩
 have hkl:k<ch.length:=(List.getElem?_eq_some_iff.1 hki).1
 have hkv:ch[k]=i:=(List.getElem?_eq_some_iff.1 hki).2
 have hmem:(List.range ch.length).map D∈cs:=by
  rw[←hcs,ZkR,List.mem_filter]
  refine⟨Zjs D _,?_⟩
  simp only[Xi,Bool.and_eq_true,List.all_eq_true]
  refine⟨by simp[hD],fun p hp q hq=>?_⟩
  obtain⟨hp1,hp2⟩:=List.mem_zipIdx' hp
  obtain⟨hq1,hq2⟩:=List.mem_zipIdx' hq
  by_cases hu:Zag l l.length p.1 q.1=true
  · have e1:ch[p.2]?=some p.1:=by rw[List.getElem?_eq_getElem hp1,hp2]
    have e2:ch[q.2]?=some q.1:=by rw[List.getElem?_eq_getElem hq1,hq2]
    rw[hu]
    simp only[Bool.not_true,Bool.false_or,Bool.and_eq_true,Bool.or_eq_true,bne_iff_ne,ne_eq,hq1,decide_true,Bool.true_and,hp1]
    refine⟨?_,?_⟩
    · by_cases e:p.2=k
      · right
        rw[e,hki]at e1
        cases e1
        exact hpre q.2 q.1 e2 hu
      · exact .inl e
    · cases hd:D p.2 with
      | false=>exact .inl rfl
      | true=>exact .inr (hcl p.2 q.2 p.1 q.1 e1 e2 hd hu)
  · simp[hu]
 have hset:(List.range ch.length).map (Zc6 D k)=((List.range ch.length).map D).set k true:=by
  apply List.ext_getElem?
  intro j
  rw[List.getElem?_set]
  by_cases hj:j<ch.length
  · by_cases e:k=j
    · subst e;simp[hj,Zc6]
    · simp[hj,e,Zc6,Ne.symm (show k≠j from e)]
  · by_cases e:k=j
    · omega
    · simp[hj,e]
 have:=ZgD core hmem g a w hk hx hl fun k' i' o' d hb h1 h2 h3=>by
  rw[Xi]at hb
  simp only[Bool.and_eq_true,decide_eq_true_eq]at hb
  have:=hs k' i' o' d hb.2 h1 h2 h3
  have e:(if k'<ch.length then sv k' g else undef)=sv k' g:=if_pos hb.1
  rw[←e];exact this
 refine Zk this fun v w' ⟨g',e1,e2,e3,e4⟩=>⟨g',fun k' hk'=>?_,fun h=>by
  have e:(if k<ch.length then sv k g' else undef)=sv k g':=if_pos hkl
  show v=if k<ch.length then sv k g' else undef
  rw[e];exact e2 h,?_,?_⟩
 · by_cases hlt:k'<ch.length
   · show(if k'<ch.length then sv k' g' else undef)=if k'<ch.length then sv k' g else undef
     rw[if_pos hlt,if_pos hlt]
     exact e1 k' (by rw[Xi];simp[hlt,hk'])
   · show(if k'<ch.length then sv k' g' else undef)=if k'<ch.length then sv k' g else undef
     rw[if_neg hlt,if_neg hlt]
 · show Rel (SO S (F ((List.range ch.length).map (Zc6 D k)) g')) w' (avs i) v
   rw[hset];exact e3
 · show QS J S w0 (F ((List.range ch.length).map D) g) w (F ((List.range ch.length).map (Zc6 D k)) g') w'
   rw[hset];exact e4
theorem Qu {N:Nat} {Q:Exit→Act→WP} {O:List OB} (Or:List OB) {id:Nat} {draw:Bool} {a:Act} {w:World} (avs:Nat→AV) (conds:Nat→Bool) (env':List (Nat×(γ→AV))) (F:List Bool→γ→List OB) (sv:Nat→γ→Value) (ch:List Nat) (g0:γ) (h0:∀ g,F (ch.map fun _=>false) g=O)
 (h:So J S w0 N O env a w) (hJ:Stab J) (hm:P.follows .mixedOrders=true) (hu:Y4 l=true) (hN:Zab l N=true) (hback:Zbe l=true) (hnd:Zfc ch=true)
 (hsub:∀ b g p,p∈Or→p∈F b g) (ob:Obs (ObP n P J S Or w0 env l avs conds ch) 0 l) (eff:Effs (EffX n P J S w0 env l avs conds F sv ch) 0 ch) (hf:FromGs env l avs conds (fun k' g=>if k'<ch.length then sv k' g else undef) ch env')
 (hq:∀ g a w,So J S w0 N (F (ch.map fun _=>true) g) (env'.map fun p=>(p.1,p.2 g)) a w→Q .normal a w):(Code.region id l.toArray draw).wpIn n.F n.d P Q a w:=by
 refine ZpL Or avs conds env' (fun D g=>F ((List.range ch.length).map D) g) (fun k' g=>if k'<ch.length then sv k' g else undef) ch g0 (fun g=>?_) h hJ hm hu hN hback hnd (fun D g p hp=>hsub _ g p hp) ob eff hf fun g a w h=>hq g a w ?_
 · rw[←h0 g]
   congr 1
   apply List.ext_getElem?
   intro j
   by_cases hj:j<ch.length<;>simp[hj]
 · have e:(List.range ch.length).map (fun k=>decide (k<ch.length))=ch.map fun _=>true:=by
    apply List.ext_getElem?
    intro j
    by_cases hj:j<ch.length<;>simp[hj]
   rw[←e]
   exact h
end
end Go.Proofs.YtdfadihhfppjaaaGreatDoor
set_option maxHeartbeats 8000000
set_option maxRecDepth 100000
namespace Go.Proofs.YtdfadihhfppjaaaGreatDoor
open Go.Proofs.Tryz (prog)
open Go.RowKit
theorem XE:Zc2 prog 37 [.lit (.int .i64 0),.lit (.int .i64 0),.lit (.string ⟨#[]⟩),.sl [],.lit (.int .i64 0),.lit (.int .i64 0)]:=⟨(.agg #[.int .i64 0,.int .i64 0,.string ⟨#[]⟩,.slice none 0 0,.int .i64 0,.int .i64 0]),fun w=>by kernel_rfl,fun S w=>(show RdL S w [.lit (.int .i64 0),.lit (.int .i64 0),.lit (.string ⟨#[]⟩),.sl [],.lit (.int .i64 0),.lit (.int .i64 0)] [.int .i64 0,.int .i64 0,.string ⟨#[]⟩,.slice none 0 0,.int .i64 0,.int .i64 0]from⟨.lit _ True.intro,.lit _ True.intro,.lit _ nzl,.nil _ _ nzl,.lit _ True.intro,.lit _ True.intro,trivial⟩)⟩
theorem Zl6:ZV prog 92 4 6:=fun b off w=>by kernel_rfl
theorem Zfl:ZV prog 92 2 4:=fun b off w=>by kernel_rfl
theorem Qd:Xl prog 37 6:=⟨fun w=>by kernel_rfl,fun w=>by kernel_rfl⟩
theorem Zo3:Zj prog 34:=Zn Tryz.func34 rfl rfl
theorem Zje:Zlj prog 28:=fun _ _=>by kernel_rfl
theorem Zfr:ZV prog 37 4 4:=fun b off w=>by kernel_rfl
theorem Zfq:ZV prog 37 5 5:=fun b off w=>by kernel_rfl
theorem Zaj:Y9 prog 37 6:=fun w=>by kernel_rfl
theorem ZrJ:Zj prog 143:=Zn Tryz.func143 rfl rfl
theorem Xy:Zjz prog 158 9 22 keyS.kind:=⟨by kernel_rfl,by kernel_rfl⟩
theorem Zk8:Zj prog 119:=Zn Tryz.func119 rfl rfl
theorem Zcw:XH prog 158:=fun w=>by kernel_rfl
theorem ZrM:Zj prog 136:=Zn Tryz.func136 rfl rfl
theorem p_good {J:WP} (hJ:Stab J) (d:Db) (i:Nat) (ss:List Stp) (ts:List (List BA)) (M:Nat) (c:Chg) (hok:ZeD ss) (hs0:0≤c.step) (hs1:c.step< (ss.length:Int)) (hca:∀ a∈c.args,0≤a∧a<c.step) (hcl:c.args.length≤40) (hc1:c.reason=2∨1≤c.args.length):Fn prog J 69 [.ptr [Zb d.consts,Zb d.vars,Yq d.frames,.lit (.int .i64 (((i:Nat):Int))),ZQ ss,Zo ts,.lit (.int .i64 ((((ZH ss):Nat):Int))),.lit (.map (some M))],.agg (chC c)] (.tup [.agg (chC (ZbI ss c)),.bool (decide ((((XY ss c).length:Nat):Int)< ((ZH ss:Nat):Int)))]):=by
 refine fE Tryz.func69 fun S w0 hS hJ0=>?_
 refine tw Ye (tsq ?_)
 refine ZdB (cs:=[.lit (.int .i64 c.reason),.lit (.int .i64 c.step),.lit (.string c.label),ZX c.args,.lit (.int .i64 c.before),.lit (.int .i64 c.after)]) hJ rfl rfl rfl (lb rfl) (fun a w h=>(h.get 1 rfl)) fun b1=>?_
 refine ZA XE hJ rfl rfl rfl (lb rfl) fun b2=>?_
 refine snK 1 tb rfl (seK [1,2,3] [_,_,_] rfl ?_)
 refine nx (Zh (tw pm1 (fun a w h=>Qu [OB.var b2 [.lit (.int .i64 0),.lit (.int .i64 0),.lit (.string (⟨#[]⟩:BA)),ZX ([]:List Int),.lit (.int .i64 0),.lit (.int .i64 0)]] (γ:=Value) (fun ix'=>([.ptr [Zb d.consts,Zb d.vars,Yq d.frames,.lit (.int .i64 (((i:Nat):Int))),ZQ ss,Zo ts,.lit (.int .i64 ((((ZH ss):Nat):Int))),.lit (.map (some M))],.ptr [Zb d.consts,Zb d.vars,Yq d.frames,.lit (.int .i64 (((i:Nat):Int))),ZQ ss,Zo ts,.lit (.int .i64 ((((ZH ss):Nat):Int))),.lit (.map (some M))],.ptr [.lit (.int .i64 ((((ZH ss):Nat):Int))),.lit (.map (some M))],.int ((ZH ss):Nat),.ptr [Zb d.consts,Zb d.vars,Yq d.frames,.lit (.int .i64 (((i:Nat):Int))),ZQ ss,Zo ts,.lit (.int .i64 ((((ZH ss):Nat):Int))),.lit (.map (some M))],.ptr [Zb d.consts,Zb d.vars,Yq d.frames,.lit (.int .i64 (((i:Nat):Int))),ZQ ss,Zo ts,.lit (.int .i64 ((((ZH ss):Nat):Int))),.lit (.map (some M))],.ptr [ZQ ss,Zo ts,.lit (.int .i64 ((((ZH ss):Nat):Int))),.lit (.map (some M))],.agg (pfC ss),.agg (chC c),.agg (pfC (XY ss c)),.rd (ZQ (XY ss c)),.int ((XY ss c).length:Nat),.at b1 4,.any,.at b1 5,.any]:List AV).getD ix' .any) (fun _=>true) [(4,fun _=>.at b2 0),(3,fun _=>.at b1 0)] (fun(b:List Bool) (g:Value)=>(bif b.getD 2 false then [OB.var b1 [.lit (.int .i64 c.reason),.lit (.int .i64 c.step),.lit (.string c.label),ZX c.args,.lit (.int .i64 ((((ZH ss):Nat):Int))),.lit (.int .i64 ((((XY ss c).length:Nat):Int)))]]else(bif b.getD 1 false then [OB.var b1 [.lit (.int .i64 c.reason),.lit (.int .i64 c.step),.lit (.string c.label),ZX c.args,.lit (.int .i64 ((((ZH ss):Nat):Int))),.lit (.int .i64 c.after)]]else [OB.var b1 (chC c)]))++([OB.var b2 [.lit (.int .i64 0),.lit (.int .i64 0),.lit (.string (⟨#[]⟩:BA)),ZX ([]:List Int),.lit (.int .i64 0),.lit (.int .i64 0)]])) (fun k' g=>match k' with | 0=>g | _=>undef) [8,13,15] undef (fun _=>rfl) h hJ Yk rfl rfl rfl rfl (fun b g p hp=>(List.mem_append_right _ hp)) ⟨?_,?_,?_,?_,?_,?_,?_,?_,?_,?_,?_,?_,?_,?_,?_,?_,trivial⟩ ⟨?e1_1_0,?e1_1_1,?e1_1_2,trivial⟩ ⟨.old 0 4 _,.old 1 3 _,trivial⟩ ?n1_1)))
 exact oX rfl fun hx hl=>ZW rfl (hl.env 2 0 _ rfl rfl) hx
 exact oX rfl fun hx hl=>Yy rfl (hl.D 0 6 rfl rfl) hx
 exact oX rfl fun hx hl=>ZE Zl6 rfl (hl.D 1 7 rfl rfl) hx
 exact oX rfl fun hx hl=>Zz Zcv rfl (hl.D 2 8 rfl rfl) hx
 exact oX rfl fun hx hl=>ZW rfl (hl.env 2 0 _ rfl rfl) hx
 exact oX rfl fun hx hl=>Yy rfl (hl.D 4 10 rfl rfl) hx
 exact oX rfl fun hx hl=>ZE Zfl rfl (hl.D 5 11 rfl rfl) hx
 exact oX rfl fun hx hl=>X7 (k:=1) Yu rfl (hl.D 6 12 rfl rfl) (lb rfl) hx
 exact Zi rfl
 exact oY rfl fun hk hx hl=>Zbj (Zhd hJ ss c (by exact hok) (by exact hs0) (by exact hs1) (by exact hca) (by exact hcl) (by exact hc1)) Zo3 rfl (Zm hS _ hk hx) (hx.1) (Za (hl.D 7 13 rfl rfl) (Za (hl.D 8 14 rfl rfl) Zd)) (jo hJ hx)
 exact oX rfl fun hx hl=>ZlM (c:=ZQ (XY ss c)) Zje rfl (hl.D 9 15 rfl rfl) hx
 exact oX rfl fun hx hl=>Zam Z1 rfl (hl.D 10 16 rfl rfl) hx
 exact oX rfl fun hx hl=>Zy Zfr rfl (hl.env 1 3 _ rfl rfl) hx
 exact Zi rfl
 exact oX rfl fun hx hl=>Zy Zfq rfl (hl.env 1 3 _ rfl rfl) hx
 exact Zi rfl
 case e1_1_0=>exact ZeL [[false,false,false]] (by kernel_rfl) rfl rfl rfl rfl ⟨fun _ _ w hk hx hl _=>Zk (Yt (ds:=[.lit (.int .i64 c.reason),.lit (.int .i64 c.step),.lit (.string c.label),ZX c.args,.lit (.int .i64 c.before),.lit (.int .i64 c.after)]) Qd rfl (Zf hx (mo 0 rfl)) (hl.env 1 3 _ rfl rfl) rfl rfl hx) fun v w' hp=>⟨v,(fun k' hk'=>by rcases k' with _ | _ | _ | k'<;>first | rfl | cases hk'),fun _=>rfl,hp.1,Zdz hJ hk hx hp.2.1⟩,trivial⟩
 case e1_1_1=>exact ZeL [[true,false,false]] (by kernel_rfl) rfl rfl rfl rfl ⟨fun g _ w hk hx hl _=>Zk (Zdc (off:=4) (es:=[_,_,_,_,_,_]) (c:=.lit (.int .i64 ((((ZH ss):Nat):Int)))) hJ hJ0 ZbU rfl hk hx (hl.D 12 18 rfl rfl) (hl.D 3 9 rfl rfl) (lb rfl) rfl) fun v w' hp=>⟨g,fun _ _=>rfl,fun e=>(by cases e),True.intro,hp⟩,trivial⟩
 case e1_1_2=>exact ZeL [[true,true,false]] (by kernel_rfl) rfl rfl rfl rfl ⟨fun g _ w hk hx hl _=>Zk (Zdc (off:=5) (es:=[_,_,_,_,_,_]) (c:=.lit (.int .i64 ((((XY ss c).length:Nat):Int)))) hJ hJ0 ZbU rfl hk hx (hl.D 14 19 rfl rfl) (hl.D 11 17 rfl rfl) (lb rfl) rfl) fun v w' hp=>⟨g,fun _ _=>rfl,fun e=>(by cases e),True.intro,hp⟩,trivial⟩
 clear a w h
 intro x3
 dsimp only[List.map]
 refine nx (Zh (tw pm1 (fun a w h=>Qu [OB.var b1 [.lit (.int .i64 c.reason),.lit (.int .i64 c.step),.lit (.string c.label),ZX c.args,.lit (.int .i64 ((((ZH ss):Nat):Int))),.lit (.int .i64 ((((XY ss c).length:Nat):Int)))]] (γ:=Unit) (fun ix'=>([.agg [.lit (.int .i64 c.reason),.lit (.int .i64 c.step),.lit (.string c.label),ZX c.args,.lit (.int .i64 ((((ZH ss):Nat):Int))),.lit (.int .i64 ((((XY ss c).length:Nat):Int)))],.at b1 5,.int ((XY ss c).length:Nat),.at b1 4,.int ((ZH ss):Nat),.bool (decide ((((XY ss c).length:Nat):Int)< (((ZH ss):Nat):Int))),.any,.bool (decide ((((XY ss c).length:Nat):Int)< (((ZH ss):Nat):Int)))]:List AV).getD ix' .any) (fun _=>true) [(4,fun _=>.at b2 0),(5,fun _=>.bool (decide ((((XY ss c).length:Nat):Int)< (((ZH ss):Nat):Int))))] (fun(b:List Bool) (g:Unit)=>(bif b.getD 0 false then [OB.var b2 [.lit (.int .i64 c.reason),.lit (.int .i64 c.step),.lit (.string c.label),ZX c.args,.lit (.int .i64 ((((ZH ss):Nat):Int))),.lit (.int .i64 ((((XY ss c).length:Nat):Int)))]]else [OB.var b2 [.lit (.int .i64 0),.lit (.int .i64 0),.lit (.string (⟨#[]⟩:BA)),ZX ([]:List Int),.lit (.int .i64 0),.lit (.int .i64 0)]])++([OB.var b1 [.lit (.int .i64 c.reason),.lit (.int .i64 c.step),.lit (.string c.label),ZX c.args,.lit (.int .i64 ((((ZH ss):Nat):Int))),.lit (.int .i64 ((((XY ss c).length:Nat):Int)))]])) (fun _ _=>undef) [6] () (fun _=>rfl) h hJ Yk rfl rfl rfl rfl (fun b g p hp=>(List.mem_append_right _ hp)) ⟨?_,?_,?_,?_,?_,?_,?_,?_,trivial⟩ ⟨?e2_2_0,trivial⟩ ⟨.old 0 4 _,.new 7 5 _,trivial⟩ ?n2_2)))
 exact fun _ O' hO'=>⟨rfl,fun _ _ _ hx hl _=>Yt (ds:=[.lit (.int .i64 c.reason),.lit (.int .i64 c.step),.lit (.string c.label),ZX c.args,.lit (.int .i64 ((((ZH ss):Nat):Int))),.lit (.int .i64 ((((XY ss c).length:Nat):Int)))]) Qd rfl (Zf hx (hO' _ (mo 0 rfl))) (hl.env 1 3 _ rfl rfl) rfl rfl hx⟩
 exact oX rfl fun hx hl=>Zy Zfq rfl (hl.env 1 3 _ rfl rfl) hx
 exact fun _ O' hO'=>⟨rfl,fun _ _ _ hx hl _=>Zs Zcv rfl (Zf hx (hO' _ (mo 0 rfl))) (hl.D 1 21 rfl rfl) rfl hx⟩
 exact oX rfl fun hx hl=>Zy Zfr rfl (hl.env 1 3 _ rfl rfl) hx
 exact fun _ O' hO'=>⟨rfl,fun _ _ _ hx hl _=>Zs Zcv rfl (Zf hx (hO' _ (mo 0 rfl))) (hl.D 3 23 rfl rfl) rfl hx⟩
 exact oX rfl fun hx hl=>ZtE rfl (hl.D 2 22 rfl rfl) (hl.D 4 24 rfl rfl) hx
 exact Zi rfl
 exact oX rfl fun hx hl=>YK rfl (hl.D 5 25 rfl rfl) hx
 case e2_2_0=>exact ZeL [[false]] (by kernel_rfl) rfl rfl rfl rfl ⟨fun g _ w hk hx hl _=>(by obtain⟨us2,hv2,hr3⟩:=X6 (hl.D 0 20 rfl rfl);exact Zk (Y3 (off:=0) (news:=[_,_,_,_,_,_]) (es:=[_,_,_,_,_,_]) (us:=us2) hJ hJ0 Zaj rfl hk hx (hl.env 0 4 _ rfl rfl) (by rw[hv2];rfl) hr3 (lb rfl) rfl) fun v w' hp=>⟨g,fun _ _=>rfl,fun e=>(by cases e),True.intro,hp⟩),trivial⟩
 clear a w h
 intro _
 dsimp only[List.map]
 exact nx (Zv (fun a w h=>Zd5 (m:=0) (q:=1) rfl Qd h rfl rfl (show(_:List CD)=[.lit (.int .i64 ((ZbI ss c).reason)),.lit (.int .i64 ((ZbI ss c).step)),.lit (.string ((ZbI ss c).label)),ZX ((ZbI ss c).args),.lit (.int .i64 ((ZbI ss c).before)),.lit (.int .i64 ((ZbI ss c).after))]from rfl) rfl (eB (rfl))))
theorem ZlQ {J:WP} (hJ:Stab J) (h:Hy) (s:BA) (hf:h.floating=true→1<h.text.length):Fn prog J 143 [.agg (hyC h),.ptr [.lit (.string s)]] (.bool (h.floating&&decide (ge h.text 1=s))):=by
 refine fE Tryz.func143 fun S w0 hS hJ0=>?_
 clear hJ0
 refine hqs tb hJ [1,1000] [.ptr (hyC h),_] [0] [_,_] rfl ⟨iBs hS hJ,trivial⟩ ?_
 refine hqs tb hJ [1010] [_,_,_,_,_,.ptr [.lit (.string (ge h.text 1))],_,_,_,_,_] [5] [_] rfl ⟨gIx (k:=1) Zl (hk:=fun(hc':((h.floating==true))=true)=>by(try simp at hc');exact hf hc'),trivial⟩ ?_
 exact tRn 0 (hE:=eB (by first | rfl | grind[Zg]))
theorem ZfW {J:WP} (hJ:Stab J) (xs:List Hy) (f:FuncId) (caps:List AV) (Os:List OB) (p:Hy→Bool) (hf:∀ q'∈xs,FnR prog J f Os ([.agg (hyC (q'))]++caps) (.bool (p q'))) (hk0:Zj prog f):FnR prog J 187 Os [.rd (XC xs),.fn f caps] (.int (XZ p xs)):=by
 refine fER Tryz.func187 fun S w0 hS hJ0 hH=>?_
 clear hJ0
 refine ln 0 fun hl1=>?_
 refine qs tb hJ [0,1] [_] [_,_] ?_
 refine Zh (hqs tb hJ [0,1,1001,1002] [_,.int (xs.length:Nat),_] [1] [_,_,_,_] rfl ⟨Ym ZB,trivial⟩ ?_)
 refine Ze (lp (ι:=Nat) (fun k=>(k≤xs.length)∧(∀ j,j<k→p (ge xs j)=false)) (fun k=>[(8,.int (k:Nat))]) (fun k=>xs.length-k) [0,1,2,3] [_,_,_] 0 ⟨nzl,fun j hj=>by omega⟩ ?_)
 rintro k ⟨f1_1,f1_2⟩
 refine qs tb hJ [0,1,2,3,1000] [_] [_,_,_,_,_] ?_
 refine cjS 4 (fun hb1=>?_) fun hb1=>?_
 ·
  try simp at hb1
  refine Zc (nx (Zh (Ze (qs tb hJ [0,1,2,3,1001] [_,_] [_,_,_,_,_] ?_))))
  refine hqs tb hJ [0,1,2,3,4,1005] [_,_,_,.ptr (hyC (ge xs k)),_,.bool (p (ge xs k))] [3,5] [_,_,_,_,_,_] rfl ⟨iIx ZG,fun _ _ hk hx hl _=>Zan (hf (ge xs k) (Zg oz)) hk0 rfl (hl.D 0 11 rfl rfl) (nm hS hk) (hx) (fun _ ho=>YQ hH hk ho) (Za (hl.D 4 15 rfl rfl) Zd) (js hJ hx),trivial⟩ ?_
  refine cj 5 (fun hb2=>?_) fun hb2=>?_
  ·
   try simp at hb2
   refine qs tb hJ [1001] [_,_] [_] ?_
   exact tRn 0 (hE:=eI (by first | exact(Y2 hb1 hb2 f1_2).symm | exact(YM fun j hj=>f1_2 j oz).symm))
  ·
   try simp at hb2
   refine Zc (nx (hqp tb hJ [0,1,2,1001] [.int (k+1:Nat),_] [0] [_,_,_,_] rfl ⟨YN,trivial⟩ ?_))
   exact lpE (k+1) [0,1,2,3] ⟨oz,ZY f1_2 hb2⟩
 ·
  try simp at hb1
  refine Zu (nx (qs tb hJ [1000] [_] [_] ?_))
  exact tRn 0 (hE:=eI (by first | exact(Y2 hb1 hb2 f1_2).symm | exact(YM fun j hj=>f1_2 j oz).symm))
theorem Zc0 {J:WP} (hJ:Stab J) (xs:List Hy) (f:FuncId) (caps:List AV) (Os:List OB) (p:Hy→Bool) (hf:∀ q'∈xs,FnR prog J f Os ([.agg (hyC (q'))]++caps) (.bool (p q'))) (hk0:Zj prog f):FnR prog J 142 Os [.rd (XC xs),.fn f caps] (.bool (xs.any p)):=by
 refine fER Tryz.func142 fun S w0 hS hJ0 hH=>?_
 clear hJ0
 refine ln 0 fun hl1=>?_
 refine qs tb hJ [0,1] [_] [_,_] ?_
 refine hqs tb hJ [1004] [_,_,.int (XZ p xs),_,_] [2] [_] rfl ⟨fun _ _ hk hx hl _=>YX (ZfW hJ xs f caps Os p (hf) (hk0)) Zgq rfl (nm hS hk) (hx) (fun _ ho=>YQ hH hk ho) (Za (hl.D 0 5 rfl rfl) (Za (hl.D 1 6 rfl rfl) Zd)) (js hJ hx),trivial⟩ ?_
 exact tRn 0 (hE:=eB (by rw[←ZaL]))
theorem Zhb {J:WP} (hJ:Stab J) (g:Fr) (s:BA) (hfl:∀ h∈g.hyps,h.floating=true→h.text.length=2):Fn prog J 119 [.agg (frC g),.str s] (.bool (Zkz g.hyps s)):=by
 refine fE Tryz.func119 fun S w0 hS hJ0=>?_
 clear hJ0
 refine hqs tb hJ [1000,1001] [.ptr (frC g),.ptr [.lit (.string s)],_] [0,1] [_,_] rfl ⟨iBs hS hJ,fun _ _ hk hx hl _=>Zao rfl (hl.env 1 1 _ rfl rfl) (hS _ hk.size) (js hJ hx),trivial⟩ ?_
 refine hqs tb hJ [1001,1004] [_,_,.fn 143 [.ptr [.lit (.string s)]],.bool (g.hyps.any (fun h'=>h'.floating&&decide (ge h'.text 1=s))),_] [2,3] [_,_] rfl ⟨fun _ _ _ hx hl _=>YW (caps:=[(Go.Operand.tmp 3)]) rfl (Za (hl.env 1 3 _ rfl rfl) Zd) hx,fun _ _ hk hx hl _=>YX (Zc0 hJ g.hyps 143 [.ptr [.lit (.string s)]] [] (fun h'=>h'.floating&&decide (ge h'.text 1=s)) (fun q' hq'=>(ZlQ hJ q' s (fun e=>by have:=hfl q' hq' e;omega)).rr) (ZrJ)) Zk6 rfl (nm hS hk) (hx) Zq (Za (hl.D 1 6 rfl rfl) (Za (hl.D 2 7 rfl rfl) Zd)) (js hJ hx),trivial⟩ ?_
 refine ln 0 fun hl1=>?_
 exact tRn 1 (hE:=eB (rfl))
theorem ZfV {J:WP} (hJ:Stab J) (mb:Nat) (Mb:BM) (g:Fr) (p t:List BA) (hfl:∀ h∈g.hyps,h.floating=true→h.text.length=2):FnR prog J 94 [OB.map keyS (fun z':List BA=>AV.rd (Zb z')) mb Mb] [.lit (.map (some mb)),.agg (frC g),.rd (Zb p),.rd (Zb t)] (.tup [.bool ((Xt g.hyps Mb p t).1),.bool ((Xt g.hyps Mb p t).2)]):=by
 refine fER Tryz.func94 fun S w0 hS hJ0 hH=>?_
 refine tw Ye (ln 2 fun hl1=>?_)
 refine ln 3 fun hl2=>?_
 refine ZK tb hJ [0,2,3,1000] [.ptr (frC g),_,_] [0] [_,_,_,_] rfl ⟨iBo hS hJ,trivial⟩ ?_
 refine Zh (ZK tb hJ [0,2,3,1000,1001,1002] [_,.int (p.length:Nat),_] [1] [_,_,_,_,_,_] rfl ⟨Ym Zx,trivial⟩ ?_)
 refine Ze (lpo (ι:=Nat×(List BA)) (fun(k,tx)=>(k≤p.length)∧(Xt g.hyps Mb p t=Xt g.hyps Mb (p.drop k) tx)) (fun(_,_)=>[]) (fun(k,tx)=>[(16,.int (k:Nat)),(3,.rd (Zb tx))]) (fun(k,_)=>p.length-k) [0,2,3,4,5,1] [_,_,_,_] (0,t) ⟨nzl,rfl⟩ ?_)
 rintro⟨k,tx⟩ ⟨f1_1,f1_2⟩
 refine qso tb hJ [0,1,2,3,4,5,1000] [_] [_,_,_,_,_,_,_] ?_
 refine ln 5 fun hl3=>?_
 refine cjS 6 (fun hb1=>?_) fun hb1=>?_
 ·
  try simp at hb1
  refine Zc (nx (Zh (Ze (ZK tb hJ [0,1,2,3,4,5,1002] [.ptr [.lit (.string (ge p k))],_,_] [0] [_,_,_,_,_,_,_] rfl ⟨iIx Zl,trivial⟩ ?_))))
  refine ZK tb hJ [0,1,2,3,4,5,6,1004,1006,1007] [_,_,.tup [.rd (Zb (((Zw Mb (ge p k)).getD default))),.bool ((Zw Mb (ge p k)).isSome)],_,_,_,_,_] [2] [_,_,_,_,_,_,_,_,_,_] rfl ⟨fun _ _ hk hx hl _=>Xm (Kd:=keyS) (f:=(fun z':List BA=>AV.rd (Zb z'))) (L:=Mb) Xy Qr (ge p k) rfl (ZI hH hk hx (mo 0 rfl)) (hl.D 0 21 rfl rfl) (hl.D 1 22 rfl rfl) hx,trivial⟩ ?_
  refine ln 7 fun hl4=>?_
  refine Ze (ZK tb hJ [0,1,2,3,4,5,6,8,9,1016] [_,_,_,.int ((((Zw Mb (ge p k)).getD default)).length:Nat),_,.int (tx.length:Nat),_,_,_,_,_,_,.int ((((Zw Mb (ge p k)).getD default)).length:Nat),.rd (Zb (tx.take ((((Zw Mb (ge p k)).getD default)).length))),.bool (decide ((((Zw Mb (ge p k)).getD default))=(tx.take ((((Zw Mb (ge p k)).getD default)).length)))),_,_] [3,5,12,13,14] [_,_,_,_,_,_,_,_,_,_] rfl ⟨Ym Zx,Ym Zx,Ym Zx,fun _ _ _ hx hl hc=>QY (ys:=tx.take ((((Zw Mb (ge p k)).getD default)).length)) (lo:=0) (hi:=(((Zw Mb (ge p k)).getD default)).length) List.drop_zero Zl (fun _=>rfl) rfl (hl.D 10 39 rfl hc) rfl (hl.D 12 41 rfl hc) (by have hc':(((((Zw Mb (ge p k)).isSome)&& (decide ((((((Zw Mb (ge p k)).getD default)).length:Nat):Int)≤((tx.length:Nat):Int))))==true))=true:=hc;(try simp at hc');(first | omega | (simp;omega) | grind[Zg])) (by have hc':(((((Zw Mb (ge p k)).isSome)&& (decide ((((((Zw Mb (ge p k)).getD default)).length:Nat):Int)≤((tx.length:Nat):Int))))==true))=true:=hc;(try simp at hc');(first | omega | (simp;omega) | grind[Zg])) hx,iFo hS hJ (ZfX hJ (((Zw Mb (ge p k)).getD default)) (tx.take ((((Zw Mb (ge p k)).getD default)).length))) Zjn,trivial⟩ ?_)
  refine cj 9 (fun hb2=>?_) fun hb2=>?_
  ·
   refine YR tb hJ [0,1,2,3,4,1003,1004] [_,_,.int ((((Zw Mb (ge p k)).getD default)).length:Nat),.rd (Zb (tx.drop ((((Zw Mb (ge p k)).getD default)).length))),_] [2,3] [_,_,_,_,_,_,_] rfl ⟨Ym Zx,fun _ _ _ hx hl _=>QY (ys:=tx.drop ((((Zw Mb (ge p k)).getD default)).length)) (lo:=(((Zw Mb (ge p k)).getD default)).length) (hi:=tx.length) (by rw[List.take_length]) Zl (fun _=>rfl) rfl (hl.D 0 45 rfl rfl) (hl.D 2 47 rfl rfl) rfl (by first | omega | (simp;omega) | grind[Zg]) (by first | omega | (simp;omega) | grind[Zg]) hx,trivial⟩ ?_
   refine nx (ln 5 fun hl5=>?_)
   refine YR tb hJ [0,1,2,3,6,1001] [.int (k+1:Nat),_] [0] [_,_,_,_,_,_] rfl ⟨YN,trivial⟩ ?_
   exact Xf (k+1,tx.drop ((((Zw Mb (ge p k)).getD default)).length)) [0,1,2,3,5,4] ⟨oz,by first | exact bgI f1_2 oz hb2 | exact bgS f1_2 oz hb3 hb4 hb5⟩
  ·
   refine qso tb hJ [0,1,2,3,4,5,6,1001] [_,_] [_,_,_,_,_,_,_,_] ?_
   refine cj 7 (fun hb3=>?_) fun hb3=>?_
   ·
    have e9:=bgN f1_2 oz hb2 hb3
    refine qso tb hJ [1000,1001] [_,_] [_,_] ?_
    exact Zv (fun a w h=>YP (m:=0) (k:=1) rfl (Z6 h) rfl rfl (eB (by first | (rw[e9];done) | (rw[e9];simp))) (eB (by first | (rw[e9];done) | (rw[e9];simp))))
   ·
    refine ZK tb hJ [0,1,2,3,4,5,6,1003] [_,_,.bool (Zkz g.hyps (ge p k)),_] [2] [_,_,_,_,_,_,_,_] rfl ⟨iFo hS hJ (Zhb hJ g (ge p k) (by exact hfl)) Zk8,trivial⟩ ?_
    refine cj 7 (fun hb4=>?_) fun hb4=>?_
    ·
     have e9:=bgF f1_2 oz hb3 hb4
     refine qso tb hJ [1000,1001] [_,_] [_,_] ?_
     exact Zv (fun a w h=>YP (m:=0) (k:=1) rfl (Z6 h) rfl rfl (eB (by first | (rw[e9];done) | (rw[e9];simp))) (eB (by first | (rw[e9];done) | (rw[e9];simp))))
    ·
     refine ZK tb hJ [0,1,2,3,4,5,1010] [_,.int (tx.length:Nat),_,_,_,.ptr [.lit (.string (ge tx 0))],_,_,_,_,_] [1,5] [_,_,_,_,_,_,_] rfl ⟨Ym Zx,gIx (k:=0) Zl (hk:=fun(hc':(((decide (((tx.length:Nat):Int)=(0:Int)))==false))=true)=>by(try simp at hc');first | omega | (simp;omega) | grind[Zg]),trivial⟩ ?_
     refine cj 6 (fun hb5=>?_) fun hb5=>?_
     ·
      have e9:=bgE f1_2 oz hb3 hb4 hb5
      refine qso tb hJ [1000,1001] [_,_] [_,_] ?_
      exact Zv (fun a w h=>YP (m:=0) (k:=1) rfl (Z6 h) rfl rfl (eB (by first | (rw[e9];done) | (rw[e9];simp))) (eB (by first | (rw[e9];done) | (rw[e9];simp))))
     ·
      refine YR tb hJ [0,1,2,3,4,1001,1002] [_,.rd (Zb (tx.drop 1)),_] [1] [_,_,_,_,_,_,_] rfl ⟨fun _ _ _ hx hl _=>QY (ys:=tx.drop 1) (lo:=1) (hi:=tx.length) (by rw[List.take_length]) Zl (fun _=>rfl) rfl (hl.D 0 26 rfl rfl) (Rel.of_lit (Go.Value.int Go.IntKind.i64 1)) rfl (by first | omega | (simp;omega) | grind[Zg]) (by first | omega | (simp;omega) | grind[Zg]) hx,trivial⟩ ?_
      refine nx (ln 5 fun hl6=>?_)
      refine YR tb hJ [0,1,2,3,6,1001] [.int (k+1:Nat),_] [0] [_,_,_,_,_,_] rfl ⟨YN,trivial⟩ ?_
      exact Xf (k+1,tx.drop 1) [0,1,2,3,5,4] ⟨oz,by first | exact bgI f1_2 oz hb2 | exact bgS f1_2 oz hb3 hb4 hb5⟩
 ·
  try simp at hb1
  have e9:=bg_end f1_2 oz
  refine Zu (nx (ZK tb hJ [1003,1004] [_,.int (tx.length:Nat),_,_,_] [1] [_,_] rfl ⟨Ym Zx,trivial⟩ ?_))
  exact Zv (fun a w h=>YP (m:=0) (k:=1) rfl (Z6 h) rfl rfl (eB (by first | (rw[e9];done) | (rw[e9];simp))) (eB (by first | (rw[e9];done) | (rw[e9];simp))))
theorem Zp7 {J:WP} (hJ:Stab J) (mb:Nat) (Mb:BM) (g:Fr) (s:BA) (hfl:∀ h∈g.hyps,h.floating=true→h.text.length=2):FnR prog J 136 [OB.map keyS (fun z':List BA=>AV.rd (Zb z')) mb Mb] [.str s,.ptr [.lit (.map (some mb))],.ptr (frC g)] (.bool (!(Zw Mb s).isSome&&Zkz g.hyps s)):=by
 refine fER Tryz.func136 fun S w0 hS hJ0 hH=>?_
 refine tw Ye (qso tb hJ [0,1,2] [_] [_,_,_] ?_)
 refine ZK tb hJ [0,2,1004,1006,1007] [_,_,.tup [.rd (Zb (((Zw Mb s).getD default))),.bool ((Zw Mb s).isSome)],_,_,_,_,_] [2] [_,_,_,_,_] rfl ⟨fun _ _ hk hx hl _=>Xm (Kd:=keyS) (f:=(fun z':List BA=>AV.rd (Zb z'))) (L:=Mb) Xy Qr s rfl (ZI hH hk hx (mo 0 rfl)) (hl.D 0 8 rfl rfl) (hl.D 1 9 rfl rfl) hx,trivial⟩ ?_
 refine ln 2 fun hl1=>?_
 refine ZK tb hJ [1007] [_,_,_,_,_,.bool (Zkz g.hyps s),_,_] [5] [_] rfl ⟨fun _ _ hk hx hl hc=>Zbj (Zhb hJ g s (by have hc':(((!((Zw Mb s).isSome))==true))=true:=hc;(try simp at hc');(exact hfl))) Zk8 rfl (Zm hS _ hk hx) (hx.1) (Za (hl.D 3 16 rfl hc) (Za (hl.D 4 17 rfl hc) Zd)) (jo hJ hx),trivial⟩ ?_
 exact tRo 0 (hE:=eB (by first | rfl | grind[Zg]))
theorem ZtM {J:WP} (hJ:Stab J) (mb:Nat) (Mb:BM) (g:Fr) (t:List BA) (hfl:∀ h∈g.hyps,h.floating=true→h.text.length=2):FnR prog J 104 [OB.map keyS (fun z':List BA=>AV.rd (Zb z')) mb Mb] [.lit (.map (some mb)),.agg (frC g),.rd (Zb t)] (.bool (Zvg g.hyps Mb t)):=by
 refine fER Tryz.func104 fun S w0 hS hJ0 hH=>?_
 refine tw Ye (ln 2 fun hl1=>?_)
 refine ZK tb hJ [2,1000,1001] [.ptr [.lit (.map (some mb))],.ptr (frC g),_] [0,1] [_,_,_] rfl ⟨fun _ _ hk hx hl _=>Zao rfl (hl.env 0 0 _ rfl rfl) (Zm hS _ hk hx _ nlr) (jo hJ hx),iBo hS hJ,trivial⟩ ?_
 refine ZK tb hJ [1004] [_,.fn 136 [.ptr [.lit (.map (some mb))],.ptr (frC g)],.bool (t.any (fun s'=>!(Zw Mb s').isSome&&Zkz g.hyps s')),_,_] [1,2] [_] rfl ⟨fun _ _ _ hx hl _=>YW (caps:=[(Go.Operand.tmp 3),(Go.Operand.tmp 4)]) rfl (Za (hl.env 1 3 _ rfl rfl) (Za (hl.env 2 4 _ rfl rfl) Zd)) hx,fun _ _ hk hx hl _=>YX (Xn hJ t 136 [.ptr [.lit (.map (some mb))],.ptr (frC g)] [OB.map keyS (fun z':List BA=>AV.rd (Zb z')) mb Mb] (fun s'=>!(Zw Mb s').isSome&&Zkz g.hyps s') (fun q'=>Zp7 hJ mb Mb g q' hfl) (ZrM)) Zcd rfl (Zm hS _ hk hx) (hx.1) (ZF (ZI hH hk hx (mo 0 rfl)) Zq) (Za (hl.D 0 7 rfl rfl) (Za (hl.D 1 8 rfl rfl) Zd)) (jo hJ hx),trivial⟩ ?_
 exact tRo 0 (hE:=eB (rfl))
end Go.Proofs.YtdfadihhfppjaaaGreatDoor
