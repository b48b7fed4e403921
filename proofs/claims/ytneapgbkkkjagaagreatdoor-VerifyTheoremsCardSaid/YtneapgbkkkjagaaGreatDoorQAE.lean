/-
  CONTRACTS of the reference: steps of a proof.
  WHAT IS READ, ITEM BY ITEM (plain).
  CONTRACTS of the reference: the steps that a proof means.
  CONTRACTS of the program: a label among the hypotheses'.
  CONTRACT of the program: what is checked ahead.
  CONTRACT of the program: a proof's words are read.
  CONTRACTS of the program: the machine's reading, guarded.
  CONTRACT of the program: the machine of a proof.
  CONTRACT of the program: a verdict.
  CONTRACTS of the program: verdicts of theorems, of other proofs.
  CONTRACTS of the reference: runs, verdicts.
  CONTRACTS of the reference: verdicts of proofs, of theorems.
  CONTRACTS of the reference: verdicts of theorems.
  THE LAW's SAMPLE of verdicts, and its bounds (plain).
-/
import Derived.Test.YtneapgbkkkjagaaGreatDoorQAD
set_option maxHeartbeats 8000000
set_option maxRecDepth 100000
namespace Go.Proofs.YtneapgbkkkjagaaGreatDoor
open Go.Proofs.Tryz (prog)
open Go.RowKit
theorem Xn:Yv prog 76 82 3:=⟨by kernel_rfl,fun w=>by kernel_rfl⟩
theorem Zmq:ZbV prog 82 3:=⟨#[.string ⟨#[]⟩,.int .i64 0,.bool false],rfl,fun i=>(#[(0,1),(1,1),(2,1)]:Array (Nat×Nat))[i]?,fun j hj=>by rcases j with _ | _ | _ | j<;>first | rfl | omega,fun parts=>by kernel_rfl⟩
theorem Zef:Zcw prog 82:=⟨.agg #[.string ⟨#[]⟩,.int .i64 0,.bool false],fun w=>by kernel_rfl⟩
theorem ZbU:Zgc prog 76 82 3 32:=Zp2 (.agg #[.string ⟨#[]⟩,.int .i64 0,.bool false]) (by kernel_rfl) (by kernel_rfl) rfl (by decide) (fun w=>by kernel_rfl)
theorem Zsz:Zl prog 119:=Zs Tryz.func119 rfl rfl
theorem Zsy:Zl prog 120:=Zs Tryz.func120 rfl rfl
theorem Zsx:Zl prog 121:=Zs Tryz.func121 rfl rfl
theorem Zmb:ZV prog 82 2 2:=fun b off w=>by kernel_rfl
theorem ZfR:ZV prog 82 1 1:=fun b off w=>by kernel_rfl
theorem ZfS:ZV prog 82 0 0:=fun b off w=>by kernel_rfl
theorem ZvK:Zl prog 71:=Zs Tryz.func71 rfl rfl
theorem ZvJ:Zl prog 72:=Zs Tryz.func72 rfl rfl
theorem ZvI:Zl prog 73:=Zs Tryz.func73 rfl rfl
theorem ZsL {J:World→Prop} (hJ:Stab J) (t:List BA)  :Fn prog J 66 [.rd (Zg t)] (.tup [.rd (Zhe (if 2000<t.length then []else ZlL t)),.int (if 2000<t.length then 10 else 0)]):=by
 refine Zo (N:=30) Tryz.func66 rfl rfl (lb rfl) fun S w0 hS hJ0=>?_
 refine tw Z1 ?_
 refine ln 0 fun hl1=>?_
 refine qso tb hJ [0] [_,_] [_] ?_
 refine Zf (ZG tb hJ [0,1002] [_,.int (t.length:Nat),_] [1] [_,_] rfl ⟨Z2 Zm,trivial⟩ ?_)
 refine cj 1 (fun hb1=>?_) fun hb1=>?_
 ·
  try simp at hb1
  have e3:2000<t.length:=by omega
  refine qso tb hJ [1000,1001] [_,_] [_,_] ?_
  refine tw (fun h=>Z3 h (m:=0) (s:=2) rfl) ?_
  exact Ze (fun a w h=>YM (m:=0) (k:=1) rfl (ZP h) rfl rfl (congrArg (fun z=>AV.rd (Zhe z)) (show([]:List Ri)=(if 2000<t.length then []else ZlL t)from by first | (rw[if_pos e3];done) | (rw[if_neg e3];done) | (rw[if_neg e3,f1_2,ZF (by omega)]))) (eI (by first | (rw[if_pos e3];done) | (rw[if_neg e3];done) | (rw[if_neg e3,f1_2,ZF (by omega)]))))
 ·
  try simp at hb1
  have e3:¬ 2000<t.length:=by omega
  refine Zb (nx (tsq ?_))
  refine Xp Xn hJ rfl rfl rfl (lb rfl) fun v1=>?_
  refine snK 1 tb rfl ?_
  refine seK [0,2] [_,_] rfl ?_
  refine nx (Zf (qso tb hJ [0,1,1000] [_] U3 ?_))
  refine Zc (lpo (ι:=Nat×Value×(List Ri)) (fun(k,_,out)=>(k≤t.length)∧(out=ZlL (t.take k))∧(out.length≤k)) (fun(_,v,out)=>[OB.row v 82 3 (out.map riC)]) (fun(k,v,_)=>[(5,.int (k:Nat)),(4,.lit v)]) (fun(k,_,_)=>t.length-k) [1,2,0] [_] (0,v1,([]:List Ri)) ⟨Nat.zero_le _,rfl,Nat.le_refl _⟩ ?_)
  rintro⟨k,v,out⟩ ⟨f1_1,f1_2,f1_3⟩
  refine Zf (ZG tb hJ [0,1,2,1003] [_,_,.int (t.length:Nat),_] [2] U4 rfl ⟨Z2 Zm,trivial⟩ ?_)
  refine cj 3 (fun hb2=>?_) fun hb2=>?_
  ·
   try simp at hb2
   refine Zb (nx (Zf (Zc (fun a w h=>X1 [] (γ:=Value) (fun ix'=>([.lit v,.rd (Zg t),.int (k:Nat),.ptr [lS (ge t k)],.str (ge t k),.rd (Zg t),.int (k:Nat),.ptr [lS (ge t k)],.str (ge t k),.bool (decide ((ge t k)=(⟨#[63]⟩:BA))),.agg (riC (⟨(ge t k),(-1:Int),decide ((ge t k)=(⟨#[63]⟩:BA))⟩:Ri)),.rd (Zhe ([(⟨(ge t k),(-1:Int),decide ((ge t k)=(⟨#[63]⟩:BA))⟩:Ri)])),.any,.any]:List AV).getD ix' .any) (fun _=>true) [(0,fun(g:Value)=>.rd (Zg t)),(5,fun(g:Value)=>.int (k:Nat)),(4,fun(g:Value)=>.lit g)] (fun(j':Nat) (g:Value)=>match j' with | 0=>[OB.row v 82 3 (out.map riC)] | 1=>[OB.row g 82 3 ((out++([(⟨(ge t k),(-1:Int),decide ((ge t k)=(⟨#[63]⟩:BA))⟩:Ri)])).map riC)] | _=>[OB.row g 82 3 ((out++([(⟨(ge t k),(-1:Int),decide ((ge t k)=(⟨#[63]⟩:BA))⟩:Ri)])).map riC)]) (fun(k':Nat) (g:Value)=>match k' with | 0=>g | 1=>g | _=>undef) [12,13] 2 (.slice none 0 0) (fun _=>rfl) h hJ YC rfl rfl rfl rfl rfl rfl hsb ⟨?_,⟨?_,⟨?_,⟨?_,⟨?_,⟨?_,⟨?_,⟨?_,⟨?_,⟨?_,⟨?_,⟨?_,⟨?_,⟨?_,trivial⟩⟩⟩⟩⟩⟩⟩⟩⟩⟩⟩⟩⟩⟩ ⟨?e7_1_0,⟨?e7_1_1,trivial⟩⟩ ⟨.old 0 0 _ rfl rfl,⟨.old 1 5 _ rfl rfl,⟨.eff 1 13 4 (fun(g:Value)=>g) rfl rfl (fun _=>rfl) (fun _ _ hx=>Zan (hx.2.1 _ (mo 0 rfl))),trivial⟩⟩⟩ ?n7_1))))
   exact oX rfl fun hx hl=>Z5 rfl (hl.env 2 4 _ rfl rfl) hx
   exact oX rfl fun hx hl=>Z5 rfl (hl.env 0 0 _ rfl rfl) hx
   exact oX rfl fun hx hl=>Z5 rfl (hl.env 1 5 _ rfl rfl) hx
   exact oX rfl fun hx hl=>ZO (i:=(k:Int)) Zd rfl (hl.D 1 17 rfl rfl) (hl.D 2 18 rfl rfl) (Int.natCast_nonneg _) (ZU (xs:=t) (k:=k) sfz) rfl hx
   exact oX rfl fun hx hl=>ZI QP rfl (hl.D 3 19 rfl rfl) hx
   exact oX rfl fun hx hl=>Z5 rfl (hl.env 0 0 _ rfl rfl) hx
   exact oX rfl fun hx hl=>Z5 rfl (hl.env 1 5 _ rfl rfl) hx
   exact oX rfl fun hx hl=>ZO (i:=(k:Int)) Zd rfl (hl.D 5 21 rfl rfl) (hl.D 6 22 rfl rfl) (Int.natCast_nonneg _) (ZU (xs:=t) (k:=k) sfz) rfl hx
   exact oX rfl fun hx hl=>ZI QP rfl (hl.D 7 23 rfl rfl) hx
   exact oX rfl fun hx hl=>Ztk rfl (hl.D 8 24 rfl rfl) (Rel.of_lit (.string { data:= #[63] }) (lb rfl)) hx
   exact fun _ O' _=>⟨rfl,fun a _ _ hx hl _=>Xr (us:=[a.eval (.tmp 20),a.eval (.const (.int .i64 (-1))),a.eval (.tmp 25)]) Zmq rfl (by simp) (Zk (hl.D 4 20 rfl rfl) (Zk (Rel.of_lit (.int .i64 (-1))) (Zk (hl.D 9 25 rfl rfl) ZJ))) rfl hx⟩
   exact oY rfl fun hk hx hl=>Y7 Xn Zef (by decide) rfl rfl (hl.D 10 26 rfl rfl) (Zp hS _ hk hx _ (Nat.le_refl _)) (jo hJ hx)
   exact Zn rfl
   exact Zn rfl
   case e7_1_0=>exact⟨_,rfl,rfl,rfl,rfl,fun _ _ w hk hx hl _=>ZB (Qp (f:=riC) out ([(⟨(ge t k),(-1:Int),decide ((ge t k)=(⟨#[63]⟩:BA))⟩:Ri)]) (fun _=>rfl) ZbU hJ hJ0 rfl hk hx (hl.D 0 16 rfl rfl).lit (hl.D 11 27 rfl rfl) sfz sfz) fun v w' hp=>⟨v,rfl,fun k' hk'=>absurd hk' (Nat.not_lt_zero _),fun _=>rfl,hp⟩⟩
   case e7_1_1=>exact⟨_,rfl,rfl,rfl,rfl,fun g _ w hk hx _ hs=>ZB (Zbk (.inl rfl) (hs 0 12 _ 28 (by omega) rfl rfl rfl) hk hx) fun v w' hp=>⟨g,rfl,fun _ _=>rfl,fun _=>hp.1,hp.2⟩⟩
   clear a w h
   intro v2
   dsimp only[List.map]
   refine nx (Yu tb hJ [0,2,1002] [_,.int (k+1:Nat),_] [1] U3 rfl ⟨Ya,trivial⟩ ?_)
   exact YH (k+1,v2,out++([(⟨(ge t k),(-1:Int),decide ((ge t k)=(⟨#[63]⟩:BA))⟩:Ri)])) [0,2,1] ⟨by omega,by rw[ZnE (by omega),←f1_2],by simp;omega⟩
  ·
   try simp at hb2
   refine Zt (nx (qso tb hJ [1001,1002] U3 [_,_] ?_))
   refine tw (fun h=>ZN hS h (m:=0) (s:=2) rfl) ?_
   exact Ze (fun a w h=>YM (m:=0) (k:=1) rfl (ZP h) rfl rfl (congrArg (fun z=>AV.rd (Zhe z)) (show out=(if 2000<t.length then []else ZlL t)from by first | (rw[if_pos e3];done) | (rw[if_neg e3];done) | (rw[if_neg e3,f1_2,ZF (by omega)]))) (eI (by first | (rw[if_pos e3];done) | (rw[if_neg e3];done) | (rw[if_neg e3,f1_2,ZF (by omega)]))))
theorem c_HypR {J:World→Prop} (hJ:Stab J) (f:Fr) (s:BA)  :Fn prog J 71 [.agg (frC f),.str s] (.tup [.agg (hyC ((Qt f s).getD default)),.bool ((Qt f s).isSome)]):=by
 refine Zo (N:=49) Tryz.func71 rfl rfl (lb rfl) fun S w0 hS hJ0=>?_
 refine tw Z1 ?_
 refine tsq ?_
 refine sy (.ptr (frC f)) (fun h=>Yq rfl (h.get 0 rfl) (Zp hS _ h.keep h.x _ (Nat.le_refl _)) (jo hJ h.x)) ?_
 refine Z4 YJ hJ rfl rfl rfl (lb rfl) fun b1=>?_
 refine snK 1 tb rfl ?_
 refine seK [1,2,4] U3 rfl ?_
 refine nx (Zf (qso tb hJ [0,1,2,1000] [_] U4 ?_))
 refine Zc (lpo (ι:=Nat) (fun k=>(k≤f.hyps.length)∧(∀ j,j<k→¬ (ge f.hyps j).label=s)) (fun _=>[OB.var b1 [lS (⟨#[]⟩:BA),lB false,Zg ([]:List BA)]]) (fun k=>[(6,.int (k:Nat))]) (fun k=>f.hyps.length-k) [0,1,2,3] U3 0 ⟨Nat.zero_le _,fun j hj=>by omega⟩ ?_)
 rintro k ⟨f1_1,f1_2⟩
 refine Zf (ZG tb hJ [0,1,2,3,1002,1004] [_,_,_,.int (f.hyps.length:Nat),_] [3] U6 rfl ⟨Z2 Zx,trivial⟩ ?_)
 refine ln 4 fun hl1=>?_
 refine cj 5 (fun hb1=>?_) fun hb1=>?_
 try simp at hb1
 refine Zb (nx (Zf (Zc (ZG tb hJ [0,1,2,3,1007] [_,_,_,.ptr (hyC (ge f.hyps k)),_,_,_,_] [3] U5 rfl ⟨iIx Zq,trivial⟩ ?_))))
 refine cj 4 (fun hb2=>?_) fun hb2=>?_
 try simp at hb2
 have e3:Qt f s=some (ge f.hyps k):=ZeK (k:=0) (by omega) (fun i hi=>by omega) hb1 f1_2 hb2
 refine tsq ?_
 refine snK 3 tb rfl ?_
 refine sy (.ptr (hyC (ge f.hyps k))) (fun h=>ZO (i:=(k:Int)) Zq rfl (h.get 1 rfl) (h.get 0 rfl) (Int.natCast_nonneg _) (ZU (xs:=f.hyps) (k:=k) sfz) rfl h.x) ?_
 refine snK 1 tb rfl ?_
 refine ZD (b:=b1) (off:=0) (es:=U3) (news:=U3) hJ hJ0 YL rfl rfl rfl (lb rfl) rfl (fun a w h=>⟨(h.get 5 rfl),(h.get 0 rfl)⟩) ?_
 refine snK 1 tb rfl ?_
 refine seK [0,6] [_,_] rfl ?_
 exact nx (Ze (fun a w h=>Q1 (m:=1) (q:=0) rfl XU h rfl rfl (show(_:List CD)=[lS (((Qt f s).getD default).label),lB (((Qt f s).getD default).floating),Zg (((Qt f s).getD default).text)]from by rw[e3];rfl) rfl (eB (by rw[e3];rfl))))
 try simp at hb2
 refine Zb (nx (Yu tb hJ [0,1,2,1002] [_,.int (k+1:Nat),_] [1] U4 rfl ⟨Ya,trivial⟩ ?_))
 exact YH (k+1) [0,1,2,3] ⟨by omega,ZK f1_2 hb2⟩
 try simp at hb1
 have h0_:∀ i,i<1→∀ h∈Zdm f.hyps f.dummies i,¬ h.label=s:=fun i hi h hh=>by obtain rfl:i=0:=(by omega);obtain⟨j,hj,rfl⟩:=Xj (show h∈f.hyps from hh);exact f1_2 j (by omega)
 refine Zt (nx (Zf (qso tb hJ [0,1,2,1000] [_] U4 ?_)))
 refine Zc (lpo (ι:=Nat) (fun q=>(q≤f.dummies.length)∧(∀ j,j<q→¬ (ge f.dummies j).label=s)) (fun _=>[OB.var b1 [lS (⟨#[]⟩:BA),lB false,Zg ([]:List BA)]]) (fun q=>[(7,.int (q:Nat))]) (fun q=>f.dummies.length-q) [0,1,2,3] U3 0 ⟨Nat.zero_le _,fun j hj=>by omega⟩ ?_)
 rintro q ⟨f2_1,f2_2⟩
 refine Zf (ZG tb hJ [0,1,2,3,1002,1004] [_,_,_,.int (f.dummies.length:Nat),_] [3] U6 rfl ⟨Z2 Zx,trivial⟩ ?_)
 refine ln 4 fun hl2=>?_
 refine cj 5 (fun hb3=>?_) fun hb3=>?_
 try simp at hb3
 refine Zb (nx (Zf (Zc (ZG tb hJ [0,1,2,3,1007] [_,_,_,.ptr (hyC (ge f.dummies q)),_,_,_,_] [3] U5 rfl ⟨iIx Zq,trivial⟩ ?_))))
 refine cj 4 (fun hb4=>?_) fun hb4=>?_
 try simp at hb4
 have e3:Qt f s=some (ge f.dummies q):=ZeK (k:=1) (by omega) h0_ hb3 f2_2 hb4
 refine tsq ?_
 refine snK 3 tb rfl ?_
 refine sy (.ptr (hyC (ge f.dummies q))) (fun h=>ZO (i:=(q:Int)) Zq rfl (h.get 1 rfl) (h.get 0 rfl) (Int.natCast_nonneg _) (ZU (xs:=f.dummies) (k:=q) sfz) rfl h.x) ?_
 refine snK 1 tb rfl ?_
 refine ZD (b:=b1) (off:=0) (es:=U3) (news:=U3) hJ hJ0 YL rfl rfl rfl (lb rfl) rfl (fun a w h=>⟨(h.get 5 rfl),(h.get 0 rfl)⟩) ?_
 refine snK 1 tb rfl ?_
 refine seK [0,6] [_,_] rfl ?_
 exact nx (Ze (fun a w h=>Q1 (m:=1) (q:=0) rfl XU h rfl rfl (show(_:List CD)=[lS (((Qt f s).getD default).label),lB (((Qt f s).getD default).floating),Zg (((Qt f s).getD default).text)]from by rw[e3];rfl) rfl (eB (by rw[e3];rfl))))
 try simp at hb4
 refine Zb (nx (Yu tb hJ [0,1,2,1002] [_,.int (q+1:Nat),_] [1] U4 rfl ⟨Ya,trivial⟩ ?_))
 exact YH (q+1) [0,1,2,3] ⟨by omega,ZK f2_2 hb4⟩
 try simp at hb3
 have e3:Qt f s=none:=ZeL fun i hi h hh=>by(rcases Nat.lt_or_ge i 1 with h9 | h9);exact h0_ i h9 h hh;obtain rfl:i=1:=(by omega);obtain⟨j,hj,rfl⟩:=Xj (show h∈f.dummies from hh);exact f2_2 j (by omega)
 refine Zt (nx (tsq ?_))
 refine sy (.agg (hyC (⟨⟨#[]⟩,false,[]⟩:Hy))) (fun h=>Yh (ps:=[]) (us:=[.string ⟨#[]⟩,.bool false,.slice none 0 0]) Zis rfl (by simp) Zdd rfl (YB (.lit _ (Nat.zero_le _)) (YB (.lit _ True.intro) (YB (.nil _ _ (Nat.zero_le _)) ZJ))) h.x) ?_
 refine ZD (b:=b1) (off:=0) (es:=U3) (news:=U3) hJ hJ0 YL rfl rfl rfl (lb rfl) rfl (fun a w h=>⟨(h.get 1 rfl),(h.get 0 rfl)⟩) ?_
 refine snK 1 tb rfl ?_
 refine seK [0,2] [_,_] rfl ?_
 exact nx (Ze (fun a w h=>Q1 (m:=1) (q:=0) rfl XU h rfl rfl (show(_:List CD)=[lS (((Qt f s).getD default).label),lB (((Qt f s).getD default).floating),Zg (((Qt f s).getD default).text)]from by rw[e3];rfl) rfl (eB (by rw[e3];rfl))))
theorem ZsR {J:World→Prop} (hJ:Stab J) (d:Db) (i:Nat) (s:BA) (hi:i≤d.frames.length):Fn prog J 72 [.agg (dbC d),.int (i:Nat),.str s] (.int (Z9 d i s)):=by
 refine Zo (N:=22) Tryz.func72 rfl rfl (lb rfl) fun S w0 hS hJ0=>?_
 clear hJ0
 refine hqs tb hJ [1,2,1000] [.ptr (dbC d),_] [0] U3 rfl ⟨fun _ _ hk hx hl _=>Yq rfl (hl.env 0 0 _ rfl rfl) (hS _ hk.size) (js hJ hx),trivial⟩ ?_
 refine Zf (qs tb hJ [0,1,2,1000] [_] U4 ?_)
 refine Zc (lp (ι:=Nat) (fun k=>(k≤i)∧(∀ j,j<k→¬ (ge d.frames j).label=s)) (fun k=>[(7,.int (k:Nat))]) (fun k=>i-k) [0,1,2,3] U3 0 ⟨Nat.zero_le _,fun j hj=>by omega⟩ ?_)
 rintro k ⟨f1_1,f1_2⟩
 refine Zf (qs tb hJ [0,1,2,3,1002] U3 U5 ?_)
 refine cj 4 (fun hb1=>?_) fun hb1=>?_
 try simp at hb1
 refine Zb (nx (Zf (Zc (hqs tb hJ [0,1,2,3,1001,1007] [_,_,_,.ptr (frC (ge d.frames k)),_,_,_,_] [3] U6 rfl ⟨iIx ZS,trivial⟩ ?_))))
 refine ln 4 fun hl1=>?_
 refine cj 5 (fun hb2=>?_) fun hb2=>?_
 try simp at hb2
 refine qs tb hJ [1001] [_,_] [_] ?_
 exact Ze (rtn (m:=0) rfl rfl (eI (by first | exact(Zff hi hb1 f1_2 hb2).symm | exact(ZdA fun j hj=>f1_2 j (by omega)).symm)))
 try simp at hb2
 refine Zb (nx (hqp tb hJ [0,1,2,1002] [_,.int (k+1:Nat),_] [1] U4 rfl ⟨Ya,trivial⟩ ?_))
 exact lpE (k+1) [0,1,2,3] ⟨by omega,ZK f1_2 hb2⟩
 try simp at hb1
 refine Zt (nx (qs tb hJ [1000] [_] [_] ?_))
 exact Ze (rtn (m:=0) rfl rfl (eI (by first | exact(Zff hi hb1 f1_2 hb2).symm | exact(ZdA fun j hj=>f1_2 j (by omega)).symm)))
theorem c_UseR {J:World→Prop} (hJ:Stab J) (d:Db) (i:Nat) (q:Nat) (es:List (List BA)) (hi:i<d.frames.length) (hq:q<d.frames.length) (hes:es.length=(ge d.frames q).hyps.length) (het:∀ t∈es,1≤t.length∧t.length≤2000) (hf:∀ h∈(ge d.frames q).hyps,h.floating=true→h.text.length=2) (hap:(ge d.frames q).apart.length≤100000) (hh:(ge d.frames q).hyps.length≤2000):Fn prog J 73 [.agg (dbC d),.int (i:Nat),.int (q:Nat),.rd (Yg es)] (.tup [.rd (Zg ((Zcd d.vars (ge d.frames i).wide (ge d.frames q) es).1)),.int ((Zcd d.vars (ge d.frames i).wide (ge d.frames q) es).2)]):=by
 refine Zo (N:=134) Tryz.func73 rfl rfl (lb rfl) fun S w0 hS hJ0=>?_
 refine tw Z1 ?_
 refine ln 3 fun hl1=>?_
 refine ZG tb hJ [1,2,3,1000] [.ptr (dbC d),_,_] [0] U4 rfl ⟨fun _ _ hk hx hl _=>Yq rfl (hl.env 0 0 _ rfl rfl) (Zp hS _ hk hx _ (Nat.le_refl _)) (jo hJ hx),trivial⟩ ?_
 refine tsq ?_
 refine snK 3 tb rfl ?_
 refine sy (.ptr (frC (ge d.frames q))) (fun h=>ZO (i:=(q:Int)) ZS rfl (h.get 1 rfl) (h.get 0 rfl) (Int.natCast_nonneg _) (ZU (xs:=d.frames) (k:=q) sfz) rfl h.x) ?_
 refine snK 1 tb rfl ?_
 refine XZ (cs:=frC (ge d.frames q)) ZdY rfl rfl rfl (lb rfl) rfl rfl rfl (by decide) (m:=0) rfl rfl (fun a w h=>Zp hS _ h.keep h.x _ (Nat.le_refl _)) (fun a w h w' hk'=>Yz hJ _ _ hk' h.x) ?_
 refine seK [0,4,6,8,9] U5 rfl ?_
 refine nx (ln 1 fun hl2=>?_)
 refine tsq ?_
 refine Xp Xy hJ rfl rfl rfl (lb rfl) fun v1=>?_
 refine snK 1 tb rfl ?_
 refine seK [0,2,4,5,6] U5 rfl ?_
 refine nx (Zf (qso tb hJ (r5 [1000]) [_] U6 ?_))
 refine Zc (lpo (ι:=Nat×Value×(List Bd)) (fun(k,_,bs)=>(k≤(ge d.frames q).hyps.length)∧(bs=YU (ge d.frames q).hyps es 0 k)∧(∀ j,j<k→ZeG (ge d.frames q).hyps es 0 j=true)) (fun(_,wv,bs)=>[OB.row wv 161 2 (bs.map bdC)]) (fun(k,wv,_)=>[(12,.int (k:Nat)),(11,.lit wv)]) (fun(k,_,_)=>(ge d.frames q).hyps.length-k) [1,2,3,4,5,0] U4 (0,v1,([]:List Bd)) ⟨Nat.zero_le _,rfl,fun j hj=>by omega⟩ ?_)
 rintro⟨k,wv,bs⟩ ⟨f1_1,f1_2,f1_3⟩
 refine Zf (ZG tb hJ (r6 [1002,1004]) [_,_,_,.int (((ge d.frames q).hyps).length:Nat),_] [3] U8 rfl ⟨Z2 Zx,trivial⟩ ?_)
 refine ln 6 fun hl3=>?_
 refine cj 7 (fun hb1=>?_) fun hb1=>?_
 ·
  try simp at hb1
  refine Zb (nx (Zf (Zc (Zf (ZG tb hJ (r6 [1006]) [_,_,_,.ptr (hyC (ge ((ge d.frames q).hyps) k)),_,_,_] [3] U7 rfl ⟨iIx Zq,trivial⟩ ?_)))))
  refine cj 6 (fun hb2=>?_) fun hb2=>?_
  ·
   try simp at hb2
   refine Zt (nx (Yu tb hJ [0,1,2,3,5,1002] [_,.int (k+1:Nat),_] [1] U6 rfl ⟨Ya,trivial⟩ ?_))
   exact YH (k+1,wv,bs) [0,1,2,3,5,4] ⟨by omega,by rw[Zdb,←f1_2];simp[ZpK,hb2],ZK f1_3 (by simp[ZeG,hb2])⟩
  ·
   try simp at hb2
   have e3:(ge (ge d.frames q).hyps k).text.length=2:=hf _ (Zv (by omega)) (by simpa using hb2)
   have e4:=het _ (Zv (xs:=es) (k:=k) (by omega))
   refine Zb (nx (Zf (ZG tb hJ (r6 [1003,1022]) [_,_,.ptr [Zg (ge es k)],_,.int ((ge es k).length:Nat),_,_,_,_,.ptr [Zg (ge es k)],_,.ptr [lS (ge (ge es k) 0)],_,_,_,_,.ptr (hyC (ge ((ge d.frames q).hyps) k)),_,_,.ptr [lS (ge ((ge ((ge d.frames q).hyps) k).text) 0)],_,_,_] [2,4,9,11,16,19] U8 rfl ⟨iIx ZH,Z2 Zm,gIx ZH (hk:=fun(hc':((decide ((((ge es k).length:Nat):Int)=(0:Int)))==false)=true)=>by(try simp at hc');first | omega | (simp;omega) | grind[Zv]),gIx (k:=0) Zd (hk:=fun(hc':((decide ((((ge es k).length:Nat):Int)=(0:Int)))==false)=true)=>by(try simp at hc');first | omega | (simp;omega) | grind[Zv]),gIx Zq (hk:=fun(hc':((decide ((((ge es k).length:Nat):Int)=(0:Int)))==false)=true)=>by(try simp at hc');first | omega | (simp;omega) | grind[Zv]),gIx (k:=0) Zd (hk:=fun(hc':((decide ((((ge es k).length:Nat):Int)=(0:Int)))==false)=true)=>by(try simp at hc');first | omega | (simp;omega) | grind[Zv]),trivial⟩ ?_)))
   refine ln 6 fun hl4=>?_
   refine cj 7 (fun hb3=>?_) fun hb3=>?_
   ·
    have e5:ZeG (ge d.frames q).hyps es 0 k=false:=by simp only[ZeG,Nat.zero_add,Bool.or_eq_false_iff,Bool.not_eq_false',decide_eq_false_iff_not];exact⟨by simpa using hb2,fun e=>by simp[e]at hb3;have:=e4.1;simp[hb3]at this⟩
    have eU:(Zcd d.vars (ge d.frames i).wide (ge d.frames q) es)=([],24):=ux_24 (by omega) e5
    refine qso tb hJ [1000,1001] [_,_] [_,_] ?_
    refine tw (fun h=>Z3 h (m:=0) (s:=8) rfl) ?_
    exact Ze (fun a w h=>YM (m:=0) (k:=1) rfl (ZP h) rfl rfl (congrArg (fun z=>AV.rd (Zg z)) (show([]:List BA)=((Zcd d.vars (ge d.frames i).wide (ge d.frames q) es).1)from by first | (rw[eU];done) | (rw[eU,if_neg (by simp[e9])]))) (eI (by first | (rw[eU];done) | (rw[eU,if_neg (by simp[e9])]))))
   ·
    have e5:ZeG (ge d.frames q).hyps es 0 k=true:=by simp only[Bool.or_eq_false_iff,Bool.not_eq_false',decide_eq_true_eq]at hb3;simp[ZeG,hb3.2]
    refine Zb (nx (fun a w h=>X1 [] (γ:=Value) (fun ix'=>([.lit wv,.ptr [Xm ((ge d.frames q).hyps),Xc ((ge d.frames q).apart),Zg ((ge d.frames q).text),Xm ((ge d.frames q).dummies),Xc ((ge d.frames q).wide),Zg ((ge d.frames q).proof)],.rd (Xm ((ge d.frames q).hyps)),.int (k:Nat),.ptr (hyC (ge ((ge d.frames q).hyps) k)),.ptr [Zg ((ge ((ge d.frames q).hyps) k).text)],.rd (Zg ((ge ((ge d.frames q).hyps) k).text)),.ptr [lS (ge ((ge ((ge d.frames q).hyps) k).text) 1)],.str (ge ((ge ((ge d.frames q).hyps) k).text) 1),.rd (Yg es),.int (k:Nat),.ptr [Zg (ge es k)],.rd (Zg (ge es k)),.rd (Zg ((ge es k).drop 1)),.agg (bdC (⟨(ge ((ge ((ge d.frames q).hyps) k).text) 1),(ge es k).drop 1⟩:Bd)),.rd (ZdW ([(⟨(ge ((ge ((ge d.frames q).hyps) k).text) 1),(ge es k).drop 1⟩:Bd)])),.any,.any]:List AV).getD ix' .any) (fun _=>true) [(10,fun(g:Value)=>.ptr (frC (ge d.frames q))),(1,fun(g:Value)=>.int (i:Nat)),(3,fun(g:Value)=>.rd (Yg es)),(4,fun(g:Value)=>.ptr (dbC d)),(12,fun(g:Value)=>.int (k:Nat)),(11,fun(g:Value)=>.lit g)] (fun(j':Nat) (g:Value)=>match j' with | 0=>[OB.row wv 161 2 (bs.map bdC)] | 1=>[OB.row g 161 2 ((bs++([(⟨(ge ((ge ((ge d.frames q).hyps) k).text) 1),(ge es k).drop 1⟩:Bd)])).map bdC)] | _=>[OB.row g 161 2 ((bs++([(⟨(ge ((ge ((ge d.frames q).hyps) k).text) 1),(ge es k).drop 1⟩:Bd)])).map bdC)]) (fun(k':Nat) (g:Value)=>match k' with | 0=>g | 1=>g | _=>undef) [16,17] 2 (.slice none 0 0) (fun _=>rfl) h hJ YC rfl rfl rfl rfl rfl rfl hsb ⟨?_,⟨?_,⟨?_,⟨?_,⟨?_,⟨?_,⟨?_,⟨?_,⟨?_,⟨?_,⟨?_,⟨?_,⟨?_,⟨?_,⟨?_,⟨?_,⟨?_,⟨?_,trivial⟩⟩⟩⟩⟩⟩⟩⟩⟩⟩⟩⟩⟩⟩⟩⟩⟩⟩ ⟨?e9_1_0,⟨?e9_1_1,trivial⟩⟩ ⟨.old 0 10 _ rfl rfl,⟨.old 1 1 _ rfl rfl,⟨.old 2 3 _ rfl rfl,⟨.old 3 4 _ rfl rfl,⟨.old 4 12 _ rfl rfl,⟨.eff 1 17 11 (fun(g:Value)=>g) rfl rfl (fun _=>rfl) (fun _ _ hx=>Zan (hx.2.1 _ (mo 0 rfl))),trivial⟩⟩⟩⟩⟩⟩ ?n9_1))
    exact oX rfl fun hx hl=>Z5 rfl (hl.env 5 11 _ rfl rfl) hx
    exact oX rfl fun hx hl=>ZQ Zai rfl (hl.env 0 10 _ rfl rfl) hx
    exact oX rfl fun hx hl=>ZI ZdK rfl (hl.D 1 62 rfl rfl) hx
    exact oX rfl fun hx hl=>Z5 rfl (hl.env 4 12 _ rfl rfl) hx
    exact oX rfl fun hx hl=>ZO (i:=(k:Int)) Zq rfl (hl.D 2 63 rfl rfl) (hl.D 3 64 rfl rfl) (Int.natCast_nonneg _) (ZU (xs:=(ge d.frames q).hyps) (k:=k) sfz) rfl hx
    exact oX rfl fun hx hl=>ZQ Zah rfl (hl.D 4 65 rfl rfl) hx
    exact oX rfl fun hx hl=>ZI XI rfl (hl.D 5 66 rfl rfl) hx
    exact oX rfl fun hx hl=>ZO (i:=((1:Nat):Int)) Zd rfl (hl.D 6 67 rfl rfl) (Rel.of_lit (.int .i64 1)) (Int.natCast_nonneg _) (ZU (xs:=(ge ((ge d.frames q).hyps) k).text) (k:=1) sfz) rfl hx
    exact oX rfl fun hx hl=>ZI QP rfl (hl.D 7 68 rfl rfl) hx
    exact oX rfl fun hx hl=>Z5 rfl (hl.env 2 3 _ rfl rfl) hx
    exact oX rfl fun hx hl=>Z5 rfl (hl.env 4 12 _ rfl rfl) hx
    exact oX rfl fun hx hl=>ZO (i:=(k:Int)) ZH rfl (hl.D 9 70 rfl rfl) (hl.D 10 71 rfl rfl) (Int.natCast_nonneg _) (ZU (xs:=es) (k:=k) sfz) rfl hx
    exact oX rfl fun hx hl=>ZI XI rfl (hl.D 11 72 rfl rfl) hx
    exact oX rfl fun hx hl=>Yy (ys:=(ge es k).drop 1) (lo:=1) (hi:=(ge es k).length) (by rw[List.take_length]) Zd (fun _=>rfl) rfl (hl.D 12 73 rfl rfl) (Rel.of_lit (.int .i64 1)) rfl sfz sfz hx
    exact fun _ O' _=>⟨rfl,fun a _ _ hx hl _=>Xr (us:=[a.eval (.tmp 69),a.eval (.tmp 74)]) Zfa rfl (by simp) (Zk (hl.D 8 69 rfl rfl) (Zk (hl.D 13 74 rfl rfl) ZJ)) rfl hx⟩
    exact oY rfl fun hk hx hl=>Y7 Xy ZjL (by decide) rfl rfl (hl.D 14 75 rfl rfl) (Zp hS _ hk hx _ (Nat.le_refl _)) (jo hJ hx)
    exact Zn rfl
    exact Zn rfl
    case e9_1_0=>exact⟨_,rfl,rfl,rfl,rfl,fun _ _ w hk hx hl _=>ZB (Qp (f:=bdC) bs ([(⟨(ge ((ge ((ge d.frames q).hyps) k).text) 1),(ge es k).drop 1⟩:Bd)]) (fun _=>rfl) Zfd hJ hJ0 rfl hk hx (hl.D 0 61 rfl rfl).lit (hl.D 15 76 rfl rfl) (by have:=Zec (ge d.frames q).hyps es 0 k;rw[f1_2];simp;omega) (by have:=Zec (ge d.frames q).hyps es 0 k;rw[f1_2];simp;omega)) fun v w' hp=>⟨v,rfl,fun k' hk'=>absurd hk' (Nat.not_lt_zero _),fun _=>rfl,hp⟩⟩
    case e9_1_1=>exact⟨_,rfl,rfl,rfl,rfl,fun g _ w hk hx _ hs=>ZB (Zbk (.inl rfl) (hs 0 16 _ 77 (by omega) rfl rfl rfl) hk hx) fun v w' hp=>⟨g,rfl,fun _ _=>rfl,fun _=>hp.1,hp.2⟩⟩
    clear a w h
    intro v2
    dsimp only[List.map]
    refine nx (Yu tb hJ [0,1,2,3,5,1002] [_,.int (k+1:Nat),_] [1] U6 rfl ⟨Ya,trivial⟩ ?_)
    exact YH (k+1,v2,bs++([(⟨(ge ((ge ((ge d.frames q).hyps) k).text) 1),(ge es k).drop 1⟩:Bd)])) [0,1,2,3,5,4] ⟨by omega,by rw[Zdb,←f1_2];simp[ZpK,hb2],ZK f1_3 e5⟩
 ·
  try simp at hb1
  have e6:∀ j,j< (ge d.frames q).hyps.length→ZeG (ge d.frames q).hyps es 0 j=true:=fun j hj=>f1_3 j (by omega)
  refine Zt (nx (Zf (tw (fun h=>ZN hS h (m:=5) (s:=11) rfl) ?_)))
  refine tw (sa 0 rfl (congrArg (fun z'=>AV.rd (ZdW z')) (show bs=(YU (ge d.frames q).hyps es 0 (ge d.frames q).hyps.length)from by rw[f1_2,show k=(ge d.frames q).hyps.length by omega]))) ?_
  refine qso tb hJ (r5 [1000]) [_] U6 ?_
  refine ln 0 fun hl5=>?_
  refine Zc (lpo (ι:=Nat) (fun j=>(j≤(ge d.frames q).hyps.length)∧(∀ i',i'<j→Zhf (ge d.frames q).hyps es 0 (YU (ge d.frames q).hyps es 0 (ge d.frames q).hyps.length) i'=true)) (fun _=>[]) (fun j=>[(13,.int (j:Nat))]) (fun j=>(ge d.frames q).hyps.length-j) (r6 []) U5 0 ⟨Nat.zero_le _,fun j hj=>by omega⟩ ?_)
  rintro j ⟨f2_1,f2_2⟩
  refine Zf (ZG tb hJ (r6 [1004]) [_,_,_,.int (((ge d.frames q).hyps).length:Nat),_] [3] U7 rfl ⟨Z2 Zx,trivial⟩ ?_)
  refine cj 6 (fun hb4=>?_) fun hb4=>?_
  ·
   try simp at hb4
   refine Zb (nx (Zf (Zc (ZG tb hJ (r6 [1021]) [_,_,_,.ptr (hyC (ge ((ge d.frames q).hyps) j)),_,_,_,_,_,_,_,.ptr (hyC (ge ((ge d.frames q).hyps) j)),_,_,_,_,_,.ptr [Zg (ge es j)],_,.bool (ZpY ((ge ((ge d.frames q).hyps) j).text) (YU (ge d.frames q).hyps es 0 (ge d.frames q).hyps.length) (ge es j)),_,_] [3,11,17,19] U7 rfl ⟨iIx Zq,gIx Zq (hk:=fun(hc':((!((ge ((ge d.frames q).hyps) j).floating))==true)=true)=>by(try simp at hc');first | omega | (simp;omega) | grind[Zv]),gIx ZH (hk:=fun(hc':((!((ge ((ge d.frames q).hyps) j).floating))==true)=true)=>by(try simp at hc');first | omega | (simp;omega) | grind[Zv]),iFo hS hJ (Zwi hJ ((ge ((ge d.frames q).hyps) j).text) (YU (ge d.frames q).hyps es 0 (ge d.frames q).hyps.length) (ge es j)) Zsz,trivial⟩ ?_))))
   refine cj 6 (fun hb5=>?_) fun hb5=>?_
   ·
    have e7:Zhf (ge d.frames q).hyps es 0 (YU (ge d.frames q).hyps es 0 (ge d.frames q).hyps.length) j=false:=by simp only[Zhf,Nat.zero_add];simpa using hb5
    have eU:(Zcd d.vars (ge d.frames i).wide (ge d.frames q) es)=([],25):=ux_25 e6 (by omega) e7
    refine qso tb hJ [1000,1001] [_,_] [_,_] ?_
    refine tw (fun h=>Z3 h (m:=0) (s:=8) rfl) ?_
    exact Ze (fun a w h=>YM (m:=0) (k:=1) rfl (ZP h) rfl rfl (congrArg (fun z=>AV.rd (Zg z)) (show([]:List BA)=((Zcd d.vars (ge d.frames i).wide (ge d.frames q) es).1)from by first | (rw[eU];done) | (rw[eU,if_neg (by simp[e9])]))) (eI (by first | (rw[eU];done) | (rw[eU,if_neg (by simp[e9])]))))
   ·
    refine Zb (nx (Yu tb hJ (r5 [1002]) [_,.int (j+1:Nat),_] [1] U6 rfl ⟨Ya,trivial⟩ ?_))
    exact YH (j+1) (r6 []) ⟨by omega,ZK f2_2 (by cases h9:(ge (ge d.frames q).hyps j).floating<;>simp_all[Zhf])⟩
  ·
   try simp at hb4
   have e8:∀ j,j< (ge d.frames q).hyps.length→Zhf (ge d.frames q).hyps es 0 (YU (ge d.frames q).hyps es 0 (ge d.frames q).hyps.length) j=true:=fun j hj=>f2_2 j (by omega)
   refine Zt (nx (ZG tb hJ [0,1,2,4,1001,1005,1007,1008] [_,_,_,.tup [.rd (Zg (if ZaS (ZW (YU (ge d.frames q).hyps es 0 (ge d.frames q).hyps.length)) ((ge d.frames q).text) 2000 then XN (ZW (YU (ge d.frames q).hyps es 0 (ge d.frames q).hyps.length)) ((ge d.frames q).text)else [])),.int (if ZaS (ZW (YU (ge d.frames q).hyps es 0 (ge d.frames q).hyps.length)) ((ge d.frames q).text) 2000 then 0 else 15)],_,_,_,_,_] [3] U8 rfl ⟨iFo hS hJ (Zmo hJ ((ge d.frames q).text) (YU (ge d.frames q).hyps es 0 (ge d.frames q).hyps.length) 2000 sfz (Zda (fun t ht=>(het t ht).2) (by omega))) Zsy,trivial⟩ ?_))
   refine ln 4 fun hl6=>?_
   refine ln 5 fun hl7=>?_
   refine Zf (qso tb hJ [0,1,2,3,6,7,1001] [_,_] U7 ?_)
   refine cj 6 (fun hb6=>?_) fun hb6=>?_
   ·
    try simp at hb6
    have e9:ZaS (ZW (YU (ge d.frames q).hyps es 0 (ge d.frames q).hyps.length)) (ge d.frames q).text 2000=false:=by cases h9:ZaS (ZW (YU (ge d.frames q).hyps es 0 (ge d.frames q).hyps.length)) (ge d.frames q).text 2000<;>simp_all
    have eU:(Zcd d.vars (ge d.frames i).wide (ge d.frames q) es)=([],15):=ux_15 e6 e8 e9
    refine qso tb hJ [1001,1002] U3 [_,_] ?_
    refine tw (fun h=>Z3 h (m:=0) (s:=8) rfl) ?_
    exact Ze (fun a w h=>YM (m:=0) (k:=1) rfl (ZP h) rfl rfl (congrArg (fun z=>AV.rd (Zg z)) (show([]:List BA)=((Zcd d.vars (ge d.frames i).wide (ge d.frames q) es).1)from by first | (rw[eU];done) | (rw[eU,if_neg (by simp[e9])]))) (eI (by first | (rw[eU];done) | (rw[eU,if_neg (by simp[e9])]))))
   ·
    try simp at hb6
    have e9:ZaS (ZW (YU (ge d.frames q).hyps es 0 (ge d.frames q).hyps.length)) (ge d.frames q).text 2000=true:=by cases h9:ZaS (ZW (YU (ge d.frames q).hyps es 0 (ge d.frames q).hyps.length)) (ge d.frames q).text 2000<;>simp_all
    refine tw (sa 4 rfl (show(.rd (Zg (if ZaS (ZW (YU (ge d.frames q).hyps es 0 (ge d.frames q).hyps.length)) ((ge d.frames q).text) 2000 then XN (ZW (YU (ge d.frames q).hyps es 0 (ge d.frames q).hyps.length)) ((ge d.frames q).text)else [])):AV)= .rd (Zg (XN (ZW (YU (ge d.frames q).hyps es 0 (ge d.frames q).hyps.length)) (ge d.frames q).text))from by rw[if_pos e9])) ?_
    refine Zb (nx (ln 4 fun hl8=>?_))
    refine Zf (Zf (fun a w h=>Y0 (γ:=Nat) (fun ix'=>([.rd (ZdW (YU (ge d.frames q).hyps es 0 (ge d.frames q).hyps.length)),.ptr [Xc ((ge d.frames q).apart),Zg ((ge d.frames q).text),Xm ((ge d.frames q).dummies),Xc ((ge d.frames q).wide),Zg ((ge d.frames q).proof)],.rd (Xc ((ge d.frames q).apart)),.ptr [Zg d.vars,ZfP d.frames],.rd (Zg d.vars),.ptr [ZfP d.frames],.rd (ZfP d.frames),.int (i:Nat),.ptr (frC (ge d.frames i)),.ptr [Xc ((ge d.frames i).wide),Zg ((ge d.frames i).proof)],.rd (Xc ((ge d.frames i).wide)),.tup [.agg (prC (ZdR (YU (ge d.frames q).hyps es 0 (ge d.frames q).hyps.length) ((ge d.frames q).apart) d.vars ((ge d.frames i).wide))),.bool (ZdV (YU (ge d.frames q).hyps es 0 (ge d.frames q).hyps.length) ((ge d.frames q).apart) d.vars ((ge d.frames i).wide))],.tup [.agg (prC (ZdR (YU (ge d.frames q).hyps es 0 (ge d.frames q).hyps.length) ((ge d.frames q).apart) d.vars ((ge d.frames i).wide))),.bool (ZdV (YU (ge d.frames q).hyps es 0 (ge d.frames q).hyps.length) ((ge d.frames q).apart) d.vars ((ge d.frames i).wide))],.agg (prC (ZdR (YU (ge d.frames q).hyps es 0 (ge d.frames q).hyps.length) ((ge d.frames q).apart) d.vars ((ge d.frames i).wide))),.bool (ZdV (YU (ge d.frames q).hyps es 0 (ge d.frames q).hyps.length) ((ge d.frames q).apart) d.vars ((ge d.frames i).wide)),.any,.any,.bool (ZdV (YU (ge d.frames q).hyps es 0 (ge d.frames q).hyps.length) ((ge d.frames q).apart) d.vars ((ge d.frames i).wide))]:List AV).getD ix' .any) (fun _=>true) [(14,fun(g:Nat)=>.rd (Zg (XN (ZW (YU (ge d.frames q).hyps es 0 (ge d.frames q).hyps.length)) (ge d.frames q).text))),(17,fun(g:Nat)=>.bool (ZdV (YU (ge d.frames q).hyps es 0 (ge d.frames q).hyps.length) ((ge d.frames q).apart) d.vars ((ge d.frames i).wide)))] (fun(j':Nat) (g:Nat)=>match j' with | 0=>[] | 1=>[OB.var g [lS (⟨#[]⟩:BA),lS (⟨#[]⟩:BA)]] | _=>[OB.var g [lS ((ZdR (YU (ge d.frames q).hyps es 0 (ge d.frames q).hyps.length) ((ge d.frames q).apart) d.vars ((ge d.frames i).wide)).a),lS ((ZdR (YU (ge d.frames q).hyps es 0 (ge d.frames q).hyps.length) ((ge d.frames q).apart) d.vars ((ge d.frames i).wide)).b)]]) (fun(k':Nat) (g:Nat)=>match k' with | 0=>(.pointer (some ⟨g,0,none⟩)) | 1=>undef | _=>undef) [15,16] 2 0 (fun _=>rfl) h hJ YC rfl rfl rfl rfl rfl rfl hsb ⟨?_,⟨?_,⟨?_,⟨?_,⟨?_,⟨?_,⟨?_,⟨?_,⟨?_,⟨?_,⟨?_,⟨?_,⟨?_,⟨?_,⟨?_,⟨?_,⟨?_,⟨?_,trivial⟩⟩⟩⟩⟩⟩⟩⟩⟩⟩⟩⟩⟩⟩⟩⟩⟩⟩ ⟨?e18_2_0,⟨?e18_2_1,trivial⟩⟩ ⟨.old 4 14 _ rfl rfl,⟨.new 17 17 _ rfl rfl rfl,trivial⟩⟩ ?n18_2))
    exact oX rfl fun hx hl=>Z5 rfl (hl.env 0 11 _ rfl rfl) hx
    exact oX rfl fun hx hl=>ZQ ZfW rfl (hl.env 1 10 _ rfl rfl) hx
    exact oX rfl fun hx hl=>ZI Zks rfl (hl.D 1 119 rfl rfl) hx
    exact oX rfl fun hx hl=>ZQ ZfY rfl (hl.env 3 4 _ rfl rfl) hx
    exact oX rfl fun hx hl=>ZI XI rfl (hl.D 3 121 rfl rfl) hx
    exact oX rfl fun hx hl=>ZQ QG rfl (hl.env 3 4 _ rfl rfl) hx
    exact oX rfl fun hx hl=>ZI Zey rfl (hl.D 5 123 rfl rfl) hx
    exact oX rfl fun hx hl=>Z5 rfl (hl.env 2 1 _ rfl rfl) hx
    exact oX rfl fun hx hl=>ZO (i:=(i:Int)) ZS rfl (hl.D 6 124 rfl rfl) (hl.D 7 125 rfl rfl) (Int.natCast_nonneg _) (ZU (xs:=d.frames) (k:=i) sfz) rfl hx
    exact oX rfl fun hx hl=>ZQ ZfU rfl (hl.D 8 126 rfl rfl) hx
    exact oX rfl fun hx hl=>ZI Zks rfl (hl.D 9 127 rfl rfl) hx
    exact oY rfl fun hk hx hl=>Zbw (ZpI hJ (YU (ge d.frames q).hyps es 0 (ge d.frames q).hyps.length) ((ge d.frames q).apart) d.vars ((ge d.frames i).wide) (by exact hap) (Zda (fun t ht=>(het t ht).2) (by omega))) Zsx rfl (Zp hS _ hk hx) (hx.1) (Za (hl.D 0 118 rfl rfl) (Za (hl.D 2 120 rfl rfl) (Za (hl.D 4 122 rfl rfl) (Za (hl.D 10 128 rfl rfl) Zh)))) (jo hJ hx)
    exact oX rfl fun hx hl=>Z5 rfl (hl.D 11 129 rfl rfl) hx
    exact oX rfl fun hx hl=>YS rfl (hl.D 12 117 rfl rfl) rfl hx
    exact oX rfl fun hx hl=>YS rfl (hl.D 12 117 rfl rfl) rfl hx
    exact Zn rfl
    exact Zn rfl
    exact oX rfl fun hx hl=>XC rfl (hl.D 14 131 rfl rfl) hx
    case e18_2_0=>exact⟨_,rfl,rfl,rfl,rfl,fun g _ w hk hx _ _=>ZB (Zbl XH hJ rfl hk hx) fun v w' ⟨g',hv,hp⟩=>⟨g',rfl,fun k' hk'=>absurd hk' (Nat.not_lt_zero _),fun _=>hv,hp⟩⟩
    case e18_2_1=>exact⟨_,rfl,rfl,rfl,rfl,fun g a w hk hx hl hs=>(by obtain⟨us2,hv2,hr3⟩:=Q0 (hl.D 13 130 rfl rfl);exact ZB (Xt (S':=S) (off:=0) (news:=[_,_]) (es:=[_,_]) (us:=us2) hJ hJ0 YK rfl hk hx (ZcM (hs 0 15 _ 16 (by omega) rfl rfl rfl)) (by rw[hv2];rfl) hr3 (lb rfl) rfl) fun v w' hp=>⟨g,rfl,fun _ _=>rfl,fun e=>(by cases e),hp⟩)⟩
    clear a w h
    intro b3
    dsimp only[List.map]
    refine kw ZM ?_
    refine nx (ln 0 fun hl9=>?_)
    refine qso tb hJ [0,1000] [_] [_,_] ?_
    refine cj 1 (fun hb7=>?_) fun hb7=>?_
    ·
     try simp at hb7
     have eU:(Zcd d.vars (ge d.frames i).wide (ge d.frames q) es)=([],26):=ux_26 e6 e8 e9 hb7
     refine qso tb hJ [1000,1001] [_,_] [_,_] ?_
     refine tw (fun h=>Z3 h (m:=0) (s:=8) rfl) ?_
     exact Ze (fun a w h=>YM (m:=0) (k:=1) rfl (ZP h) rfl rfl (congrArg (fun z=>AV.rd (Zg z)) (show([]:List BA)=((Zcd d.vars (ge d.frames i).wide (ge d.frames q) es).1)from by first | (rw[eU];done) | (rw[eU,if_neg (by simp[e9])]))) (eI (by first | (rw[eU];done) | (rw[eU,if_neg (by simp[e9])]))))
    ·
     try simp at hb7
     have eU:(Zcd d.vars (ge d.frames i).wide (ge d.frames q) es)=(XN (ZW (YU (ge d.frames q).hyps es 0 (ge d.frames q).hyps.length)) (ge d.frames q).text,0):=ux_ok e6 e8 e9 hb7
     refine Zb (nx (qso tb hJ [1001,1002] U3 [_,_] ?_))
     exact Ze (fun a w h=>YM (m:=0) (k:=1) rfl (ZP h) rfl rfl (congrArg (fun z=>AV.rd (Zg z)) (show(XN (ZW (YU (ge d.frames q).hyps es 0 (ge d.frames q).hyps.length)) (ge d.frames q).text)=((Zcd d.vars (ge d.frames i).wide (ge d.frames q) es).1)from by first | (rw[eU];done) | (rw[eU,if_neg (by simp[e9])]))) (eI (by first | (rw[eU];done) | (rw[eU,if_neg (by simp[e9])]))))
theorem Zwf {J:World→Prop} (hJ:Stab J) (d:Db) (i:Nat) (r:Ri) (gw:Value) (gv:List (List BA)) (sk:List (List BA)) (hi:i<d.frames.length) (hc:QK d=0) (hgb:r.unk=false→0≤r.back→r.back<gv.length) (hsk:∀ t∈sk,1≤t.length∧t.length≤2000) (hap:∀ f∈d.frames,f.apart.length≤100000):FnR prog J 45 [OB.row gw 22 1 (gv.map Zr)] [.agg (dbC d),.int (i:Nat),.agg (riC r),.lit gw,.rd (Yg sk)] (.tup [.rd (Zg ((Xb d i r gv sk).1.1)),.rd (Yg ((Xb d i r gv sk).1.2)),.int ((Xb d i r gv sk).2)]):=by
 refine Yo (N:=79) Tryz.func45 rfl rfl (lb rfl) fun S w0 hS hJ0 hH=>?_
 refine tw Z1 ?_
 refine ln 4 fun hl1=>?_
 refine ZG tb hJ [1,3,4,1000,1001] [.ptr (dbC d),.ptr (riC r),_,_,_] [0,1] U5 rfl ⟨fun _ _ hk hx hl _=>Yq rfl (hl.env 0 0 _ rfl rfl) (Zp hS _ hk hx _ (Nat.le_refl _)) (jo hJ hx),fun _ _ hk hx hl _=>Yq rfl (hl.env 2 2 _ rfl rfl) (Zp hS _ hk hx _ (Nat.le_refl _)) (jo hJ hx),trivial⟩ ?_
 refine Zf (ZG tb hJ (r5 [1001]) [.ptr [lB r.unk],_] [0] U6 rfl ⟨fun _ _ _ hx hl _=>ZQ Zmb rfl (hl.env 4 7 _ rfl rfl) hx,trivial⟩ ?_)
 refine cj 5 (fun hb1=>?_) fun hb1=>?_
 ·
  try simp at hb1
  have eU:Xb d i r gv sk=(([],[]),27):=by rw[Xb,if_pos hb1]
  refine qso tb hJ [1000,1001,1002] U3 U3 ?_
  refine tw (fun h=>Z3 h (m:=0) (s:=10) rfl) ?_
  refine tw (fun h=>Z3 h (m:=1) (s:=11) rfl) ?_
  exact Ze (fun a w h=>Zaq (m:=1) (k:=0) (l:=2) rfl (ZP h) rfl rfl rfl (congrArg (fun z=>AV.rd (Zg z)) (show([]:List BA)=((Xb d i r gv sk).1.1)from by rw[eU])) (congrArg (fun z=>AV.rd (Yg z)) (show([]:List (List BA))=((Xb d i r gv sk).1.2)from by rw[eU])) (eI (by rw[eU])))
 ·
  try simp at hb1
  refine Zb (nx (Zf (ZG tb hJ (r5 [1002]) [.ptr [lI r.back,lB r.unk],_,_] [0] U6 rfl ⟨fun _ _ _ hx hl _=>ZQ ZfR rfl (hl.env 4 7 _ rfl rfl) hx,trivial⟩ ?_)))
  refine cj 5 (fun hb2=>?_) fun hb2=>?_
  ·
   try simp at hb2
   have e9:=hgb (by simpa using hb1) hb2
   have eU:Xb d i r gv sk=((ge gv r.back.toNat,sk),0):=by rw[Xb,if_neg (by simp[hb1]),if_pos hb2]
   refine ZG tb hJ [1004,1006,1007,1008] [_,.ptr [lI r.back,lB r.unk],_,.lit (XG gw (r.back.toNat*1)),.rd (Zg (ge gv r.back.toNat)),_,_,_,_] [1,3,4] U4 rfl ⟨fun _ _ _ hx hl _=>ZQ ZfR rfl (hl.env 4 7 _ rfl rfl) hx,fun _ _ hk hx hl _=>Y6 (i:=r.back) ZH rfl (Yr hH hk hx (mo 0 rfl)) (hl.D 0 24 rfl rfl) (hl.D 2 26 rfl rfl) sfz (by rw[List.length_map];exact sfz) hx,fun _ _ hk hx hl _=>Qe (i:=r.back.toNat) XI rfl (Yr hH hk hx (mo 0 rfl)) (hl.D 3 27 rfl rfl) (Q4 (xs:=gv) (k:=r.back.toNat) sfz) hx,trivial⟩ ?_
   refine ln 0 fun hl2=>?_
   exact Ze (fun a w h=>Zaq (m:=1) (k:=2) (l:=3) rfl (ZP h) rfl rfl rfl (congrArg (fun z=>AV.rd (Zg z)) (show(ge gv r.back.toNat)=((Xb d i r gv sk).1.1)from by rw[eU])) (congrArg (fun z=>AV.rd (Yg z)) (show sk=((Xb d i r gv sk).1.2)from by rw[eU])) (eI (by rw[eU])))
  ·
   try simp at hb2
   refine Zb (nx (Zf (Zf (fun a w h=>Y0 (γ:=Nat) (fun ix'=>([.ptr [ZfP d.frames],.rd (ZfP d.frames),.int (i:Nat),.ptr (frC (ge d.frames i)),.agg (frC (ge d.frames i)),.ptr (riC r),.str r.label,.tup [.agg (hyC ((Qt (ge d.frames i) r.label).getD default)),.bool ((Qt (ge d.frames i) r.label).isSome)],.tup [.agg (hyC ((Qt (ge d.frames i) r.label).getD default)),.bool ((Qt (ge d.frames i) r.label).isSome)],.agg (hyC ((Qt (ge d.frames i) r.label).getD default)),.bool ((Qt (ge d.frames i) r.label).isSome),.any,.any,.bool ((Qt (ge d.frames i) r.label).isSome)]:List AV).getD ix' .any) (fun _=>true) [(1,fun(g:Nat)=>.int (i:Nat)),(4,fun(g:Nat)=>.rd (Yg sk)),(5,fun(g:Nat)=>.ptr (dbC d)),(7,fun(g:Nat)=>.ptr (riC r)),(13,fun(g:Nat)=>.at g 0),(14,fun(g:Nat)=>.bool ((Qt (ge d.frames i) r.label).isSome))] (fun(j':Nat) (g:Nat)=>match j' with | 0=>[] | 1=>[OB.var g [lS (⟨#[]⟩:BA),lB false,Zg ([]:List BA)]] | _=>[OB.var g [lS (((Qt (ge d.frames i) r.label).getD default).label),lB (((Qt (ge d.frames i) r.label).getD default).floating),Zg (((Qt (ge d.frames i) r.label).getD default).text)]]) (fun(k':Nat) (g:Nat)=>match k' with | 0=>(.pointer (some ⟨g,0,none⟩)) | 1=>undef | _=>undef) [11,12] 2 0 (fun _=>rfl) h hJ YC rfl rfl rfl rfl rfl rfl hsb ⟨?_,⟨?_,⟨?_,⟨?_,⟨?_,⟨?_,⟨?_,⟨?_,⟨?_,⟨?_,⟨?_,⟨?_,⟨?_,⟨?_,trivial⟩⟩⟩⟩⟩⟩⟩⟩⟩⟩⟩⟩⟩⟩ ⟨?e5_1_0,⟨?e5_1_1,trivial⟩⟩ ⟨.old 0 1 _ rfl rfl,⟨.old 2 4 _ rfl rfl,⟨.old 3 5 _ rfl rfl,⟨.old 4 7 _ rfl rfl,⟨.eff 0 11 13 (fun g=>(.pointer (some ⟨g,0,none⟩))) rfl rfl (fun _=>rfl) (fun _=>True.intro),⟨.new 13 14 _ rfl rfl rfl,trivial⟩⟩⟩⟩⟩⟩ ?n5_1))))
   exact oX rfl fun hx hl=>ZQ QG rfl (hl.env 3 5 _ rfl rfl) hx
   exact oX rfl fun hx hl=>ZI Zey rfl (hl.D 0 31 rfl rfl) hx
   exact oX rfl fun hx hl=>Z5 rfl (hl.env 0 1 _ rfl rfl) hx
   exact oX rfl fun hx hl=>ZO (i:=(i:Int)) ZS rfl (hl.D 1 32 rfl rfl) (hl.D 2 33 rfl rfl) (Int.natCast_nonneg _) (ZU (xs:=d.frames) (k:=i) sfz) rfl hx
   exact oX rfl fun hx hl=>Zao Zhc rfl (hl.D 3 34 rfl rfl) (Nat.le_refl _) hx
   exact oX rfl fun hx hl=>ZQ ZfS rfl (hl.env 4 7 _ rfl rfl) hx
   exact oX rfl fun hx hl=>ZI QP rfl (hl.D 5 36 rfl rfl) hx
   exact oY rfl fun hk hx hl=>Zbw (c_HypR hJ (ge d.frames i) r.label) ZvK rfl (Zp hS _ hk hx) (hx.1) (Za (hl.D 4 35 rfl rfl) (Za (hl.D 6 37 rfl rfl) Zh)) (jo hJ hx)
   exact oX rfl fun hx hl=>Z5 rfl (hl.D 7 38 rfl rfl) hx
   exact oX rfl fun hx hl=>YS rfl (hl.D 8 30 rfl rfl) rfl hx
   exact oX rfl fun hx hl=>YS rfl (hl.D 8 30 rfl rfl) rfl hx
   exact Zn rfl
   exact Zn rfl
   exact oX rfl fun hx hl=>XC rfl (hl.D 10 40 rfl rfl) hx
   case e5_1_0=>exact⟨_,rfl,rfl,rfl,rfl,fun g _ w hk hx _ _=>ZB (Zbl YJ hJ rfl hk hx) fun v w' ⟨g',hv,hp⟩=>⟨g',rfl,fun k' hk'=>absurd hk' (Nat.not_lt_zero _),fun _=>hv,hp⟩⟩
   case e5_1_1=>exact⟨_,rfl,rfl,rfl,rfl,fun g _ w hk hx hl hs=>(by obtain⟨us2,hv2,hr3⟩:=Q0 (hl.D 9 39 rfl rfl);exact ZB (Xt (S':=S) (off:=0) (news:=U3) (es:=U3) (us:=us2) hJ hJ0 YL rfl hk hx (ZcM (hs 0 11 _ 13 (by omega) rfl rfl rfl)) (by rw[hv2];rfl) hr3 (lb rfl) rfl) fun v w' hp=>⟨g,rfl,fun _ _=>rfl,fun e=>(by cases e),hp⟩)⟩
   clear a w h
   intro b1
   dsimp only[List.map]
   refine kw (fun h=>YO hS h (m:=4) (s:=13) rfl) ?_
   refine nx (qso tb hJ (r5 [1000]) [_] U6 ?_)
   refine cj 5 (fun hb3=>?_) fun hb3=>?_
   ·
    try simp at hb3
    have eU:Xb d i r gv sk=((((Qt (ge d.frames i) r.label).getD default).text,sk),0):=by rw[Xb,if_neg (by simp[hb1]),if_neg (by omega)];cases h9:Qt (ge d.frames i) r.label with | some y=>rfl | none=>rw[h9]at hb3;cases hb3
    refine qso tb hJ [1001,1003,1004,1005] U6 U4 ?_
    refine ln 0 fun hl3=>?_
    exact Ze (fun a w h=>Zaq (m:=1) (k:=2) (l:=3) rfl (ZP h) rfl rfl rfl (congrArg (fun z=>AV.rd (Zg z)) (show(((Qt (ge d.frames i) r.label).getD default).text)=((Xb d i r gv sk).1.1)from by rw[eU])) (congrArg (fun z=>AV.rd (Yg z)) (show sk=((Xb d i r gv sk).1.2)from by rw[eU])) (eI (by rw[eU])))
   ·
    try simp at hb3
    have e3:Qt (ge d.frames i) r.label=none:=by cases h9:Qt (ge d.frames i) r.label with | none=>rfl | some y=>rw[h9]at hb3;cases hb3
    refine Zb (nx (ZG tb hJ [1,2,3,1005] [_,_,.ptr (riC r),_,.int (Z9 d i r.label),_] [2,4] U4 rfl ⟨fun _ _ _ hx hl _=>ZQ ZfS rfl (hl.env 4 7 _ rfl rfl) hx,iFo hS hJ (ZsR hJ d i r.label (by omega)) ZvJ,trivial⟩ ?_))
    refine Zf (qso tb hJ [0,1,2,3,1001] [_,_] U5 ?_)
    refine cj 4 (fun hb4=>?_) fun hb4=>?_
    ·
     try simp at hb4
     have eU:Xb d i r gv sk=(([],[]),22):=by rw[Xb,if_neg (by simp[hb1]),if_neg (by omega),e3];exact if_pos hb4
     refine qso tb hJ [1000,1001,1002] U3 U3 ?_
     refine tw (fun h=>Z3 h (m:=0) (s:=10) rfl) ?_
     refine tw (fun h=>Z3 h (m:=1) (s:=11) rfl) ?_
     exact Ze (fun a w h=>Zaq (m:=1) (k:=0) (l:=2) rfl (ZP h) rfl rfl rfl (congrArg (fun z=>AV.rd (Zg z)) (show([]:List BA)=((Xb d i r gv sk).1.1)from by rw[eU])) (congrArg (fun z=>AV.rd (Yg z)) (show([]:List (List BA))=((Xb d i r gv sk).1.2)from by rw[eU])) (eI (by rw[eU])))
    ·
     try simp at hb4
     have e4:=ZsZ (d:=d) (i:=i) (s:=r.label) (by omega)
     have e5:=(Zab hc _ (Zv e4.2.2)).1
     have e6:(ge d.frames (Z9 d i r.label).toNat).hyps.length≤2000:=e5.1
     refine tw (sa 3 rfl (show(.int (Z9 d i r.label):AV)= .int ((Z9 d i r.label).toNat:Nat)from congrArg AV.int (by omega))) ?_
     refine Zb (nx (ZG tb hJ [0,1,2,3,1003,1007,1010] [_,.int (sk.length:Nat),_,_,_,.ptr (frC (ge d.frames ((Z9 d i r.label).toNat))),_,_,.int (((ge d.frames ((Z9 d i r.label).toNat)).hyps).length:Nat),.int ((sk.length:Int)-((((ge d.frames ((Z9 d i r.label).toNat)).hyps).length:Nat):Int)),_] [1,5,8,9] U7 rfl ⟨Z2 Qy,iIx ZS,Z2 Zx,Zu8,trivial⟩ ?_))
     refine ln 4 fun hl4=>?_
     refine ln 5 fun hl5=>?_
     refine Zf (qso tb hJ [0,1,2,3,6,1001] [_,_] U6 ?_)
     refine cj 5 (fun hb5=>?_) fun hb5=>?_
     ·
      try simp at hb5
      have eU:Xb d i r gv sk=(([],[]),23):=by rw[Xb,if_neg (by simp[hb1]),if_neg (by omega),e3];exact(if_neg (by omega)).trans (if_pos (by omega))
      refine qso tb hJ [1000,1001,1002] U3 U3 ?_
      refine tw (fun h=>Z3 h (m:=0) (s:=10) rfl) ?_
      refine tw (fun h=>Z3 h (m:=1) (s:=11) rfl) ?_
      exact Ze (fun a w h=>Zaq (m:=1) (k:=0) (l:=2) rfl (ZP h) rfl rfl rfl (congrArg (fun z=>AV.rd (Zg z)) (show([]:List BA)=((Xb d i r gv sk).1.1)from by rw[eU])) (congrArg (fun z=>AV.rd (Yg z)) (show([]:List (List BA))=((Xb d i r gv sk).1.2)from by rw[eU])) (eI (by rw[eU])))
     ·
      try simp at hb5
      have eU:Xb d i r gv sk=(((Zcd d.vars (ge d.frames i).wide (ge d.frames (Z9 d i r.label).toNat) (sk.drop (sk.length-(ge d.frames (Z9 d i r.label).toNat).hyps.length))).1,sk.take (sk.length-(ge d.frames (Z9 d i r.label).toNat).hyps.length)),(Zcd d.vars (ge d.frames i).wide (ge d.frames (Z9 d i r.label).toNat) (sk.drop (sk.length-(ge d.frames (Z9 d i r.label).toNat).hyps.length))).2):=by rw[Xb,if_neg (by simp[hb1]),if_neg (by omega),e3];exact(if_neg (by omega)).trans (if_neg (by omega))
      refine tw (sa 4 rfl (show(.int ((sk.length:Int)-((((ge d.frames ((Z9 d i r.label).toNat)).hyps).length:Nat):Int)):AV)= .int ((sk.length-(ge d.frames (Z9 d i r.label).toNat).hyps.length):Nat)from congrArg AV.int (by omega))) ?_
      refine Zb (nx (ZG tb hJ [1,4,1005,1008,1010,1011] [_,_,_,_,_,.rd (Yg (sk.drop (sk.length-(ge d.frames (Z9 d i r.label).toNat).hyps.length))),.tup [.rd (Zg ((Zcd d.vars (ge d.frames i).wide (ge d.frames ((Z9 d i r.label).toNat)) (sk.drop (sk.length-(ge d.frames (Z9 d i r.label).toNat).hyps.length))).1)),.int ((Zcd d.vars (ge d.frames i).wide (ge d.frames ((Z9 d i r.label).toNat)) (sk.drop (sk.length-(ge d.frames (Z9 d i r.label).toNat).hyps.length))).2)],_,_,_,_,_] [5,6] U6 rfl ⟨fun _ _ _ hx hl _=>Yy (ys:=sk.drop (sk.length-(ge d.frames (Z9 d i r.label).toNat).hyps.length)) (lo:=(sk.length-(ge d.frames (Z9 d i r.label).toNat).hyps.length)) (hi:=sk.length) (by rw[List.take_length]) ZH (fun _=>rfl) rfl (hl.D 3 68 rfl rfl) (hl.D 4 69 rfl rfl) rfl sfz sfz hx,iFo hS hJ (c_UseR hJ d i ((Z9 d i r.label).toNat) (sk.drop (sk.length-(ge d.frames (Z9 d i r.label).toNat).hyps.length)) sfz (by exact e4.2.2) (by rw[List.length_drop];omega) (by exact fun t ht=>hsk t (List.mem_of_mem_drop ht)) (by exact e5.2) (by exact hap _ (Zv e4.2.2)) (by exact e5.1)) ZvI,trivial⟩ ?_))
      refine ln 2 fun hl6=>?_
      refine ln 3 fun hl7=>?_
      refine ZG tb hJ [1003,1005,1006,1007] [_,_,_,.rd (Yg (sk.take (sk.length-(ge d.frames (Z9 d i r.label).toNat).hyps.length))),_,_,_,_] [3] U4 rfl ⟨fun _ _ _ hx hl _=>Yy (ys:=sk.take (sk.length-(ge d.frames (Z9 d i r.label).toNat).hyps.length)) (lo:=0) (hi:=(sk.length-(ge d.frames (Z9 d i r.label).toNat).hyps.length)) List.drop_zero ZH (fun _=>rfl) rfl (hl.D 1 75 rfl rfl) rfl (hl.D 2 76 rfl rfl) sfz sfz hx,trivial⟩ ?_
      refine ln 0 fun hl8=>?_
      exact Ze (fun a w h=>Zaq (m:=1) (k:=2) (l:=3) rfl (ZP h) rfl rfl rfl (congrArg (fun z=>AV.rd (Zg z)) (show((Zcd d.vars (ge d.frames i).wide (ge d.frames ((Z9 d i r.label).toNat)) (sk.drop (sk.length-(ge d.frames (Z9 d i r.label).toNat).hyps.length))).1)=((Xb d i r gv sk).1.1)from by rw[eU])) (congrArg (fun z=>AV.rd (Yg z)) (show(sk.take (sk.length-(ge d.frames (Z9 d i r.label).toNat).hyps.length))=((Xb d i r gv sk).1.2)from by rw[eU])) (eI (by rw[eU])))
end Go.Proofs.YtneapgbkkkjagaaGreatDoor
namespace Go.Proofs.YtneapgbkkkjagaaGreatDoor
def tgN (l:List Lt):Nat:=(l.filter (·.tagged)).length
theorem ZjY (l:List Lt) (x:Lt):tgN (l++[x])=if x.tagged=true then tgN l+1 else tgN l:=by
 unfold tgN
 rw[List.filter_append,List.length_append]
 by_cases h:x.tagged=true<;>simp[h]
theorem Zqe (l:List Lt) (x:Lt):tgN (x::l)=if x.tagged=true then tgN l+1 else tgN l:=by
 unfold tgN
 rw[List.filter_cons]
 by_cases h:x.tagged=true<;>simp[h]
section
variable {f:Fr} {L:List (BA×Int)} {lb:List BA}
theorem ZeH (l r:List Lt):∀ t,Y8 f L lb (l++r) t=match Y8 f L lb l t with
 | none=>none
 | some xs=>match Y8 f L lb r (t+tgN l)with
  | none=>none
  | some ys=>some (xs++ys):=by
 induction l with
 | nil=>intro t;simp only[List.nil_append,Y8,tgN,List.filter_nil,List.length_nil,Nat.add_zero];cases Y8 f L lb r t<;>rfl
 | cons x l ih=>
  intro t
  simp only[List.cons_append,Y8]
  cases h1:Q2 f L lb t x with
  | none=>rfl
  | some y=>
   simp only
   rw[ih,Zqe]
   cases h2:Y8 f L lb l (if x.tagged=true then t+1 else t)with
   | none=>rfl
   | some xs=>
    simp only
    have e:(if x.tagged=true then t+1 else t)+tgN l=t+(if x.tagged=true then tgN l+1 else tgN l):=by split<;>omega
    rw[e]
    cases h3:Y8 f L lb r (t+if x.tagged=true then tgN l+1 else tgN l)<;>simp
theorem ZlW {l:List Lt} {x:Lt} {ys:List Itm} {y:Itm} (h:Y8 f L lb l 0=some ys) (h2:Q2 f L lb (tgN l) x=some y):Y8 f L lb (l++[x]) 0=some (ys++[y]):=by
 rw[ZeH,h]
 simp[Y8,h2]
theorem ZoA {l:List Lt} {x:Lt} {ys:List Itm} {xs:List Lt} (hp:(l++[x])<+:xs) (h:Y8 f L lb l 0=some ys) (h2:Q2 f L lb (tgN l) x=none):Y8 f L lb xs 0=none:=by
 obtain⟨r,rfl⟩:=hp
 rw[ZeH,ZeH,h]
 simp[Y8,h2]
theorem item_0 {tg:Nat} {x:Lt} (h:x.number=0):Q2 f L lb tg x=some ⟨0,[],0,x.tagged⟩:=by rw[Q2,if_pos h]
theorem item_1 {tg:Nat} {x:Lt} (h:¬ x.number=0) (h1:x.number≤f.hyps.length):Q2 f L lb tg x=some ⟨1,(ge f.hyps (x.number-1).toNat).text,0,x.tagged⟩:=by rw[Q2,if_neg h,if_pos h1]
theorem item_2 {tg:Nat} {x:Lt} (h:¬ x.number=0) (h1:¬ x.number≤f.hyps.length) (h2:x.number≤((f.hyps.length+lb.length:Nat):Int)):Q2 f L lb tg x=some ⟨(Yn f L (ge lb (x.number-1-f.hyps.length).toNat)).kind,(Yn f L (ge lb (x.number-1-f.hyps.length).toNat)).text,(Yn f L (ge lb (x.number-1-f.hyps.length).toNat)).number,x.tagged⟩:=by
 rw[Q2,if_neg h,if_neg h1,if_pos h2]
theorem item_4 {tg:Nat} {x:Lt} (h:¬ x.number=0) (h1:¬ x.number≤f.hyps.length) (h2:¬ x.number≤((f.hyps.length+lb.length:Nat):Int)) (h3:x.number≤((f.hyps.length+lb.length+tg:Nat):Int)):Q2 f L lb tg x=some ⟨4,[],x.number-1-f.hyps.length-lb.length,x.tagged⟩:=by
 rw[Q2,if_neg h,if_neg h1,if_neg h2,if_pos h3]
theorem Zu4 {tg:Nat} {x:Lt} (h:¬ x.number=0) (h1:¬ x.number≤f.hyps.length) (h2:¬ x.number≤((f.hyps.length+lb.length:Nat):Int)) (h3:¬ x.number≤((f.hyps.length+lb.length+tg:Nat):Int)):Q2 f L lb tg x=none:=by
 rw[Q2,if_neg h,if_neg h1,if_neg h2,if_neg h3]
variable {t:List BA}
theorem Zun (h:QW t=false) (h2:2000<t.length):YW f L t= .error 10:=by simp[YW,h,h2]
theorem ZfG (h:QW t=false) (h2:¬ 2000<t.length):YW f L t= .ok (t.map (Yn f L)):=by simp[YW,h,h2]
theorem Zum (h:QW t=true) (h2:XD t=none):YW f L t= .error 20:=by simp[YW,h,h2]
variable {z:List BA×BA} (h0:QW t=true) (hz:XD t=some z)
include h0 hz
theorem Zqu (h:(Qw z.1||z.1.any fun s=>f.hyps.any fun h=>decide (h.label=s))=true):YW f L t= .error 20:=by
 obtain⟨z1,z2⟩:=z
 simp only[YW,h0,hz,Bool.not_true,Bool.false_eq_true,if_false]
 rw[if_pos h]
variable (hw:(Qw z.1||z.1.any fun s=>f.hyps.any fun h=>decide (h.label=s))=false)
include hw
theorem Zqv (h:Y8 f L z.1 (Zj z.2).1 0=none):YW f L t= .error 21:=by
 obtain⟨z1,z2⟩:=z
 simp only[YW,h0,hz,Bool.not_true,Bool.false_eq_true,if_false]
 rw[if_neg (by rw[hw];decide)]
 simp only at h
 simp[h]
variable {ys:List Itm} (h:Y8 f L z.1 (Zj z.2).1 0=some ys)
include h
theorem Znu (h2:(Zj z.2).2=true):YW f L t= .error 21:=by
 obtain⟨z1,z2⟩:=z
 simp only[YW,h0,hz,Bool.not_true,Bool.false_eq_true,if_false]
 rw[if_neg (by rw[hw];decide)]
 simp only at h h2
 simp[h,h2]
theorem Znt (h2:(Zj z.2).2=false) (h3:2000<ys.length):YW f L t= .error 10:=by
 obtain⟨z1,z2⟩:=z
 simp only[YW,h0,hz,Bool.not_true,Bool.false_eq_true,if_false]
 rw[if_neg (by rw[hw];decide)]
 simp only at h h2
 simp[h,h2,h3]
theorem Zkb (h2:(Zj z.2).2=false) (h3:¬ 2000<ys.length):YW f L t= .ok ys:=by
 obtain⟨z1,z2⟩:=z
 simp only[YW,h0,hz,Bool.not_true,Bool.false_eq_true,if_false]
 rw[if_neg (by rw[hw];decide)]
 simp only at h h2
 simp[h,h2,h3]
end
theorem ZeD:∀(m:Nat) (bs:List UInt8) (n:Int) (ins:Bool),bs.length≤m→(lettersD bs n ins).1.length≤bs.length:=by
 intro m
 induction m with
 | zero=>
  intro bs n ins hm
  have:bs=[]:=List.length_eq_zero_iff.1 (by omega)
  subst this
  simp[lettersD]
 | succ m ih=>
  intro bs n ins hm
  cases bs with
  | nil=>simp[lettersD]
  | cons b r=>
   simp only[List.length_cons]at hm
   rw[ZaG]
   split
   · split
     · simp
     · have:=ih r (5*n+((b.toNat:Int)-85)+1) true (by omega)
       simp only[List.length_cons];omega
   split
   · split
     · simp
     · split
       · simp
       · rename_i c r'
         simp only[List.length_cons]at hm
         split
         · have:=ih r' 0 false (by omega)
           simp only[List.length_cons];omega
         · have:=ih (c::r') 0 false (by simp only[List.length_cons];omega)
           simp only[List.length_cons]at this ⊢;omega
   split
   · have:=ih r n ins (by omega)
     simp only[List.length_cons];omega
   · simp
theorem Zow (l:List BA) (k:Nat):(Zbh (l.drop k) ⟨#[]⟩).size≤ZaR l:=by
 have:=Zh3 l k
 simpa [Zbh,ByteArray.size]using this
theorem ZfK {t:List BA} {z:List BA×BA} (h:XD t=some z):z.2.size≤ZaR t∧z.1.length≤t.length:=by
 unfold XD at h
 simp only at h
 split at h
 · cases h
 split at h
 · cases h
 · injection h with h
   subst h
   refine⟨Zow t _,?_⟩
   simp only[List.length_drop,List.length_take]
   omega
theorem Zuk {T:Nat→Prop} {w:World} {x:Lt}:Rel T w (.agg (ltC x)) (Zwx x):=by
 simp only[Rel]
 exact⟨[.int .i64 x.number,.bool x.tagged],rfl,.lit _ True.intro,.lit _ True.intro,trivial⟩
theorem ZnJ {α:Type} {l xs:List α} {x:α} (h:(l++[x])<+:xs):x∈xs∧l.length<xs.length:=by
 obtain⟨r,rfl⟩:=h
 simp
section
variable {d:Db} {n:Nat} {t:List BA} {xs:List Itm} {c:Int}
theorem mch_ok (h:YW (ge d.frames n) (Q8 (d.frames.take n)) t= .ok xs):Y3 d n t=xs∧(X9 d n t).sk=[]∧(X9 d n t).tg=[]∧(X9 d n t).n=0∧(X9 d n t).kn=(false|| !decide (0<xs.length))∧(X9 d n t).v.1=(if 0<xs.length then 0 else(Zc1 (ge d.frames n) [] 0).1)∧(X9 d n t).v.2=(if 0<xs.length then 0 else(Zc1 (ge d.frames n) [] 0).2):=by
 unfold Y3 X9
 rw[h]
 simp only[Qx,Zb9]
 by_cases h0:0<xs.length
 · simp[h0]
 · simp[h0]
theorem ZuV (h:YW (ge d.frames n) (Q8 (d.frames.take n)) t= .error c):Y3 d n t=[]∧(X9 d n t).sk=[]∧(X9 d n t).tg=[]∧(X9 d n t).n=0∧(X9 d n t).kn=true∧(X9 d n t).v.1=c∧(X9 d n t).v.2=0:=by
 unfold Y3 X9
 rw[h]
 exact⟨rfl,rfl,rfl,rfl,rfl,rfl,rfl⟩
theorem namL_nil:Q8 (d.frames.take 0)=[]:=by simp[Q8]
end
end Go.Proofs.YtneapgbkkkjagaaGreatDoor
set_option maxHeartbeats 8000000
set_option maxRecDepth 100000
namespace Go.Proofs.YtneapgbkkkjagaaGreatDoor
open Go.Proofs.Tryz (prog)
open Go.RowKit
theorem ZvM:Zl prog 66:=Zs Tryz.func66 rfl rfl
theorem ZvL:Zl prog 67:=Zs Tryz.func67 rfl rfl
theorem Zc8:Zdf prog 82 [.string ⟨#[]⟩,.int .i64 0,.bool false]:=⟨fun i=>(#[(0,1),(1,1),(2,1)]:Array (Nat×Nat))[i]?,fun j hj=>by rcases j with _ | _ | _ | j<;>first | rfl | (simp at hj;omega),fun parts=>by kernel_rfl⟩
theorem zero_3:Zcw prog 3:=⟨.int .i64 0,fun w=>by kernel_rfl⟩
theorem ZpN:Zgc prog 119 3 1 8:=Zp2 (.int .i64 0) (by kernel_rfl) (by kernel_rfl) rfl (by decide) (fun w=>by kernel_rfl)
theorem Zwh {J:World→Prop} (hJ:Stab J) (f:Fr) (t:List BA) (hn:t.length≤100000) (hs:ZaR t≤1000000000) (hh:f.hyps.length≤2000):Fn prog J 44 [.agg (frC f),.rd (Zg t)] (.tup [.rd (Zhe ((Z7 f t).1)),.int ((Z7 f t).2)]):=by
 refine Zo (N:=169) Tryz.func44 rfl rfl (lb rfl) fun S w0 hS hJ0=>?_
 refine tw Z1 ?_
 refine ln 1 fun hl1=>?_
 refine ZG tb hJ [1,1000] [.ptr (frC f),_,_] [0] [_,_] rfl ⟨fun _ _ hk hx hl _=>Yq rfl (hl.env 0 0 _ rfl rfl) (Zp hS _ hk hx _ (Nat.le_refl _)) (jo hJ hx),trivial⟩ ?_
 refine Zf (ZG tb hJ [0,1,1002] [_,.bool (QW t),_] [1] U3 rfl ⟨iFo hS hJ (ZdQ hJ t) Zpm,trivial⟩ ?_)
 refine cj 2 (fun hb1=>?_) fun hb1=>?_
 try simp at hb1
 refine ZG tb hJ [1002,1004,1005] [_,.tup [.rd (Zhe (if 2000<t.length then []else ZlL t)),.int (if 2000<t.length then 10 else 0)],_,_,_,_] [1] U3 rfl ⟨iFo hS hJ (ZsL hJ t) ZvM,trivial⟩ ?_
 refine ln 0 fun hl2=>?_
 exact Ze (fun a w h=>YM (m:=1) (k:=2) rfl (ZP h) rfl rfl (congrArg (fun z=>AV.rd (Zhe z)) (show(if 2000<t.length then []else ZlL t)=((Z7 f t).1)from by first | (rw[eU];done) | (rw[eU];exact hb2) | (rw[eU];exact hb6) | (rw[ZaB (by simpa using hb1)]))) (eI (by first | (rw[eU];done) | (rw[eU];exact hb2) | (rw[eU];exact hb6) | (rw[ZaB (by simpa using hb1)]))))
 try simp at hb1
 have h0:QW t=true:=by simpa using hb1
 refine Zb (nx (ZG tb hJ [0,1,1003,1004,1006,1007,1008] [_,.tup [.rd (Zg ((QS t).1)),.rd (Zhg ((QS t).2.1)),.int ((QS t).2.2)],_,_,_,_,_,_,_] [1] U7 rfl ⟨iFo hS hJ (ZpF hJ t (by exact hn) (by exact hs)) ZvL,trivial⟩ ?_))
 refine ln 2 fun hl3=>?_
 refine ln 3 fun hl4=>?_
 refine Zf (qso tb hJ [0,1,4,5,6,1001] [_,_] U6 ?_)
 refine cj 5 (fun hb2=>?_) fun hb2=>?_
 try simp at hb2
 have eU:=ri_20 (f:=f) h0 hb2
 refine qso tb hJ [1001,1002] U3 [_,_] ?_
 refine tw (fun h=>Z3 h (m:=0) (s:=4) rfl) ?_
 exact Ze (fun a w h=>YM (m:=0) (k:=1) rfl (ZP h) rfl rfl (congrArg (fun z=>AV.rd (Zhe z)) (show([]:List Ri)=((Z7 f t).1)from by first | (rw[eU];done) | (rw[eU];exact hb2) | (rw[eU];exact hb6) | (rw[ZaB (by simpa using hb1)]))) (eI (by first | (rw[eU];done) | (rw[eU];exact hb2) | (rw[eU];exact hb6) | (rw[ZaB (by simpa using hb1)]))))
 try simp at hb2
 obtain⟨e1,e2,e3⟩:=Zom h0 hb2
 have e4:=ZeI h0 e1
 have e10:(Xg t).length=Zrz t-1∧Zrz t<t.length:=by have h8:=e4.2.1;change Zrz t<t.length at h8;rw[List.length_drop,List.length_take];exact⟨by omega,h8⟩
 refine Zb (nx (Zf (ZG tb hJ (r5 [1002]) [_,.int (Yp (isV (⟨#[41]⟩:BA)) t),_] [1] U6 rfl ⟨iFo hS hJ (Zg3 hJ t (⟨#[41]⟩:BA)) ZgY,trivial⟩ ?_)))
 refine qso tb hJ (r6 [1001]) [_,_] U7 ?_
 refine jnoK (ι:=Unit) (fun _=>True) (fun _=>[]) (fun _=>[(1,.rd (Zg t)),(2,.ptr (frC f)),(7,.rd (Zhg ((QS t).2.1))),(8,.int ((QS t).2.2)),(6,.rd (Zg (Xg t)))]) ?_ ?_
 refine cj 6 (fun hb3=>?_) fun hb3=>?_
 try simp at hb3
 refine tw (sa 5 rfl (congrArg AV.int (show Yp (isV (⟨#[41]⟩:BA)) t=(((Yp (isV ⟨#[41]⟩) t).toNat:Nat):Int)from by omega))) ?_
 refine Yu tb hJ [0,1,3,4,1002,1003] [_,_,.rd (Zg ((t.take ((Yp (isV ⟨#[41]⟩) t).toNat)).drop 1)),_] [2] U6 rfl ⟨fun _ _ _ hx hl _=>Yy (ys:=(t.take ((Yp (isV ⟨#[41]⟩) t).toNat)).drop 1) (lo:=1) (hi:=(Yp (isV ⟨#[41]⟩) t).toNat) rfl Zd (fun _=>rfl) rfl (hl.D 0 35 rfl rfl) (Rel.of_lit (.int .i64 1)) (hl.D 1 36 rfl rfl) sfz sfz hx,trivial⟩ ?_
 exact Zkz () [0,1,2,3,5] trivial
 try simp at hb3
 refine tw (sa 2 rfl (show(.rd (Zg ((QS t).1)):AV)= .rd (Zg (Xg t))from by rw[(e2 hb3).1])) ?_
 exact Zb (Zkz () [0,1,3,4,2] trivial)
 rintro _-
 refine ln 4 fun hl5=>?_
 refine Zf (qso tb hJ (r5 [1000]) [_] U6 ?_)
 refine Zc (lpo (ι:=Nat) (fun i=>(i≤f.hyps.length)∧(∀ j,j<i→¬ (ge f.hyps j).label∈Xg t)) (fun _=>[]) (fun i=>[(10,.int (i:Nat))]) (fun i=>f.hyps.length-i) (r6 []) U5 0 ⟨Nat.zero_le _,fun j hj=>by omega⟩ ?_)
 rintro i ⟨f1_1,f1_2⟩
 refine Zf (ZG tb hJ (r6 [1002,1004]) [_,_,_,.int (f.hyps.length:Nat),_] [3] U8 rfl ⟨Z2 Zx,trivial⟩ ?_)
 refine ln 6 fun hl6=>?_
 refine cj 7 (fun hb4=>?_) fun hb4=>?_
 try simp at hb4
 refine Zb (nx (Zf (Zc (ZG tb hJ (r6 [1008]) [_,_,_,_,.ptr (hyC (ge f.hyps i)),_,_,.int (Yp (isV ((ge f.hyps i).label)) (Xg t)),_] [4,7] U7 rfl ⟨iIx Zq,iFo hS hJ (Zg3 hJ (Xg t) ((ge f.hyps i).label)) ZgY,trivial⟩ ?_))))
 refine cj 6 (fun hb5=>?_) fun hb5=>?_
 try simp at hb5
 have eU:=ri_own (f:=f) h0 hb2 (List.any_eq_true.2 ⟨_,Zv (by omega),by simpa using idx_mem.1 hb5⟩)
 refine qso tb hJ [1000,1001] [_,_] [_,_] ?_
 refine tw (fun h=>Z3 h (m:=0) (s:=4) rfl) ?_
 exact Ze (fun a w h=>YM (m:=0) (k:=1) rfl (ZP h) rfl rfl (congrArg (fun z=>AV.rd (Zhe z)) (show([]:List Ri)=((Z7 f t).1)from by first | (rw[eU];done) | (rw[eU];exact hb2) | (rw[eU];exact hb6) | (rw[ZaB (by simpa using hb1)]))) (eI (by first | (rw[eU];done) | (rw[eU];exact hb2) | (rw[eU];exact hb6) | (rw[ZaB (by simpa using hb1)]))))
 try simp at hb5
 refine Zb (nx (Yu tb hJ (r5 [1002]) [_,.int (i+1:Nat),_] [1] U6 rfl ⟨Ya,trivial⟩ ?_))
 exact YH (i+1) (r6 []) ⟨by omega,ZK f1_2 (fun e=>by have h9:=idx_mem.2 e;first | omega | (simp at h9;omega))⟩
 try simp at hb4
 have e5:(f.hyps.any fun h=>decide (h.label∈Xg t))=false:=List.any_eq_false.2 fun x hx=>by obtain⟨j,hj,rfl⟩:=Xj hx;simpa using f1_2 j (by omega)
 refine Zt (nx (Zf (qso tb hJ (r5 [1001]) [_,_] U6 ?_)))
 refine cj 5 (fun hb6=>?_) fun hb6=>?_
 try simp at hb6
 have eU:=ri_21 h0 hb2 e5 hb6
 refine qso tb hJ [1001,1002] U3 [_,_] ?_
 refine tw (fun h=>Z3 h (m:=0) (s:=4) rfl) ?_
 exact Ze (fun a w h=>YM (m:=0) (k:=1) rfl (ZP h) rfl rfl (congrArg (fun z=>AV.rd (Zhe z)) (show([]:List Ri)=((Z7 f t).1)from by first | (rw[eU];done) | (rw[eU];exact hb2) | (rw[eU];exact hb6) | (rw[ZaB (by simpa using hb1)]))) (eI (by first | (rw[eU];done) | (rw[eU];exact hb2) | (rw[eU];exact hb6) | (rw[ZaB (by simpa using hb1)]))))
 try simp at hb6
 have e6:=e3 hb6
 refine Zb (nx (Zf (qso tb hJ (r5 [1001]) [_,_] U6 ?_)))
 refine jnoK (ι:=Unit) (fun _=>True) (fun _=>[]) (fun _=>[(2,.ptr (frC f)),(8,.int ((QS t).2.2)),(6,.rd (Zg (Xg t))),(7,.rd (Zhg ((Zj (Yb t)).1)))]) ?_ ?_
 refine cj 5 (fun hb7=>?_) fun hb7=>?_
 try simp at hb7
 have e7:(Xg t).length+2=Zrz t+1:=by rw[List.length_drop,List.length_take];have h9:=e4.1;have h8:=e4.2.1;change 1≤Zrz t at h9;change Zrz t<t.length at h8;omega
 refine ZE (snK 2 tb (env':=[(61,_),(60,_),(1,_),(2,_),(7,_),(8,_),(6,_),(58,_)]) rfl ?_)
 refine sy (.int ((Xg t).length:Nat)) (fun h=>ZaD Zm rfl (h.get 0 rfl) h.x) ?_
 refine sy (.int ((Xg t).length+2:Nat)) (fun h=>Zfo (i:=(((Xg t).length:Nat):Int)) (j:=(2:Int)) rfl (h.get 0 rfl) (Rel.of_lit (.int .i64 2)) sfz sfz h.x) ?_
 refine sy (.rd (Zg (t.drop ((Xg t).length+2)))) (fun h=>Yy (ys:=t.drop ((Xg t).length+2)) (lo:=(Xg t).length+2) (hi:=t.length) (by rw[List.take_length]) Zd (fun _=>rfl) rfl (h.get 3 rfl) (h.get 0 rfl) rfl sfz sfz h.x) ?_
 refine sy (.str (Zbh (t.drop ((Xg t).length+2)) ⟨#[]⟩)) (fun h=>Zbw (ZpB hJ (t.drop ((Xg t).length+2)) (by exact Nat.le_trans (ZcG _ _) hs)) Zpk rfl (Zp hS _ h.keep h.x) (h.x.1) (Za (h.get 0 rfl) Zh) (jo hJ h.x)) ?_
 refine X0 (O:=[]) (R:=[]) (Zio hJ (Zbh (t.drop ((Xg t).length+2)) ⟨#[]⟩) (by exact Nat.le_trans (Zfb _ _) hs)) Zpl rfl rfl rfl (lb rfl) hS hJ0 Zy (fun a w h=>(Za (h.get 0 rfl) Zh)) fun z1=>?_
 refine snK 4 tb (env':=[(7,_),(68,_),(67,_),(59,_),(66,_),(65,_),(64,_),(63,_),(62,_),(61,_),(60,_),(1,_),(2,_),(8,_),(6,_),(58,_)]) rfl ?_
 refine seK [0,2,6,12,13,14] U6 rfl ?_
 refine kw (sa 0 rfl (show(.rd (Zhg z1.1.1):AV)= .rd (Zhg ((Zj (Yb t)).1))from by have h9:=z1.2.2;simp only[e7]at h9;exact congrArg (fun z=>AV.rd (Zhg z)) (h9 e6))) ?_
 exact Zkz () [3,4,5,0] trivial
 try simp at hb7
 refine tw (sa 2 rfl (show(.rd (Zhg ((QS t).2.1)):AV)= .rd (Zhg ((Zj (Yb t)).1))from by rw[(e2 hb7).2])) ?_
 exact Zb (Zkz () [1,3,4,2] trivial)
 rintro _-
 have e8:(Zj (Yb t)).1.length≤1000000000:=by have h9:=ZeD _ (Yb t).data.toList 0 false (Nat.le_refl _);have h8:=Zfb t (Zrz t+1);exact Nat.le_trans h9 (Nat.le_trans h8 hs)
 refine ln 3 fun hl7=>?_
 refine tsq ?_
 refine Xp Xn hJ rfl rfl rfl (lb rfl) fun v2=>?_
 refine snK 1 tb (env':=[(11,_),(69,_),(2,_),(8,_),(6,_),(7,_)]) rfl ?_
 refine seK [0,2,3,4,5] U5 rfl ?_
 refine nx (tsq ?_)
 refine Xp Qh hJ rfl rfl rfl (lb rfl) fun v3=>?_
 refine snK 1 tb (env':=[(12,_),(70,_),(11,_),(2,_),(8,_),(6,_),(7,_)]) rfl ?_
 refine seK [0,2,3,4,5,6] U6 rfl ?_
 refine nx (Zf (qso tb hJ (r6 [1000]) [_] U7 ?_))
 refine Zc (lpo (ι:=Nat×Value×(List Ri)×Value×(List Int)) (fun(k,_,out,_,tg)=>(k≤(Zj (Yb t)).1.length)∧(Zd5 f (Xg t) ((Zj (Yb t)).1.take k) ([],[])=some (out,tg))∧(out.length=k)∧(tg.length≤k)) (fun(_,v,out,u,tg)=>[OB.row u 3 1 (tg.map intC),OB.row v 82 3 (out.map riC)]) (fun(k,v,_,u,_)=>[(13,.int (k:Nat)),(11,.lit v),(12,.lit u)]) (fun(k,_,_,_,_)=>(Zj (Yb t)).1.length-k) [2,3,4,5,6,1,0] U4 (0,v2,([]:List Ri),v3,([]:List Int)) ⟨Nat.zero_le _,rfl,rfl,Nat.le_refl _⟩ ?_)
 rintro⟨k,v,out,u,tg⟩ ⟨f2_1,f2_2,f2_3,f2_4⟩
 refine Zf (ZG tb hJ (r7 [1003]) [_,_,.int (((Zj (Yb t)).1).length:Nat),_] [2] U8 rfl ⟨Z2 ZbA,trivial⟩ ?_)
 refine cj 7 (fun hb8=>?_) fun hb8=>?_
 try simp at hb8
 have hn0:0≤(ge (Zj (Yb t)).1 k).number:=QJ _ _ 0 false (Nat.le_refl _) (Int.le_refl _) _ (Zv hb8)
 refine Zb (nx (Zf (Zc (ZG tb hJ (r7 [1005]) [_,_,.ptr (ltC (ge ((Zj (Yb t)).1) k)),_,_,_] [2] U8 rfl ⟨iIx Xz,trivial⟩ ?_))))
 refine jno (ι:=Ri×Value×(List Ri)) (fun(r,_,outr)=>(Zbs f (Xg t) tg (ge (Zj (Yb t)).1 k)=some r)∧(outr=out++[r])) (fun(_,vr,outr)=>[OB.row u 3 1 (tg.map intC),OB.row vr 82 3 (outr.map riC)]) (fun(_,vr,_)=>[(2,.ptr (frC f)),(8,.int ((QS t).2.2)),(6,.rd (Zg (Xg t))),(7,.rd (Zhg ((Zj (Yb t)).1))),(13,.int (k:Nat)),(12,.lit u),(11,.lit vr)]) ?_ ?_
 refine Zc (qso tb hJ (r8 [1002]) U3 U9 ?_)
 refine cj 8 (fun hb9=>?_) fun hb9=>?_
 try simp at hb9
 have e9:Zbs f (Xg t) tg (ge (Zj (Yb t)).1 k)=some ⟨⟨#[]⟩, -1,true⟩:=by rw[Zbs,if_pos hb9]
 refine ZE (snK 1 tb (env':=[(85,_),(2,_),(8,_),(6,_),(7,_),(13,_),(11,_),(12,_),(14,_),(82,_)]) rfl ?_)
 refine sq (.agg (riC (⟨⟨#[]⟩,(-1:Int),true⟩:Ri))) rfl rfl (lb rfl) (fun a _ h=>Yh (ps:=[(1,a.eval (.const (.int .i64 (-1)))),(2,a.eval (.const (.bool true)))]) (us:=[.string ⟨#[]⟩,a.eval (.const (.int .i64 (-1))),a.eval (.const (.bool true))]) Zc8 rfl (by simp) (Zcy (lb rfl) rfl (Zcy (lb rfl) rfl Zdd)) rfl (YB (.lit _ (Nat.zero_le _)) (Zk (Rel.of_lit (.int .i64 (-1))) (Zk (Rel.of_lit (.bool true)) ZJ))) h.x) ?_
 refine sy (.rd (Zhe ([(⟨⟨#[]⟩,(-1:Int),true⟩:Ri)]))) (fun h=>Y7 Xn Zef (by decide) rfl rfl (h.get 0 rfl) (Zp hS _ h.keep h.x _ (Nat.le_refl _)) (jo hJ h.x)) ?_
 refine kw pm1 ?_
 refine ZR (f:=riC) (m:=2) (s:=85) out ([(⟨⟨#[]⟩,(-1:Int),true⟩:Ri)]) (fun _=>rfl) ZbU hJ hJ0 rfl rfl rfl (lb rfl) rfl rfl (fun a w h=>(h.get 0 rfl)) sfz sfz fun v4=>?_
 refine snK 1 tb (env':=[(11,_),(88,_),(87,_),(86,_),(85,_),(2,_),(8,_),(6,_),(7,_),(13,_),(12,_),(14,_),(82,_)]) rfl ?_
 refine seK [0,2,5,6,7,8,9,10] U8 rfl ?_
 refine kw pm1 ?_
 exact Zkz ((⟨⟨#[]⟩,(-1:Int),true⟩:Ri),v4,out++([(⟨⟨#[]⟩,(-1:Int),true⟩:Ri)])) [2,3,4,5,6,7,0] ⟨e9,rfl⟩
 try simp at hb9
 refine ZG tb hJ (r8 [1005]) [_,_,_,.int (f.hyps.length:Nat),_,_] [3] U9 rfl ⟨Z2 Zx,trivial⟩ ?_
 refine cj 8 (fun hb10=>?_) fun hb10=>?_
 try simp at hb10
 have e9:Zbs f (Xg t) tg (ge (Zj (Yb t)).1 k)=some ⟨(ge f.hyps ((ge (Zj (Yb t)).1 k).number-1).toNat).label, -1,false⟩:=by rw[Zbs,if_neg (by omega),if_pos (by omega)]
 refine ZE (snK 4 tb (env':=[(98,_),(97,_),(96,_),(95,_),(2,_),(8,_),(6,_),(7,_),(13,_),(11,_),(12,_),(14,_),(89,_)]) rfl ?_)
 refine sy (.int ((ge ((Zj (Yb t)).1) k).number-(1:Int))) (fun h=>Zcg (i:=(ge ((Zj (Yb t)).1) k).number) (j:=(1:Int)) rfl (h.get 0 rfl) (Rel.of_lit (.int .i64 1)) sfz sfz h.x) ?_
 refine sy (.ptr (hyC (ge f.hyps ((ge ((Zj (Yb t)).1) k).number-(1:Int)).toNat))) (fun h=>ZO (i:=(ge ((Zj (Yb t)).1) k).number-(1:Int)) Zq rfl (h.get 2 rfl) (h.get 0 rfl) sfz (Zdq (xs:=f.hyps) (i:=(ge ((Zj (Yb t)).1) k).number-(1:Int)) sfz sfz) rfl h.x) ?_
 refine snK 2 tb (env':=[(102,_),(101,_),(100,_),(99,_),(98,_),(97,_),(96,_),(95,_),(2,_),(8,_),(6,_),(7,_),(13,_),(11,_),(12,_),(14,_),(89,_)]) rfl ?_
 refine sq (.agg (riC (⟨(ge f.hyps ((ge ((Zj (Yb t)).1) k).number-(1:Int)).toNat).label,(-1:Int),false⟩:Ri))) rfl rfl (lb rfl) (fun a _ h=>Yh (ps:=[(0,a.eval (.tmp 102)),(1,a.eval (.const (.int .i64 (-1))))]) (us:=[a.eval (.tmp 102),a.eval (.const (.int .i64 (-1))),.bool false]) Zc8 rfl (by simp) (Zcy (lb rfl) (Rel.oneC (h.get 0 rfl)) (Zcy (lb rfl) rfl Zdd)) rfl (Zk (h.get 0 rfl) (Zk (Rel.of_lit (.int .i64 (-1))) (YB (.lit _ True.intro) ZJ))) h.x) ?_
 refine sy (.rd (Zhe ([(⟨(ge f.hyps ((ge ((Zj (Yb t)).1) k).number-(1:Int)).toNat).label,(-1:Int),false⟩:Ri)]))) (fun h=>Y7 Xn Zef (by decide) rfl rfl (h.get 0 rfl) (Zp hS _ h.keep h.x _ (Nat.le_refl _)) (jo hJ h.x)) ?_
 refine kw pm1 ?_
 refine ZR (f:=riC) (m:=9) (s:=95) out ([(⟨(ge f.hyps ((ge ((Zj (Yb t)).1) k).number-(1:Int)).toNat).label,(-1:Int),false⟩:Ri)]) (fun _=>rfl) ZbU hJ hJ0 rfl rfl rfl (lb rfl) rfl rfl (fun a w h=>(h.get 0 rfl)) sfz sfz fun v5=>?_
 refine snK 1 tb (env':=[(11,_),(105,_),(104,_),(103,_),(102,_),(101,_),(100,_),(99,_),(98,_),(97,_),(96,_),(95,_),(2,_),(8,_),(6,_),(7,_),(13,_),(12,_),(14,_),(89,_)]) rfl ?_
 refine seK [0,2,12,13,14,15,16,17] U8 rfl ?_
 refine kw pm1 ?_
 exact Zkz ((⟨(ge f.hyps ((ge ((Zj (Yb t)).1) k).number-(1:Int)).toNat).label,(-1:Int),false⟩:Ri),v5,out++([(⟨(ge f.hyps ((ge ((Zj (Yb t)).1) k).number-(1:Int)).toNat).label,(-1:Int),false⟩:Ri)])) [2,3,4,5,6,7,0] ⟨e9,rfl⟩
 try simp at hb10
 refine ZG tb hJ (r8 [1008]) [_,_,_,.int (f.hyps.length:Nat),_,.int ((Xg t).length:Nat),.int (f.hyps.length+(Xg t).length:Nat),_,_] [3,5,6] U9 rfl ⟨Z2 Zx,Z2 Zm,Ya,trivial⟩ ?_
 refine cj 8 (fun hb11=>?_) fun hb11=>?_
 try simp at hb11
 have e9:Zbs f (Xg t) tg (ge (Zj (Yb t)).1 k)=some ⟨ge (Xg t) ((ge (Zj (Yb t)).1 k).number-(f.hyps.length:Int)-1).toNat, -1,false⟩:=by rw[Zbs,if_neg (by omega),if_neg (by omega),if_pos (by omega)]
 refine ZE (snK 5 tb (env':=[(119,_),(118,_),(117,_),(116,_),(115,_),(2,_),(8,_),(6,_),(7,_),(13,_),(11,_),(12,_),(14,_),(106,_)]) rfl ?_)
 refine sy (.int (f.hyps.length:Nat)) (fun h=>ZaD Zx rfl (h.get 0 rfl) h.x) ?_
 refine sy (.int ((ge ((Zj (Yb t)).1) k).number-(f.hyps.length:Int))) (fun h=>Zcg (i:=(ge ((Zj (Yb t)).1) k).number) (j:=(f.hyps.length:Int)) rfl (h.get 3 rfl) (h.get 0 rfl) sfz sfz h.x) ?_
 refine sy (.int ((ge ((Zj (Yb t)).1) k).number-(f.hyps.length:Int)-(1:Int))) (fun h=>Zcg (i:=(ge ((Zj (Yb t)).1) k).number-(f.hyps.length:Int)) (j:=(1:Int)) rfl (h.get 0 rfl) (Rel.of_lit (.int .i64 1)) sfz sfz h.x) ?_
 refine sy (.ptr [lS (ge (Xg t) ((ge ((Zj (Yb t)).1) k).number-(f.hyps.length:Int)-(1:Int)).toNat)]) (fun h=>ZO (i:=(ge ((Zj (Yb t)).1) k).number-(f.hyps.length:Int)-(1:Int)) Zd rfl (h.get 6 rfl) (h.get 0 rfl) sfz (Zdq (xs:=Xg t) (i:=(ge ((Zj (Yb t)).1) k).number-(f.hyps.length:Int)-(1:Int)) sfz sfz) rfl h.x) ?_
 refine snK 1 tb (env':=[(124,_),(123,_),(122,_),(121,_),(120,_),(119,_),(118,_),(117,_),(116,_),(115,_),(2,_),(8,_),(6,_),(7,_),(13,_),(11,_),(12,_),(14,_),(106,_)]) rfl ?_
 refine sq (.agg (riC (⟨(ge (Xg t) ((ge ((Zj (Yb t)).1) k).number-(f.hyps.length:Int)-(1:Int)).toNat),(-1:Int),false⟩:Ri))) rfl rfl (lb rfl) (fun a _ h=>Yh (ps:=[(0,a.eval (.tmp 124)),(1,a.eval (.const (.int .i64 (-1))))]) (us:=[a.eval (.tmp 124),a.eval (.const (.int .i64 (-1))),.bool false]) Zc8 rfl (by simp) (Zcy (lb rfl) (Rel.oneC (h.get 0 rfl)) (Zcy (lb rfl) rfl Zdd)) rfl (Zk (h.get 0 rfl) (Zk (Rel.of_lit (.int .i64 (-1))) (YB (.lit _ True.intro) ZJ))) h.x) ?_
 refine sy (.rd (Zhe ([(⟨(ge (Xg t) ((ge ((Zj (Yb t)).1) k).number-(f.hyps.length:Int)-(1:Int)).toNat),(-1:Int),false⟩:Ri)]))) (fun h=>Y7 Xn Zef (by decide) rfl rfl (h.get 0 rfl) (Zp hS _ h.keep h.x _ (Nat.le_refl _)) (jo hJ h.x)) ?_
 refine kw pm1 ?_
 refine ZR (f:=riC) (m:=11) (s:=115) out ([(⟨(ge (Xg t) ((ge ((Zj (Yb t)).1) k).number-(f.hyps.length:Int)-(1:Int)).toNat),(-1:Int),false⟩:Ri)]) (fun _=>rfl) ZbU hJ hJ0 rfl rfl rfl (lb rfl) rfl rfl (fun a w h=>(h.get 0 rfl)) sfz sfz fun v6=>?_
 refine snK 1 tb (env':=[(11,_),(127,_),(126,_),(125,_),(124,_),(123,_),(122,_),(121,_),(120,_),(119,_),(118,_),(117,_),(116,_),(115,_),(2,_),(8,_),(6,_),(7,_),(13,_),(12,_),(14,_),(106,_)]) rfl ?_
 refine seK [0,2,14,15,16,17,18,19] U8 rfl ?_
 refine kw pm1 ?_
 exact Zkz ((⟨(ge (Xg t) ((ge ((Zj (Yb t)).1) k).number-(f.hyps.length:Int)-(1:Int)).toNat),(-1:Int),false⟩:Ri),v6,out++([(⟨(ge (Xg t) ((ge ((Zj (Yb t)).1) k).number-(f.hyps.length:Int)-(1:Int)).toNat),(-1:Int),false⟩:Ri)])) [2,3,4,5,6,7,0] ⟨e9,rfl⟩
 try simp at hb11
 refine ZoI tb hJ (r8 [1011]) [_,_,_,.int (f.hyps.length:Nat),_,.int ((Xg t).length:Nat),.int (f.hyps.length+(Xg t).length:Nat),_,.int (tg.length:Nat),.int (f.hyps.length+(Xg t).length+tg.length:Nat),_,_] [3,5,6,8,9] U9 rfl ⟨Z2 Zx,Z2 Zm,Ya,fun _ _ _ hx hl _=>ZaD ZfA rfl (Qn hS hx (mo 0 rfl) (hl.D 7 136 rfl rfl)) hx,Ya,trivial⟩ ?_
 refine cj 8 (fun hb12=>?_) fun hb12=>?_
 try simp at hb12
 have e9:Zbs f (Xg t) tg (ge (Zj (Yb t)).1 k)=some ⟨⟨#[]⟩,ge tg ((ge (Zj (Yb t)).1 k).number-(f.hyps.length:Int)-((Xg t).length:Int)-1).toNat,false⟩:=by rw[Zbs,if_neg (by omega),if_neg (by omega),if_neg (by omega),if_pos (by omega)]
 refine ZE (snK 5 tb (env':=[(144,_),(143,_),(142,_),(141,_),(140,_),(2,_),(8,_),(6,_),(7,_),(13,_),(11,_),(12,_),(14,_),(128,_)]) rfl ?_)
 refine sy (.int (f.hyps.length:Nat)) (fun h=>ZaD Zx rfl (h.get 0 rfl) h.x) ?_
 refine sy (.int ((ge ((Zj (Yb t)).1) k).number-(f.hyps.length:Int))) (fun h=>Zcg (i:=(ge ((Zj (Yb t)).1) k).number) (j:=(f.hyps.length:Int)) rfl (h.get 3 rfl) (h.get 0 rfl) sfz sfz h.x) ?_
 refine snK 1 tb (env':=[(147,_),(146,_),(145,_),(144,_),(143,_),(142,_),(141,_),(140,_),(2,_),(8,_),(6,_),(7,_),(13,_),(11,_),(12,_),(14,_),(128,_)]) rfl ?_
 refine sy (.int ((Xg t).length:Nat)) (fun h=>ZaD Zm rfl (h.get 0 rfl) h.x) ?_
 refine sy (.int ((ge ((Zj (Yb t)).1) k).number-(f.hyps.length:Int)-(((Xg t).length:Nat):Int))) (fun h=>Zcg (i:=(ge ((Zj (Yb t)).1) k).number-(f.hyps.length:Int)) (j:=(((Xg t).length:Nat):Int)) rfl (h.get 2 rfl) (h.get 0 rfl) sfz sfz h.x) ?_
 refine sy (.int ((ge ((Zj (Yb t)).1) k).number-(f.hyps.length:Int)-(((Xg t).length:Nat):Int)-(1:Int))) (fun h=>Zcg (i:=(ge ((Zj (Yb t)).1) k).number-(f.hyps.length:Int)-(((Xg t).length:Nat):Int)) (j:=(1:Int)) rfl (h.get 0 rfl) (Rel.of_lit (.int .i64 1)) sfz sfz h.x) ?_
 refine sy (.lit (XG u ((((ge ((Zj (Yb t)).1) k).number-(f.hyps.length:Int)-(((Xg t).length:Nat):Int)-(1:Int)).toNat)*1))) (fun h=>Y6 (i:=(ge ((Zj (Yb t)).1) k).number-(f.hyps.length:Int)-(((Xg t).length:Nat):Int)-(1:Int)) Qh rfl (Zi h.x (mo 0 rfl)) (h.get 9 rfl) (h.get 0 rfl) sfz (by rw[List.length_map];exact sfz) h.x) ?_
 refine sy (.int (ge tg (((ge ((Zj (Yb t)).1) k).number-(f.hyps.length:Int)-(((Xg t).length:Nat):Int)-(1:Int)).toNat))) (fun h=>Qe (i:=((ge ((Zj (Yb t)).1) k).number-(f.hyps.length:Int)-(((Xg t).length:Nat):Int)-(1:Int)).toNat) ZaW rfl (Zi h.x (mo 0 rfl)) (h.get 0 rfl) (Q4 (xs:=tg) (k:=((ge ((Zj (Yb t)).1) k).number-(f.hyps.length:Int)-(((Xg t).length:Nat):Int)-(1:Int)).toNat) sfz) h.x) ?_
 refine sq (.agg (riC (⟨⟨#[]⟩,(ge tg (((ge ((Zj (Yb t)).1) k).number-(f.hyps.length:Int)-(((Xg t).length:Nat):Int)-(1:Int)).toNat)),false⟩:Ri))) rfl rfl (lb rfl) (fun a _ h=>Yh (ps:=[(1,a.eval (.tmp 152))]) (us:=[.string ⟨#[]⟩,a.eval (.tmp 152),.bool false]) Zc8 rfl (by simp) (Zcy (lb rfl) (Rel.oneC (h.get 0 rfl)) Zdd) rfl (YB (.lit _ (Nat.zero_le _)) (Zk (h.get 0 rfl) (YB (.lit _ True.intro) ZJ))) h.x) ?_
 refine sy (.rd (Zhe ([(⟨⟨#[]⟩,(ge tg (((ge ((Zj (Yb t)).1) k).number-(f.hyps.length:Int)-(((Xg t).length:Nat):Int)-(1:Int)).toNat)),false⟩:Ri)]))) (fun h=>Y7 Xn Zef (by decide) rfl rfl (h.get 0 rfl) (Zp hS _ h.keep h.x _ (Nat.le_refl _)) (jo hJ h.x)) ?_
 refine kw pm1 ?_
 refine ZR (f:=riC) (m:=14) (s:=140) out ([(⟨⟨#[]⟩,(ge tg (((ge ((Zj (Yb t)).1) k).number-(f.hyps.length:Int)-(((Xg t).length:Nat):Int)-(1:Int)).toNat)),false⟩:Ri)]) (fun _=>rfl) ZbU hJ hJ0 rfl rfl rfl (lb rfl) rfl rfl (fun a w h=>(h.get 0 rfl)) sfz sfz fun v7=>?_
 refine snK 1 tb (env':=[(11,_),(155,_),(154,_),(153,_),(152,_),(151,_),(150,_),(149,_),(148,_),(147,_),(146,_),(145,_),(144,_),(143,_),(142,_),(141,_),(140,_),(2,_),(8,_),(6,_),(7,_),(13,_),(12,_),(14,_),(128,_)]) rfl ?_
 refine seK [0,2,17,18,19,20,21,22] U8 rfl ?_
 refine kw pm1 ?_
 exact Zkz ((⟨⟨#[]⟩,(ge tg (((ge ((Zj (Yb t)).1) k).number-(f.hyps.length:Int)-(((Xg t).length:Nat):Int)-(1:Int)).toNat)),false⟩:Ri),v7,out++([(⟨⟨#[]⟩,(ge tg (((ge ((Zj (Yb t)).1) k).number-(f.hyps.length:Int)-(((Xg t).length:Nat):Int)-(1:Int)).toNat)),false⟩:Ri)])) [2,3,4,5,6,7,0] ⟨e9,rfl⟩
 try simp at hb12
 have e9:Zbs f (Xg t) tg (ge (Zj (Yb t)).1 k)=none:=by rw[Zbs,if_neg (by omega),if_neg (by omega),if_neg (by omega),if_neg (by omega)]
 have eU:=ri_bad h0 hb2 e5 hb6 (ZqJ hb8 f2_2 e9)
 refine qso tb hJ [1000,1001] [_,_] [_,_] ?_
 refine tw (fun h=>Z3 h (m:=0) (s:=4) rfl) ?_
 exact Ze (fun a w h=>YM (m:=0) (k:=1) rfl (ZP h) rfl rfl (congrArg (fun z=>AV.rd (Zhe z)) (show([]:List Ri)=((Z7 f t).1)from by first | (rw[eU];done) | (rw[eU];exact hb2) | (rw[eU];exact hb6) | (rw[ZaB (by simpa using hb1)]))) (eI (by first | (rw[eU];done) | (rw[eU];exact hb2) | (rw[eU];exact hb6) | (rw[ZaB (by simpa using hb1)]))))
 rintro⟨r,vr,outr⟩ ⟨g4_1,g4_2⟩
 have e9:=g4_1
 refine ZG tb hJ (r7 [1004]) [_,_,.ptr (ltC (ge ((Zj (Yb t)).1) k)),_,_] [2] U8 rfl ⟨iIx Xz,trivial⟩ ?_
 refine cj 7 (fun hb13=>?_) fun hb13=>?_
 try simp at hb13
 refine ZE (snK 2 tb (env':=[(162,_),(161,_),(2,_),(8,_),(6,_),(7,_),(13,_),(12,_),(11,_),(160,_)]) rfl ?_)
 refine sy (.rd (Zu7 ([(k:Int)]))) (fun h=>YD Qh zero_3 rfl (h.get 0 rfl) (Zp hS _ h.keep h.x _ (Nat.le_refl _)) (jo hJ h.x)) ?_
 refine ZR (f:=intC) (m:=2) (s:=161) tg ([(k:Int)]) (fun _=>rfl) ZpN hJ hJ0 rfl rfl rfl (lb rfl) rfl rfl (fun a w h=>(h.get 0 rfl)) sfz sfz fun v8=>?_
 refine snK 1 tb (env':=[(12,_),(164,_),(163,_),(162,_),(161,_),(2,_),(8,_),(6,_),(7,_),(13,_),(11,_),(160,_)]) rfl ?_
 refine seK [0,2,5,6,7,8,9,10] U8 rfl ?_
 refine nx (ln 1 fun hl8=>?_)
 refine Yu tb hJ [0,2,3,4,5,7,1002] [_,.int (k+1:Nat),_] [1] U7 rfl ⟨Ya,trivial⟩ ?_
 exact YH (k+1,vr,outr,v8,tg++([(k:Int)])) [1,2,3,4,6,5,0] ⟨by omega,by have h9:=ZhA (q:=(out,tg)) hb8 f2_2 e9;rw[g4_2];first | (rw[if_pos hb13]at h9;rw[h9];simp only[f2_3];done) | (rw[if_neg (by simp[hb13])]at h9;exact h9),by rw[g4_2];simp;omega,by first | omega | (simp;omega)⟩
 try simp at hb13
 refine Zb (nx (Yu tb hJ [0,1,2,3,5,6,1002] [_,.int (k+1:Nat),_] [1] U7 rfl ⟨Ya,trivial⟩ ?_))
 exact YH (k+1,vr,outr,u,tg) [0,1,2,3,6,5,4] ⟨by omega,by have h9:=ZhA (q:=(out,tg)) hb8 f2_2 e9;rw[g4_2];first | (rw[if_pos hb13]at h9;rw[h9];simp only[f2_3];done) | (rw[if_neg (by simp[hb13])]at h9;exact h9),by rw[g4_2];simp;omega,by first | omega | (simp;omega)⟩
 try simp at hb8
 have e9:Zd5 f (Xg t) (Zj (Yb t)).1 ([],[])=some (out,tg):=by rw[ZF (by omega)]at f2_2;exact f2_2
 refine Zt (nx (Zf (qso tb hJ [1,5,1001] [_,_] U3 ?_)))
 refine cj 2 (fun hb14=>?_) fun hb14=>?_
 try simp at hb14
 have eU:=ri_10 h0 hb2 e5 hb6 e9 hb14
 refine qso tb hJ [1001,1002] U3 [_,_] ?_
 refine tw (fun h=>Z3 h (m:=0) (s:=4) rfl) ?_
 exact Ze (fun a w h=>YM (m:=0) (k:=1) rfl (ZP h) rfl rfl (congrArg (fun z=>AV.rd (Zhe z)) (show([]:List Ri)=((Z7 f t).1)from by first | (rw[eU];done) | (rw[eU];exact hb2) | (rw[eU];exact hb6) | (rw[ZaB (by simpa using hb1)]))) (eI (by first | (rw[eU];done) | (rw[eU];exact hb2) | (rw[eU];exact hb6) | (rw[ZaB (by simpa using hb1)]))))
 try simp at hb14
 have eU:=ri_ok h0 hb2 e5 hb6 e9 hb14
 refine Zb (nx (qso tb hJ [1001,1002] U3 [_,_] ?_))
 refine tw pm1 ?_
 refine tw (fun h=>ZN hS h (m:=0) (s:=4) rfl) ?_
 exact Ze (fun a w h=>YM (m:=0) (k:=1) rfl (ZP h) rfl rfl (congrArg (fun z=>AV.rd (Zhe z)) (show out=((Z7 f t).1)from by first | (rw[eU];done) | (rw[eU];exact hb2) | (rw[eU];exact hb6) | (rw[ZaB (by simpa using hb1)]))) (eI (by first | (rw[eU];done) | (rw[eU];exact hb2) | (rw[eU];exact hb6) | (rw[ZaB (by simpa using hb1)]))))
end Go.Proofs.YtneapgbkkkjagaaGreatDoor
set_option maxHeartbeats 8000000
set_option maxRecDepth 100000
namespace Go.Proofs.YtneapgbkkkjagaaGreatDoor
open Go.RowKit
theorem ZqO {J:World→Prop} (hJ:Stab J) (h:Hy) (s:BA)  :Fn Tryz.prog J 108 [.agg (hyC h),.ptr [lS s]] (.bool (decide (h.label=s))):=by
 refine Zo (N:=8) Tryz.func108 rfl rfl (lb rfl) fun S w0 hS hJ0=>?_
 clear hJ0
 refine hqs tb hJ [1,1000] [.ptr (hyC h),_] [0] [_,_] rfl ⟨fun _ _ hk hx hl _=>Yq rfl (hl.env 0 0 _ rfl rfl) (hS _ hk.size) (js hJ hx),trivial⟩ ?_
 refine qs tb hJ [1004] U5 [_] ?_
 exact Ze (rtn (m:=0) rfl rfl rfl)
theorem Zux {J:World→Prop} (hJ:Stab J) (b:Nat) (d:Db) (f:Fr) (M:Nat) (vi:Value) (vs:Value) (vt:Value) (n:Nat) (kn:Bool) (y1:Int) (y2:Int) (s:BA)  :FnR Tryz.prog J 107 [OB.var b (mkR d f M vi vs vt n kn y1 y2)] [.str s,.ptr [.lit (.pointer (some ⟨b,0,none⟩))]] (.bool (f.hyps.any fun h=>decide (h.label=s))):=by
 refine Yo (N:=11) Tryz.func107 rfl rfl (lb rfl) fun S w0 hS hJ0 hH=>?_
 refine tw Z1 ?_
 refine ZG tb hJ [1,1000] [.ptr [lS s],_] [0] [_,_] rfl ⟨fun _ _ hk hx hl _=>Zcl rfl (hl.env 0 0 _ rfl rfl) (Zp hS _ hk hx _ (Nat.le_refl _)) (jo hJ hx),trivial⟩ ?_
 refine ZG tb hJ [1004,1007] [_,.at b 0,.at b 3,.at b 5,.rd (Xm f.hyps),.fn 108 [.ptr [lS s]],.bool (f.hyps.any (fun h'=>decide (h'.label=s))),_] [1,2,3,4,5,6] [_,_] rfl ⟨fun _ _ _ hx hl _=>ZA rfl (hl.D 0 4 rfl rfl) hx,fun _ _ _ hx hl _=>Zw Zag rfl (hl.D 1 5 rfl rfl) hx,fun _ _ _ hx hl _=>Zw Zai rfl (hl.D 2 6 rfl rfl) hx,fun _ _ hk hx hl _=>Zz ZdK rfl (Yr hH hk hx (mo 0 rfl)) (hl.D 3 7 rfl rfl) rfl hx,fun _ _ _ hx hl _=>XR (caps:=[(.tmp 2)]) rfl (Za (hl.env 1 2 _ rfl rfl) Zh) hx,fun _ _ hk hx hl _=>Xq (Qm hJ f.hyps 108 [.ptr [lS s]] [] (fun h'=>decide (h'.label=s)) (fun q'=>(ZqO hJ q' s).r) (ZsE)) ZgZ rfl (Zp hS _ hk hx) (hx.1) Zy (Za (hl.D 4 8 rfl rfl) (Za (hl.D 5 9 rfl rfl) Zh)) (jo hJ hx),trivial⟩ ?_
 refine ln 0 fun hl1=>?_
 exact Ze (Xe (m:=1) rfl rfl (eB (by first | rfl | grind[Zv])))
theorem ZnZ {J:World→Prop} (hJ:Stab J) (d:Db) (z:Int) (hw:∀ f∈d.frames,f.wide.length*32≤140737488351232) (hG:ZaN J):Fn Tryz.prog J 33 [.agg (dbC d),.int z] (.int (X6 d z)):=by
 refine Zo (N:=20) Tryz.func33 rfl rfl (lb rfl) fun S w0 hS hJ0=>?_
 refine tw Z1 ?_
 refine ZG tb hJ [1,1000] [.ptr (dbC d),_] [0] [_,_] rfl ⟨fun _ _ hk hx hl _=>Yq rfl (hl.env 0 0 _ rfl rfl) (Zp hS _ hk hx _ (Nat.le_refl _)) (jo hJ hx),trivial⟩ ?_
 refine Zf (ZG tb hJ [0,1,1002] [_,.int (QK d),_] [1] U3 rfl ⟨iFo hS hJ (Zn3 hJ d (by exact hw) (by exact hG)) Zpt,trivial⟩ ?_)
 refine qso tb hJ [0,1,2,1001] [_,_] U4 ?_
 refine cj 3 (fun hb1=>?_) fun hb1=>?_
 try simp at hb1
 refine qso tb hJ [1001] [_,_] [_] ?_
 exact Ze (Xe (m:=0) rfl rfl (eI (by simp[X6,hb1])))
 try simp at hb1
 refine Zb (nx (Zf (ZG tb hJ [1008] [_,_,_,_,_,_,.int (d.frames.length:Nat),_,_] [6] [_] rfl ⟨Z2 Xv,trivial⟩ ?_)))
 refine cj 0 (fun hb2=>?_) fun hb2=>?_
 try simp at hb2
 refine qso tb hJ [1000] [_] [_] ?_
 exact Ze (Xe (m:=0) rfl rfl (eI (by simp only[X6];rw[if_neg (by simpa using hb1),if_pos (by simpa using hb2)])))
 try simp at hb2
 refine Zb (nx (qso tb hJ [1000] [_] [_] ?_))
 exact Ze (Xe (m:=0) rfl rfl (eI (by simp only[X6];rw[if_neg (by simpa using hb1),if_neg (by simpa using hb2)])))
abbrev nmE (f:Fr) (L:List (BA×Int)) (l:List BA) (x:Lt):Itm:=Yn f L (ge l (x.number-(1:Int)-(f.hyps.length:Int)).toNat)
theorem p_read {J:World→Prop} (hJ:Stab J) (b:Nat) (d:Db) (f:Fr) (M:Nat) (L:List (BA×Int)) (vi:Value) (vs:Value) (vt:Value) (n:Nat) (kn:Bool) (y1:Int) (y2:Int) (t:List BA) (ht:∀ h∈f.hyps++f.dummies,h.text.length≤2000) (hh:f.hyps.length≤2000) (hn:t.length≤100000) (hs:ZaR t≤1000000000):FnP (ι:= {q':Value×List Itm // YW f L t= .ok q'.2}) (κ:= {q:Int×Value×List Itm // YW f L t= .error q.1}) Tryz.prog J 56 [] [.at b 0,.rd (Zg t)] [OB.var b (mkR d f M vi vs vt n kn y1 y2),OB.row vi 106 4 (([]:List Itm).map itC),OB.mI M L] (fun _=>.tup []) (fun i'=>[OB.var b (mkC d f [.lit (.map (some M)),.lit (i'.1.1),.lit vs,.lit vt,lI (n:Int),lB kn,lI y1,lI y2]),OB.row i'.1.1 106 4 ((i'.1.2).map itC),OB.mI M L]) (fun k'=>flV k'.1.1) (fun k'=>[OB.var b (mkC d f [.lit (.map (some M)),.lit (k'.1.2.1),.lit vs,.lit vt,lI (n:Int),lB kn,lI y1,lI y2]),OB.row k'.1.2.1 106 4 ((k'.1.2.2).map itC),OB.mI M L]):=by
 refine Zl7 (N:=142) Tryz.func56 rfl rfl (lb rfl) fun S w0 R hS hJ0 hH=>?_
 refine atw (B:=So J S w0 142 (OB.var b (mkR d f M vi vs vt n kn y1 y2)::OB.row vi 106 4 (([]:List Itm).map itC)::OB.mI M L::R) [(0,.at b 0),(1,.rd (Zg t))]) (fun h=>h) ?_
 refine lnA 1 fun hl1=>?_
 refine Zcm (m:=5) ?_
 refine Yu tb hJ [1,1000] [.ptr [.lit (.pointer (some ⟨b,0,none⟩))]] [0] [_,_] rfl ⟨fun _ _ hk hx hl _=>Zcl rfl (hl.env 0 0 _ rfl rfl) (Zp hS _ hk hx _ (Nat.le_refl _)) (jo hJ hx),trivial⟩ ?_
 refine nxA ?_
 refine Zcm (m:=5) ?_
 refine ZG tb hJ [0,1,1002] [_,.bool (QW t),_] [1] U3 rfl ⟨iFo hS hJ (ZhJ hJ t) ZsH,trivial⟩ ?_
 refine cj 2 (fun hb1=>?_) fun hb1=>?_
 ·
  try simp at hb1
  refine Zf (ZG tb hJ [0,1,1002] [_,.int (t.length:Nat),_] [1] U3 rfl ⟨Z2 Zm,trivial⟩ ?_)
  refine cj 2 (fun hb2=>?_) fun hb2=>?_
  ·
   try simp at hb2
   refine ZE (Qk (O:=[]) (R:=(OB.var b (mkR d f M vi vs vt n kn y1 y2)::OB.row vi 106 4 (([]:List Itm).map itC)::OB.mI M L::R)) (QO hJ (c:=(10:Int)) ) Y9 rfl rfl rfl (lb rfl) hS hJ0 Zy (fun a w h=>(Za (Rel.of_lit (.int .i64 10)) Zh)) (fun _=>?_) (fun i=>i.elim))
   refine Zn4 ?_
   exact fun a w h=>pnP (⟨(10,vi,([]:List Itm)),Zun hb1 (by omega)⟩: {q:Int×Value×List Itm // YW f L t= .error q.1}) rfl a w h
  ·
   try simp at hb2
   refine Zb (nx (Zf (ZG tb hJ [1,1000,1001,1002] [_,.int (t.length:Nat),_] [1] U4 rfl ⟨Z2 Zm,trivial⟩ ?_)))
   refine Zc (lpo (ι:=Nat×(List Itm)×Value) (fun(k,ys,_)=>(k≤t.length)∧(ys=(t.take k).map (Yn f L))) (fun(_,ys,wv)=>(OB.var b (mkR d f M wv vs vt n kn y1 y2)::OB.row wv 106 4 (ys.map itC)::OB.mI M L::R)) (fun(k,_,_)=>[(23,.int (k:Nat))]) (fun(k,_,_)=>t.length-k) [0,1,2,3] U3 (0,([]:List Itm),vi) ⟨Nat.zero_le _,rfl⟩ ?_)
   rintro⟨k,ys,wv⟩ ⟨f1_1,f1_2⟩
   refine qso tb hJ [0,1,2,3,1000] [_] U5 ?_
   refine cjS 4 (fun hb3=>?_) fun hb3=>?_
   ·
    try simp at hb3
    have e7:ys.length≤2000:=by rw[f1_2];simp;omega
    refine Zb (nx (Zf (Zc (ZG tb hJ [0,1,2,3,1002] [.ptr [lS (ge t k)],_,_] [0] U5 rfl ⟨iIx Zd,trivial⟩ ?_))))
    refine tw pm1 ?_
    refine fun a w h=>X1 (OB.var b (mkR d f M wv vs vt n kn y1 y2)::OB.mI M L::R) (γ:=Value) (fun ix'=>([.at b 0,.at b 0,.at b 0,.at b 12,.lit wv,.at b 0,.str (ge t k),.agg (itC (Yn f L (ge t k))),.rd (QF ([(Yn f L (ge t k))])),.any,.at b 0,.at b 12,.any]:List AV).getD ix' .any) (fun _=>true) [(2,fun(g:Value)=>.ptr [.lit (.pointer (some ⟨b,0,none⟩))]),(21,fun(g:Value)=>.rd (Zg t)),(22,fun(g:Value)=>.int (t.length:Nat)),(23,fun(g:Value)=>.int (k:Nat))] (fun(j':Nat) (g:Value)=>match j' with | 0=>(OB.row wv 106 4 (ys.map itC)::OB.var b (mkR d f M wv vs vt n kn y1 y2)::OB.mI M L::R) | 1=>(OB.row g 106 4 ((ys++([(Yn f L (ge t k))])).map itC)::OB.var b (mkR d f M wv vs vt n kn y1 y2)::OB.mI M L::R) | _=>(OB.row g 106 4 ((ys++([(Yn f L (ge t k))])).map itC)::OB.var b (mkR d f M g vs vt n kn y1 y2)::OB.mI M L::R)) (fun(k':Nat) (g:Value)=>match k' with | 0=>g | 1=>undef | _=>undef) [9,12] 1 (.slice none 0 0) (fun _=>rfl) h hJ YC rfl rfl rfl rfl rfl rfl hsb ⟨?_,⟨?_,⟨?_,⟨?_,⟨?_,⟨?_,⟨?_,⟨?_,⟨?_,⟨?_,⟨?_,⟨?_,⟨?_,trivial⟩⟩⟩⟩⟩⟩⟩⟩⟩⟩⟩⟩⟩ ⟨?e7_1_0,⟨?e7_1_1,trivial⟩⟩ ⟨.old 0 2 _ rfl rfl,⟨.old 1 21 _ rfl rfl,⟨.old 2 22 _ rfl rfl,⟨.old 3 23 _ rfl rfl,trivial⟩⟩⟩⟩ ?n7_1
    exact oX rfl fun hx hl=>ZI Xi rfl (hl.env 0 2 _ rfl rfl) hx
    exact oX rfl fun hx hl=>ZI Xi rfl (hl.env 0 2 _ rfl rfl) hx
    exact oX rfl fun hx hl=>ZA rfl (hl.D 1 28 rfl rfl) hx
    exact oX rfl fun hx hl=>Zw XL rfl (hl.D 2 29 rfl rfl) hx
    exact fun _ O' hO'=>⟨rfl,fun _ _ _ hx hl _=>Zz ZhT rfl (Zi hx (hO' _ (mo 0 rfl))) (hl.D 3 30 rfl rfl) rfl hx⟩
    exact oX rfl fun hx hl=>ZI Xi rfl (hl.env 0 2 _ rfl rfl) hx
    exact oX rfl fun hx hl=>Z5 rfl (hl.env 4 5 _ rfl rfl) hx
    exact fun _ O' hO'=>⟨rfl,fun _ _ hk hx hl _=>Xq (ZnS hJ b d f M L wv vs vt n kn y1 y2 (ge t k) sfz) Zlc rfl (Zp hS _ hk hx) (hx.1) (ZT (Zi hx (hO' _ (mo 0 rfl))) (ZT (Zi hx (hO' _ (mo 1 rfl))) Zy)) (Za (hl.D 5 32 rfl rfl) (Za (hl.D 6 33 rfl rfl) Zh)) (jo hJ hx)⟩
    exact oY rfl fun hk hx hl=>Zeu Zbi ZjN rfl rfl (hl.D 7 34 rfl rfl) (Zp hS _ hk hx _ (Nat.le_refl _)) (jo hJ hx)
    exact Zn rfl
    exact oX rfl fun hx hl=>ZA rfl (hl.D 0 27 rfl rfl) hx
    exact oX rfl fun hx hl=>Zw XL rfl (hl.D 10 37 rfl rfl) hx
    exact Zn rfl
    case e7_1_0=>exact⟨_,rfl,rfl,rfl,rfl,fun _ _ w hk hx hl _=>ZB (Qp (f:=itC) ys ([(Yn f L (ge t k))]) (fun _=>rfl) Zf9 hJ hJ0 rfl hk hx (hl.D 4 31 rfl rfl).lit (hl.D 8 35 rfl rfl) sfz sfz) fun v w' hp=>⟨v,rfl,fun k' hk'=>absurd hk' (Nat.not_lt_zero _),fun _=>rfl,hp⟩⟩
    case e7_1_1=>exact⟨_,rfl,rfl,rfl,rfl,fun g _ w hk hx hl hs=>ZB (ZgQ (off:=12) (cs:=(mkR d f M wv vs vt n kn y1 y2)) (es:=(mkR d f M g vs vt n kn y1 y2)) (c:=.lit g) hJ hJ0 Zer rfl hk hx (hl.D 11 38 rfl rfl) (by rw[(hs 0 9 _ 36 (by omega) rfl rfl rfl)];exact Rel.of_lit _ (Zan (hx.2.1 _ (mo 0 rfl)))) (lb rfl) rfl) fun v w' hp=>⟨g,rfl,fun _ _=>rfl,fun e=>(by cases e),hp⟩⟩
    clear a w h
    intro v3
    dsimp only[List.map]
    refine nx (Yu tb hJ [0,1,2,1001] [.int (k+1:Nat),_] [0] U4 rfl ⟨Ya,trivial⟩ ?_)
    refine kw pm2 ?_
    refine kw pm1 ?_
    refine kw pm2 ?_
    exact YH (k+1,ys++[Yn f L (ge t k)],v3) [0,1,2,3] ⟨by omega,by rw[Q9 hb3,f1_2]⟩
   ·
    try simp at hb3
    refine Zt (nx (Ze (outAk ?_)))
    exact fun a w h=>lvP (Qo  ⟨(wv,ys),by first | (rw[f1_2,ZF (by omega)];exact ZfG hb1 (by omega)) | exact Zkb (ys:=ys) hb1 z4.2 hb4 r1_ h9 (by omega)⟩ rfl h rfl)
 ·
  try simp at hb1
  refine Zb (nxA ?_)
  refine Zcm (m:=5) ?_
  refine ZE (snK 1 tb rfl ?_)
  refine Qk (O:=[]) (R:=(OB.var b (mkR d f M vi vs vt n kn y1 y2)::OB.row vi 106 4 (([]:List Itm).map itC)::OB.mI M L::R)) (Zuz hJ t sfz sfz sfz) ZsG rfl rfl rfl (lb rfl) hS hJ0 Zy (fun a w h=>(Za (h.get 0 rfl) Zh)) (fun k5=>?_) fun z4=>?_
  ·
   refine Zn4 ?_
   exact fun a w h=>pnP (⟨(k5.1,vi,([]:List Itm)),by show YW f L t=Except.error k5.1;rw[k5.2.2];exact Zum hb1 k5.2.1⟩: {q:Int×Value×List Itm // YW f L t= .error q.1}) rfl a w h
  refine snK 3 tb rfl ?_
  refine Z4 ZmP hJ rfl rfl rfl (lb rfl) fun b6=>?_
  refine Yc (b:=b6) (off:=0) (es:=[_]) hJ hJ0 Zho rfl rfl rfl (lb rfl) rfl (fun a w h=>⟨(h.get 0 rfl),(h.get 2 rfl)⟩) ?_
  refine snK 1 tb rfl ?_
  refine kw (fun h=>YO hS h (m:=1) (s:=6) rfl) ?_
  refine seK [0,1,3,8] U4 rfl ?_
  refine nxA ?_
  refine lnA 2 fun hl2=>?_
  refine Zcm (m:=5) ?_
  refine Yu tb hJ [0,1,3,1001] [.fn 107 [.ptr [.lit (.pointer (some ⟨b,0,none⟩))]],_] [0] U4 rfl ⟨fun _ _ _ hx hl _=>XR (caps:=[(.tmp 2)]) rfl (Za (hl.env 3 2 _ rfl rfl) Zh) hx,trivial⟩ ?_
  refine nxA ?_
  refine Zcm (m:=5) ?_
  refine ZG tb hJ [0,1,2,1006] [_,.bool (Qw z4.1.1),_,_,_,.bool (z4.1.1.any (fun s'=>f.hyps.any fun h'=>decide (h'.label=s'))),_] [1,5] U4 rfl ⟨iFo hS hJ (Zut hJ z4.1.1) ZsD,fun _ _ hk hx hl hc=>Xq (YY hJ z4.1.1 107 [.ptr [.lit (.pointer (some ⟨b,0,none⟩))]] [OB.var b (mkR d f M vi vs vt n kn y1 y2)] (fun s'=>f.hyps.any fun h'=>decide (h'.label=s')) (fun q'=>Zux hJ b d f M vi vs vt n kn y1 y2 q') (ZsF)) Ze6 rfl (Zp hS _ hk hx) (hx.1) (ZT (Zi hx (mo 0 rfl)) Zy) (Za (hl.D 3 49 rfl hc) (Za (hl.D 4 50 rfl hc) Zh)) (jo hJ hx),trivial⟩ ?_
  refine cj 3 (fun hb4=>?_) fun hb4=>?_
  ·
   refine ZE (Qk (O:=[]) (R:=(OB.var b (mkR d f M vi vs vt n kn y1 y2)::OB.row vi 106 4 (([]:List Itm).map itC)::OB.mI M L::R)) (QO hJ (c:=(20:Int)) ) Y9 rfl rfl rfl (lb rfl) hS hJ0 Zy (fun a w h=>(Za (Rel.of_lit (.int .i64 20)) Zh)) (fun _=>?_) (fun i=>i.elim))
   refine Zn4 ?_
   exact fun a w h=>pnP (⟨(20,vi,([]:List Itm)),Zqu hb1 z4.2 hb4⟩: {q:Int×Value×List Itm // YW f L t= .error q.1}) rfl a w h
  ·
   refine Zb (nxA ?_)
   refine Zcm (m:=5) ?_
   refine ZE (snK 1 tb rfl ?_)
   refine sy (.at b 0) (fun h=>ZA rfl (h.get 0 rfl) h.x) ?_
   refine sy (.at b 3) (fun h=>Zw Zag rfl (h.get 0 rfl) h.x) ?_
   refine sy (.at b 5) (fun h=>Zw Zai rfl (h.get 0 rfl) h.x) ?_
   refine sy (.rd (Xm f.hyps)) (fun h=>Zz ZdK rfl (Zi h.x (mo 0 rfl)) (h.get 0 rfl) rfl h.x) ?_
   refine sy (.int (f.hyps.length:Nat)) (fun h=>ZaD Zx rfl (h.get 0 rfl) h.x) ?_
   refine Z4 ZjU hJ rfl rfl rfl (lb rfl) fun b9=>?_
   refine Z4 ZjU hJ rfl rfl rfl (lb rfl) fun b10=>?_
   refine kw pm1 ?_
   refine Yc (b:=b9) (off:=0) (es:=[_]) hJ hJ0 ZbY rfl rfl rfl (lb rfl) rfl (fun a w h=>⟨(h.get 1 rfl),(h.get 2 rfl)⟩) ?_
   refine kw pm1 ?_
   refine Yc (b:=b10) (off:=0) (es:=[_]) hJ hJ0 ZbY rfl rfl rfl (lb rfl) rfl (fun a w h=>⟨(h.get 0 rfl),(Rel.of_lit (.int .i64 0))⟩) ?_
   refine kw pm1 ?_
   refine kw (fun h=>YO hS h (m:=1) (s:=9) rfl) ?_
   refine seK [0,1,3,8,9,10] U6 rfl ?_
   refine nxA ?_
   refine lnA 2 fun hl3=>?_
   refine a_seq ?_
   refine Zcm (m:=5) ?_
   refine Yu tb hJ [0,1,3,5,1001] [_,.fn 144 [.ptr [lS z4.1.2]]] [1] U5 rfl ⟨iFo hS hJ (ZnU hJ z4.1.2) ZsC,trivial⟩ ?_
   refine nxA ?_
   refine ZpQ ?_
   refine atw (fun h=>ZcJ (p:=(Y8 f L z4.1.1 ([]:List Lt) 0=some ([]:List Itm))∧(0=tgN ([]:List Lt))∧(([]:List Itm).length=([]:List Lt).length)) (⟨rfl,rfl,rfl⟩) h) ?_
   refine Znw (m:=5) (κ:=Value×(List Itm)×Nat) (μ:= {q:Int×Value×List Itm // YW f L t= .error q.1}) (σ:=Empty) (ZlQ hJ z4.1.2 (by first | omega | (have:=ZfK z4.2;omega))) Zsf hJ hS hJ0 Zy (fun pre (wv,ys,tg)=>[OB.fct ((Y8 f L z4.1.1 pre 0=some ys)∧(tg=tgN pre)∧(ys.length=pre.length)),OB.var b10 [lI (tg:Int)],OB.var b (mkR d f M wv vs vt n kn y1 y2),OB.row wv 106 4 (ys.map itC),OB.mI M L]) (fun q': {q:Int×Value×List Itm // YW f L t= .error q.1}=>flV q'.1.1) (fun q'=>[OB.var b (mkC d f [.lit (.map (some M)),.lit (q'.1.2.1),.lit vs,.lit vt,lI (n:Int),lB kn,lI y1,lI y2]),OB.row q'.1.2.1 106 4 ((q'.1.2.2).map itC),OB.mI M L]) (fun s'=>[]) (vi,([]:List Itm),0) (fun x9=>.agg (ltC x9)) (fun x9=>[(11,.ptr (ltC x9)),(9,.ptr [lI (f.hyps.length:Int)]),(10,.at b10 0),(6,.ptr [Zg z4.1.1]),(2,.ptr [.lit (.pointer (some ⟨b,0,none⟩))])]) (lb rfl) Tryz.func56 (fun _ _ _ _=>Zuk) ?_ ?_ ?_ ?_ ?_ ?_ ?_
   · exact fun a w h=>Znr (h.get 4 rfl)
   ·
    rintro m9 l9 R' pre x9 ⟨wv,ys,tg⟩ K9 hK9
    refine ZE (XZ (cs:=ltC x9) ZmM rfl rfl rfl (lb rfl) rfl rfl rfl (by decide) (m:=0) rfl rfl (fun a w h=>Zp hS _ h.keep h.x _ (Nat.le_refl _)) (fun a w h w' hk'=>Yz hJ _ _ hk' h.x) ?_)
    refine seK [0,2,3,4,5] U5 rfl ?_
    exact hK9
   ·
    rintro m9 l9 R' pre x9 ⟨wv,ys,tg⟩ hpre
    refine Zs7 fun hF=>?_
    obtain⟨r1_,r2_,r3_⟩:=hF
    have e0:=QJ _ _ 0 false (Nat.le_refl _) (Int.le_refl _) x9 (ZnJ hpre).1
    have e1:=ZfK z4.2
    have e2:=ZeD _ z4.1.2.data.toList 0 false (Nat.le_refl _)
    have e3:pre.length<z4.1.2.size:=Nat.lt_of_lt_of_le (ZnJ hpre).2 e2
    have e4:tg≤pre.length:=by rw[r2_];exact List.length_filter_le _ _
    refine Zc (tsq ?_)
    refine Z4 Zba hJ rfl rfl rfl (lb rfl) fun b11=>?_
    refine seK (r6 []) U6 rfl ?_
    refine nx (Zf (qso tb hJ (r6 [1002]) U3 U7 ?_))
    refine jnoK (ι:=Itm) (fun q4=>(Q2 f L z4.1.1 tg x9=some ⟨q4.kind,q4.text,q4.number,x9.tagged⟩)) (fun q4=>(OB.var b11 [lI q4.kind,Zg q4.text,lI q4.number,lB q4.tagged]::OB.var b10 [lI (tg:Int)]::OB.var b (mkR d f M wv vs vt n kn y1 y2)::OB.row wv 106 4 (ys.map itC)::OB.mI M L::R')) (fun _=>[(12,.at b11 0),(11,.ptr (ltC x9)),(9,.ptr [lI (f.hyps.length:Int)]),(10,.at b10 0),(6,.ptr [Zg z4.1.1]),(2,.ptr [.lit (.pointer (some ⟨b,0,none⟩))])]) ?_ ?_
    ·
     refine Zc (qso tb hJ (r7 [1002]) U3 U8 ?_)
     refine cj 7 (fun hb5=>?_) fun hb5=>?_
     ·
      try simp at hb5
      have e9:=item_0 (f:=f) (L:=L) (lb:=z4.1.1) (tg:=tg) hb5
      refine ZE (sq (.agg (itC (⟨(0:Int),[],0,false⟩:Itm))) rfl rfl (lb rfl) (fun a _ h=>Yh (ps:=[(0,a.eval (.const (.int .i64 0)))]) (us:=[a.eval (.const (.int .i64 0)),.slice none 0 0,.int .i64 0,.bool false]) QH rfl (by simp) (Zcy (lb rfl) rfl Zdd) rfl (Zk (Rel.of_lit (.int .i64 0)) (YB (.nil _ _ (Nat.zero_le _)) (YB (.lit _ True.intro) (YB (.lit _ True.intro) ZJ)))) h.x) ?_)
      refine ZD (b:=b11) (off:=0) (es:=U4) (news:=U4) hJ hJ0 XP rfl rfl rfl (lb rfl) rfl (fun a w h=>⟨(h.get 1 rfl),(h.get 0 rfl)⟩) ?_
      refine seK [1,2,3,4,5,6] U6 rfl ?_
      exact Zkz (⟨(0:Int),([]:List BA),(0:Int),false⟩:Itm) (r6 []) (show Q2 f L z4.1.1 tg x9=some ⟨(⟨(0:Int),([]:List BA),(0:Int),false⟩:Itm).kind,(⟨(0:Int),([]:List BA),(0:Int),false⟩:Itm).text,(⟨(0:Int),([]:List BA),(0:Int),false⟩:Itm).number,x9.tagged⟩from e9)
     ·
      try simp at hb5
      refine qso tb hJ (r7 [1003]) U4 U8 ?_
      refine cj 7 (fun hb6=>?_) fun hb6=>?_
      ·
       try simp at hb6
       have e9:=item_1 (L:=L) (lb:=z4.1.1) (tg:=tg) hb5 (by omega)
       refine ZE (snK 1 tb rfl ?_)
       refine sy (.at b 0) (fun h=>ZA rfl (h.get 0 rfl) h.x) ?_
       refine sy (.at b 3) (fun h=>Zw Zag rfl (h.get 0 rfl) h.x) ?_
       refine sy (.at b 5) (fun h=>Zw Zai rfl (h.get 0 rfl) h.x) ?_
       refine sy (.rd (Xm f.hyps)) (fun h=>Zz ZdK rfl (Zi h.x (mo 2 rfl)) (h.get 0 rfl) rfl h.x) ?_
       refine snK 1 tb rfl ?_
       refine sy (.int (x9.number-(1:Int))) (fun h=>Zcg (i:=x9.number) (j:=(1:Int)) rfl (h.get 0 rfl) (Rel.of_lit (.int .i64 1)) sfz sfz h.x) ?_
       refine sy (.ptr (hyC (ge f.hyps (x9.number-(1:Int)).toNat))) (fun h=>ZO (i:=x9.number-(1:Int)) Zq rfl (h.get 2 rfl) (h.get 0 rfl) sfz (Zdq (xs:=f.hyps) (i:=x9.number-(1:Int)) sfz sfz) rfl h.x) ?_
       refine snK 2 tb rfl ?_
       refine sq (.agg (itC (⟨(1:Int),(ge f.hyps (x9.number-(1:Int)).toNat).text,0,false⟩:Itm))) rfl rfl (lb rfl) (fun a _ h=>Yh (ps:=[(0,a.eval (.const (.int .i64 1))),(1,a.eval (.tmp 83))]) (us:=[a.eval (.const (.int .i64 1)),a.eval (.tmp 83),.int .i64 0,.bool false]) QH rfl (by simp) (Zcy (lb rfl) rfl (Zcy (lb rfl) (Rel.oneC (h.get 0 rfl)) Zdd)) rfl (Zk (Rel.of_lit (.int .i64 1)) (Zk (h.get 0 rfl) (YB (.lit _ True.intro) (YB (.lit _ True.intro) ZJ)))) h.x) ?_
       refine ZD (b:=b11) (off:=0) (es:=U4) (news:=U4) hJ hJ0 XP rfl rfl rfl (lb rfl) rfl (fun a w h=>⟨(h.get 11 rfl),(h.get 0 rfl)⟩) ?_
       refine seK [1,11,12,13,14,15,16] U7 rfl ?_
       exact Zkz (⟨(1:Int),(ge f.hyps (x9.number-(1:Int)).toNat).text,(0:Int),false⟩:Itm) [1,2,3,4,5,6] (show Q2 f L z4.1.1 tg x9=some ⟨(⟨(1:Int),(ge f.hyps (x9.number-(1:Int)).toNat).text,(0:Int),false⟩:Itm).kind,(⟨(1:Int),(ge f.hyps (x9.number-(1:Int)).toNat).text,(0:Int),false⟩:Itm).text,(⟨(1:Int),(ge f.hyps (x9.number-(1:Int)).toNat).text,(0:Int),false⟩:Itm).number,x9.tagged⟩from e9)
      ·
       try simp at hb6
       refine ZG tb hJ (r7 [1006]) [_,_,_,.int (z4.1.1.length:Nat),.int (f.hyps.length+z4.1.1.length:Nat),_,_] [3,4] U8 rfl ⟨Z2 Zm,Ya,trivial⟩ ?_
       refine cj 7 (fun hb7=>?_) fun hb7=>?_
       ·
        try simp at hb7
        have e9:=item_2 (f:=f) (L:=L) (lb:=z4.1.1) (tg:=tg) hb5 (by omega) (by omega)
        refine fun a w h=>Y0 (γ:=Unit) (fun ix'=>([.at b 0,.rd (Zg z4.1.1),.int x9.number,.int (x9.number-(1:Int)),.int (f.hyps.length:Nat),.int (x9.number-(1:Int)-(f.hyps.length:Int)),.ptr [lS (ge z4.1.1 (x9.number-(1:Int)-(f.hyps.length:Int)).toNat)],.str (ge z4.1.1 (x9.number-(1:Int)-(f.hyps.length:Int)).toNat),.agg (itC (nmE f L z4.1.1 x9)),.any]:List AV).getD ix' .any) (fun _=>true) [(12,fun(g:Unit)=>.at b11 0),(11,fun(g:Unit)=>.ptr (ltC x9)),(9,fun(g:Unit)=>.ptr [lI (f.hyps.length:Int)]),(10,fun(g:Unit)=>.at b10 0),(6,fun(g:Unit)=>.ptr [Zg z4.1.1]),(2,fun(g:Unit)=>.ptr [.lit (.pointer (some ⟨b,0,none⟩))])] (fun(j':Nat) (g:Unit)=>match j' with | 0=>(OB.var b11 [lI 0,Zg ([]:List BA),lI 0,lB false]::OB.var b10 [lI (tg:Int)]::OB.var b (mkR d f M wv vs vt n kn y1 y2)::OB.row wv 106 4 (ys.map itC)::OB.mI M L::R') | _=>(OB.var b11 [lI ((nmE f L z4.1.1 x9).kind),Zg ((nmE f L z4.1.1 x9).text),lI ((nmE f L z4.1.1 x9).number),lB ((nmE f L z4.1.1 x9).tagged)]::OB.var b10 [lI (tg:Int)]::OB.var b (mkR d f M wv vs vt n kn y1 y2)::OB.row wv 106 4 (ys.map itC)::OB.mI M L::R')) (fun(k':Nat) (g:Unit)=>match k' with | 0=>undef | _=>undef) [9] 0 () (fun _=>rfl) h hJ YC rfl rfl rfl rfl rfl rfl hsb ⟨?_,⟨?_,⟨?_,⟨?_,⟨?_,⟨?_,⟨?_,⟨?_,⟨?_,⟨?_,trivial⟩⟩⟩⟩⟩⟩⟩⟩⟩⟩ ⟨?e24_2_0,trivial⟩ ⟨.old 0 12 _ rfl rfl,⟨.old 1 11 _ rfl rfl,⟨.old 2 9 _ rfl rfl,⟨.old 3 10 _ rfl rfl,⟨.old 4 6 _ rfl rfl,⟨.old 5 2 _ rfl rfl,trivial⟩⟩⟩⟩⟩⟩ ?n24_2
        exact oX rfl fun hx hl=>ZI Xi rfl (hl.env 5 2 _ rfl rfl) hx
        exact oX rfl fun hx hl=>ZI XI rfl (hl.env 4 6 _ rfl rfl) hx
        exact oX rfl fun hx hl=>Z5 rfl (hl.env 6 13 _ rfl rfl) hx
        exact oX rfl fun hx hl=>Zcg (i:=x9.number) (j:=(1:Int)) rfl (hl.D 2 94 rfl rfl) (Rel.of_lit (.int .i64 1)) sfz sfz hx
        exact oX rfl fun hx hl=>ZI ZaW rfl (hl.env 2 9 _ rfl rfl) hx
        exact oX rfl fun hx hl=>Zcg (i:=x9.number-(1:Int)) (j:=(f.hyps.length:Int)) rfl (hl.D 3 95 rfl rfl) (hl.D 4 96 rfl rfl) sfz sfz hx
        exact oX rfl fun hx hl=>ZO (i:=x9.number-(1:Int)-(f.hyps.length:Int)) Zd rfl (hl.D 1 93 rfl rfl) (hl.D 5 97 rfl rfl) sfz (Zdq (xs:=z4.1.1) (i:=x9.number-(1:Int)-(f.hyps.length:Int)) sfz sfz) rfl hx
        exact oX rfl fun hx hl=>ZI QP rfl (hl.D 6 98 rfl rfl) hx
        exact fun _ O' hO'=>⟨rfl,fun _ _ hk hx hl _=>Xq (ZnS hJ b d f M L wv vs vt n kn y1 y2 (ge z4.1.1 (x9.number-(1:Int)-(f.hyps.length:Int)).toNat) sfz) Zlc rfl (Zp hS _ hk hx) (hx.1) (ZT (Zi hx (hO' _ (mo 2 rfl))) (ZT (Zi hx (hO' _ (mo 4 rfl))) Zy)) (Za (hl.D 0 92 rfl rfl) (Za (hl.D 7 99 rfl rfl) Zh)) (jo hJ hx)⟩
        exact Zn rfl
        case e24_2_0=>exact⟨_,rfl,rfl,rfl,rfl,fun g _ w hk hx hl _=>(by obtain⟨us2,hv2,hr3⟩:=Q0 (hl.D 8 100 rfl rfl);exact ZB (Xt (off:=0) (news:=U4) (es:=U4) (us:=us2) hJ hJ0 XP rfl hk hx (hl.env 0 12 _ rfl rfl) (by rw[hv2];rfl) hr3 (lb rfl) rfl) fun v w' hp=>⟨g,rfl,fun _ _=>rfl,fun e=>(by cases e),hp⟩)⟩
        clear a w h
        intro _
        dsimp only[List.map]
        exact Zkz (⟨(nmE f L z4.1.1 x9).kind,(nmE f L z4.1.1 x9).text,(nmE f L z4.1.1 x9).number,(nmE f L z4.1.1 x9).tagged⟩:Itm) (r6 []) (show Q2 f L z4.1.1 tg x9=some ⟨(⟨(nmE f L z4.1.1 x9).kind,(nmE f L z4.1.1 x9).text,(nmE f L z4.1.1 x9).number,(nmE f L z4.1.1 x9).tagged⟩:Itm).kind,(⟨(nmE f L z4.1.1 x9).kind,(nmE f L z4.1.1 x9).text,(nmE f L z4.1.1 x9).number,(nmE f L z4.1.1 x9).tagged⟩:Itm).text,(⟨(nmE f L z4.1.1 x9).kind,(nmE f L z4.1.1 x9).text,(nmE f L z4.1.1 x9).number,(nmE f L z4.1.1 x9).tagged⟩:Itm).number,x9.tagged⟩from e9)
       ·
        try simp at hb7
        refine ZG tb hJ (r7 [1008]) [_,_,_,.int (z4.1.1.length:Nat),.int (f.hyps.length+z4.1.1.length:Nat),.int (tg:Nat),.int (f.hyps.length+z4.1.1.length+tg:Nat),_,_] [3,4,5,6] U8 rfl ⟨Z2 Zm,Ya,fun _ _ _ hx hl _=>Zz ZaW rfl (Zi hx (mo 1 rfl)) (hl.env 3 10 _ rfl rfl) rfl hx,Ya,trivial⟩ ?_
        refine cj 7 (fun hb8=>?_) fun hb8=>?_
        ·
         try simp at hb8
         have e9:=item_4 (f:=f) (L:=L) (lb:=z4.1.1) (tg:=tg) hb5 (by omega) (by omega) (by omega)
         refine ZE (snK 1 tb rfl ?_)
         refine sy (.int (x9.number-(1:Int))) (fun h=>Zcg (i:=x9.number) (j:=(1:Int)) rfl (h.get 0 rfl) (Rel.of_lit (.int .i64 1)) sfz sfz h.x) ?_
         refine snK 1 tb rfl ?_
         refine sy (.int (x9.number-(1:Int)-(f.hyps.length:Int))) (fun h=>Zcg (i:=x9.number-(1:Int)) (j:=(f.hyps.length:Int)) rfl (h.get 1 rfl) (h.get 0 rfl) sfz sfz h.x) ?_
         refine snK 1 tb rfl ?_
         refine sy (.int (z4.1.1.length:Nat)) (fun h=>ZaD Zm rfl (h.get 0 rfl) h.x) ?_
         refine sy (.int (x9.number-(1:Int)-(f.hyps.length:Int)-(z4.1.1.length:Int))) (fun h=>Zcg (i:=x9.number-(1:Int)-(f.hyps.length:Int)) (j:=(z4.1.1.length:Int)) rfl (h.get 2 rfl) (h.get 0 rfl) sfz sfz h.x) ?_
         refine sq (.agg (itC (⟨(4:Int),[],x9.number-(1:Int)-(f.hyps.length:Int)-(z4.1.1.length:Int),false⟩:Itm))) rfl rfl (lb rfl) (fun a _ h=>Yh (ps:=[(0,a.eval (.const (.int .i64 4))),(2,a.eval (.tmp 116))]) (us:=[a.eval (.const (.int .i64 4)),.slice none 0 0,a.eval (.tmp 116),.bool false]) QH rfl (by simp) (Zcy (lb rfl) rfl (Zcy (lb rfl) (Rel.oneC (h.get 0 rfl)) Zdd)) rfl (Zk (Rel.of_lit (.int .i64 4)) (YB (.nil _ _ (Nat.zero_le _)) (Zk (h.get 0 rfl) (YB (.lit _ True.intro) ZJ)))) h.x) ?_
         refine ZD (b:=b11) (off:=0) (es:=U4) (news:=U4) hJ hJ0 XP rfl rfl rfl (lb rfl) rfl (fun a w h=>⟨(h.get 8 rfl),(h.get 0 rfl)⟩) ?_
         refine seK [8,9,10,11,12,13] U6 rfl ?_
         exact Zkz (⟨(4:Int),([]:List BA),x9.number-(1:Int)-(f.hyps.length:Int)-(z4.1.1.length:Int),false⟩:Itm) (r6 []) (show Q2 f L z4.1.1 tg x9=some ⟨(⟨(4:Int),([]:List BA),x9.number-(1:Int)-(f.hyps.length:Int)-(z4.1.1.length:Int),false⟩:Itm).kind,(⟨(4:Int),([]:List BA),x9.number-(1:Int)-(f.hyps.length:Int)-(z4.1.1.length:Int),false⟩:Itm).text,(⟨(4:Int),([]:List BA),x9.number-(1:Int)-(f.hyps.length:Int)-(z4.1.1.length:Int),false⟩:Itm).number,x9.tagged⟩from e9)
        ·
         try simp at hb8
         refine ZE (Qk (O:=[]) (R:=(OB.var b11 [lI 0,Zg ([]:List BA),lI 0,lB false]::OB.var b10 [lI (tg:Int)]::OB.var b (mkR d f M wv vs vt n kn y1 y2)::OB.row wv 106 4 (ys.map itC)::OB.mI M L::R')) (QO hJ (c:=(21:Int)) ) Y9 rfl rfl rfl (lb rfl) hS hJ0 Zy (fun a w h=>(Za (Rel.of_lit (.int .i64 21)) Zh)) (fun _=>?_) (fun i=>i.elim))
         refine kw ZM ?_
         refine kw ZM ?_
         exact fun a w h=>⟨(⟨(21,wv,ys),Zqv hb1 z4.2 hb4 (ZoA hpre r1_ (by rw[←r2_];exact Zu4 hb5 (by omega) (by omega) (by omega)))⟩: {q:Int×Value×List Itm // YW f L t= .error q.1}),rfl,h.defs,h.keep,h.x⟩
    ·
     rintro q4 hF
     have g4_1:Q2 f L z4.1.1 tg x9=some ⟨q4.kind,q4.text,q4.number,x9.tagged⟩:=hF
     have e9:=g4_1
     refine Zf (tsq ?_)
     refine snK 2 tb rfl ?_
     refine sy (.at b11 3) (fun h=>Zw Zct rfl (h.get 2 rfl) h.x) ?_
     refine Yc (b:=b11) (off:=3) (es:=U4) hJ hJ0 ZaA rfl rfl rfl (lb rfl) rfl (fun a w h=>⟨(h.get 0 rfl),(h.get 1 rfl)⟩) ?_
     refine seK [3,5,6,7,8] U5 rfl ?_
     refine nx (ZG tb hJ (r5 [1001]) [.at b11 3,.bool x9.tagged] [0,1] U6 rfl ⟨fun _ _ _ hx hl _=>Zw Zct rfl (hl.env 0 12 _ rfl rfl) hx,fun _ _ _ hx hl _=>Zz Zn9 rfl (Zi hx (mo 0 rfl)) (hl.D 0 121 rfl rfl) rfl hx,trivial⟩ ?_)
     refine jnoK (ι:=Nat) (fun tg2=>(tg2=tgN (pre++[x9]))) (fun tg2=>(OB.var b11 [lI q4.kind,Zg q4.text,lI q4.number,lB x9.tagged]::OB.var b10 [lI (tg2:Int)]::OB.var b (mkR d f M wv vs vt n kn y1 y2)::OB.row wv 106 4 (ys.map itC)::OB.mI M L::R')) (fun _=>[(12,.at b11 0),(9,.ptr [lI (f.hyps.length:Int)]),(10,.at b10 0),(6,.ptr [Zg z4.1.1]),(2,.ptr [.lit (.pointer (some ⟨b,0,none⟩))])]) ?_ ?_
     ·
      refine cj 5 (fun hb9=>?_) fun hb9=>?_
      ·
       try simp at hb9
       refine ZE (sq (.int (tg:Nat)) rfl rfl (lb rfl) (fun _ _ h=>Zz ZaW rfl (Zi h.x (mo 1 rfl)) (h.get 2 rfl) rfl h.x) ?_)
       refine sy (.int (tg+1:Nat)) (fun h=>Zfo (i:=(tg:Int)) (j:=(1:Int)) rfl (h.get 0 rfl) (Rel.of_lit (.int .i64 1)) sfz sfz h.x) ?_
       refine kw pm1 ?_
       refine Yc (b:=b10) (off:=0) (es:=[_]) hJ hJ0 ZbY rfl rfl rfl (lb rfl) rfl (fun a w h=>⟨(h.get 4 rfl),(h.get 0 rfl)⟩) ?_
       refine seK [2,3,4,5,6] U5 rfl ?_
       refine kw pm4 ?_
       refine kw pm4 ?_
       refine kw pm4 ?_
       refine kw pm3 ?_
       refine kw pm4 ?_
       exact Zkz (tg+1) (r5 []) (show(tg+1)=tgN (pre++[x9])from by rw[ZjY,r2_];simp[hb9])
      ·
       try simp at hb9
       exact Zb (Zkz tg (r5 []) (show tg=tgN (pre++[x9])from by rw[ZjY,r2_];simp[hb9]))
     ·
      rintro tg2 hF
      have g9_1:tg2=tgN (pre++[x9]):=hF
      refine tw pm2 ?_
      refine tw pm3 ?_
      refine fun a w h=>X1 (OB.var b (mkR d f M wv vs vt n kn y1 y2)::OB.var b11 [lI q4.kind,Zg q4.text,lI q4.number,lB x9.tagged]::OB.var b10 [lI (tg2:Int)]::OB.mI M L::R') (γ:=Value) (fun ix'=>([.at b 0,.at b 0,.at b 0,.at b 12,.lit wv,.agg (itC (⟨q4.kind,q4.text,q4.number,x9.tagged⟩:Itm)),.rd (QF ([(⟨q4.kind,q4.text,q4.number,x9.tagged⟩:Itm)])),.any,.at b 0,.at b 12,.any]:List AV).getD ix' .any) (fun _=>true) [(9,fun(g:Value)=>.ptr [lI (f.hyps.length:Int)]),(10,fun(g:Value)=>.at b10 0),(6,fun(g:Value)=>.ptr [Zg z4.1.1]),(2,fun(g:Value)=>.ptr [.lit (.pointer (some ⟨b,0,none⟩))])] (fun(j':Nat) (g:Value)=>match j' with | 0=>(OB.row wv 106 4 (ys.map itC)::OB.var b (mkR d f M wv vs vt n kn y1 y2)::OB.var b11 [lI q4.kind,Zg q4.text,lI q4.number,lB x9.tagged]::OB.var b10 [lI (tg2:Int)]::OB.mI M L::R') | 1=>(OB.row g 106 4 ((ys++([(⟨q4.kind,q4.text,q4.number,x9.tagged⟩:Itm)])).map itC)::OB.var b (mkR d f M wv vs vt n kn y1 y2)::OB.var b11 [lI q4.kind,Zg q4.text,lI q4.number,lB x9.tagged]::OB.var b10 [lI (tg2:Int)]::OB.mI M L::R') | _=>(OB.row g 106 4 ((ys++([(⟨q4.kind,q4.text,q4.number,x9.tagged⟩:Itm)])).map itC)::OB.var b (mkR d f M g vs vt n kn y1 y2)::OB.var b11 [lI q4.kind,Zg q4.text,lI q4.number,lB x9.tagged]::OB.var b10 [lI (tg2:Int)]::OB.mI M L::R')) (fun(k':Nat) (g:Value)=>match k' with | 0=>g | 1=>undef | _=>undef) [7,10] 1 (.slice none 0 0) (fun _=>rfl) h hJ YC rfl rfl rfl rfl rfl rfl hsb ⟨?_,⟨?_,⟨?_,⟨?_,⟨?_,⟨?_,⟨?_,⟨?_,⟨?_,⟨?_,⟨?_,trivial⟩⟩⟩⟩⟩⟩⟩⟩⟩⟩⟩ ⟨?e30_3_0,⟨?e30_3_1,trivial⟩⟩ ⟨.old 1 9 _ rfl rfl,⟨.old 2 10 _ rfl rfl,⟨.old 3 6 _ rfl rfl,⟨.old 4 2 _ rfl rfl,trivial⟩⟩⟩⟩ ?n30_3
      exact oX rfl fun hx hl=>ZI Xi rfl (hl.env 4 2 _ rfl rfl) hx
      exact oX rfl fun hx hl=>ZI Xi rfl (hl.env 4 2 _ rfl rfl) hx
      exact oX rfl fun hx hl=>ZA rfl (hl.D 1 126 rfl rfl) hx
      exact oX rfl fun hx hl=>Zw XL rfl (hl.D 2 127 rfl rfl) hx
      exact fun _ O' hO'=>⟨rfl,fun _ _ _ hx hl _=>Zz ZhT rfl (Zi hx (hO' _ (mo 0 rfl))) (hl.D 3 128 rfl rfl) rfl hx⟩
      exact fun _ O' hO'=>⟨rfl,fun _ _ _ hx hl _=>YP (ds:=[lI q4.kind,Zg q4.text,lI q4.number,lB x9.tagged]) Zay rfl (Zi hx (hO' _ (mo 1 rfl))) (hl.env 0 12 _ rfl rfl) rfl rfl hx⟩
      exact oY rfl fun hk hx hl=>Zeu Zbi ZjN rfl rfl (hl.D 5 130 rfl rfl) (Zp hS _ hk hx _ (Nat.le_refl _)) (jo hJ hx)
      exact Zn rfl
      exact oX rfl fun hx hl=>ZA rfl (hl.D 0 125 rfl rfl) hx
      exact oX rfl fun hx hl=>Zw XL rfl (hl.D 8 133 rfl rfl) hx
      exact Zn rfl
      case e30_3_0=>exact⟨_,rfl,rfl,rfl,rfl,fun _ _ w hk hx hl _=>ZB (Qp (f:=itC) ys ([(⟨q4.kind,q4.text,q4.number,x9.tagged⟩:Itm)]) (fun _=>rfl) Zf9 hJ hJ0 rfl hk hx (hl.D 4 129 rfl rfl).lit (hl.D 6 131 rfl rfl) sfz sfz) fun v w' hp=>⟨v,rfl,fun k' hk'=>absurd hk' (Nat.not_lt_zero _),fun _=>rfl,hp⟩⟩
      case e30_3_1=>exact⟨_,rfl,rfl,rfl,rfl,fun g _ w hk hx hl hs=>ZB (ZgQ (off:=12) (cs:=(mkR d f M wv vs vt n kn y1 y2)) (es:=(mkR d f M g vs vt n kn y1 y2)) (c:=.lit g) hJ hJ0 Zer rfl hk hx (hl.D 9 134 rfl rfl) (by rw[(hs 0 7 _ 132 (by omega) rfl rfl rfl)];exact Rel.of_lit _ (Zan (hx.2.1 _ (mo 0 rfl)))) (lb rfl) rfl) fun v w' hp=>⟨g,rfl,fun _ _=>rfl,fun e=>(by cases e),hp⟩⟩
      clear a w h
      intro v14
      dsimp only[List.map]
      refine kw pm2 ?_
      refine kw ZM ?_
      refine kw pm3 ?_
      refine kw pm1 ?_
      refine kw pm2 ?_
      refine kw pm3 ?_
      refine kw (fun h=>ZcJ (p:=(Y8 f L z4.1.1 (pre++[x9]) 0=some (ys++([(⟨q4.kind,q4.text,q4.number,x9.tagged⟩:Itm)])))∧(tg2=tgN (pre++[x9]))∧((ys++([(⟨q4.kind,q4.text,q4.number,x9.tagged⟩:Itm)])).length=(pre++[x9]).length)) (⟨ZlW r1_ (by rw[←r2_];exact e9),g9_1,by simp[r3_]⟩) h) ?_
      exact fun a w h=>⟨(v14,ys++([(⟨q4.kind,q4.text,q4.number,x9.tagged⟩:Itm)]),tg2),h.keep,h.x⟩
   ·
    rintro hfl ⟨wv,ys,tg⟩ D
    refine kw pm1 ?_
    refine Zm4 fun hF=>?_
    obtain⟨r1_,r2_,r3_⟩:=hF
    have h9:(Zj z4.1.2).2=false:=by cases h8:(Zj z4.1.2).2<;>simp_all
    refine nxAD (m:=5) ?_
    refine ZtB ?_
    refine Zo0 ?_
    refine snK 1 tb rfl ?_
    refine sy (.at b 0) (fun h=>ZA rfl (h.get 0 rfl) h.x) ?_
    refine sy (.at b 12) (fun h=>Zw XL rfl (h.get 0 rfl) h.x) ?_
    refine sy (.lit wv) (fun h=>Zz ZhT rfl (Zi h.x (mo 2 rfl)) (h.get 0 rfl) rfl h.x) ?_
    refine sy (.int (ys.length:Nat)) (fun h=>ZcN (by rw[List.length_map]) Zek rfl (Zi h.x (mo 3 rfl)) (h.get 0 rfl) h.x) ?_
    refine snK 1 tb rfl ?_
    refine seK [0] [_] rfl ?_
    refine nxD ?_
    refine d_cj 0 (fun hb10=>?_) fun hb10=>?_
    ·
     try simp at hb10
     refine Zo0 ?_
     refine Qk (O:=[]) (R:=(OB.dfr D::OB.var b10 [lI (tg:Int)]::OB.var b (mkR d f M wv vs vt n kn y1 y2)::OB.row wv 106 4 (ys.map itC)::OB.mI M L::R)) (QO hJ (c:=(10:Int)) ) Y9 rfl rfl rfl (lb rfl) hS hJ0 Zy (fun a w h=>(Za (Rel.of_lit (.int .i64 10)) Zh)) (fun _=>?_) (fun i=>i.elim)
     refine ZuP hJ hJ0 ?_
     refine kw ZM ?_
     exact fun a w h=>pnP (⟨(10,wv,ys),Znt hb1 z4.2 hb4 r1_ h9 (by omega)⟩: {q:Int×Value×List Itm // YW f L t= .error q.1}) rfl a w h
    ·
     try simp at hb10
     refine d_skip ?_
     refine outDn hJ hJ0 ?_
     refine kw ZM ?_
     exact fun a w h=>lvP (Qo  ⟨(wv,ys),by first | (rw[f1_2,ZF (by omega)];exact ZfG hb1 (by omega)) | exact Zkb (ys:=ys) hb1 z4.2 hb4 r1_ h9 (by omega)⟩ rfl h rfl)
   · exact fun s=>s.elim
   ·
    rintro v9 hfl ⟨wv,ys,tg⟩ D
    refine kw pm1 ?_
    refine Zm4 fun hF=>?_
    obtain⟨r1_,r2_,r3_⟩:=hF
    obtain⟨h9,rfl⟩:(Zj z4.1.2).2=true∧flV 21=v9:=by cases h8:(Zj z4.1.2).2<;>simp_all
    refine ZuP hJ hJ0 ?_
    refine kw ZM ?_
    exact fun a w h=>pnP (⟨(21,wv,ys),Znu hb1 z4.2 hb4 r1_ h9⟩: {q:Int×Value×List Itm // YW f L t= .error q.1}) rfl a w h
   ·
    rintro q' D
    refine ZuP hJ hJ0 ?_
    exact fun a w h=>pnP q' rfl a w h
theorem ZlP {J:World→Prop} (hJ:Stab J) (bm:Nat) (bt:Nat) (b:Nat) (d:Db) (f:Fr) (M:Nat) (L:List (BA×Int)) (vi:Value) (vs:Value) (vt:Value) (n:Nat) (kn:Bool) (y1:Int) (y2:Int) (t:List BA) (ht:∀ h∈f.hyps++f.dummies,h.text.length≤2000) (hh:f.hyps.length≤2000) (hn:t.length≤100000) (hs:ZaR t≤1000000000):FnP (ι:= {q':Value×List Itm // YW f L t= .ok q'.2}) (κ:= {q:Int×Value×List Itm // YW f L t= .error q.1}) Tryz.prog J 55 [] [.at bm 0,.at bt 0] [OB.var bm [.lit (.pointer (some ⟨b,0,none⟩))],OB.var bt [Zg t],OB.var b (mkR d f M vi vs vt n kn y1 y2),OB.row vi 106 4 (([]:List Itm).map itC),OB.mI M L] (fun _=>.tup []) (fun i'=>[OB.var bm [.lit (.pointer (some ⟨b,0,none⟩))],OB.var bt [Zg t],OB.var b (mkC d f [.lit (.map (some M)),.lit (i'.1.1),.lit vs,.lit vt,lI (n:Int),lB kn,lI y1,lI y2]),OB.row i'.1.1 106 4 ((i'.1.2).map itC),OB.mI M L]) (fun k'=>flV k'.1.1) (fun k'=>[OB.var bm [.lit (.pointer (some ⟨b,0,none⟩))],OB.var bt [Zg t],OB.var b (mkC d f [.lit (.map (some M)),.lit (k'.1.2.1),.lit vs,.lit vt,lI (n:Int),lB kn,lI y1,lI y2]),OB.row k'.1.2.1 106 4 ((k'.1.2.2).map itC),OB.mI M L]):=by
 refine QU (N:=5) Tryz.func55 rfl rfl (lb rfl) fun S w0 R hS hJ0 hH=>?_
 refine YA (B:=So J S w0 5 (OB.var bm [.lit (.pointer (some ⟨b,0,none⟩))]::OB.var bt [Zg t]::OB.var b (mkR d f M vi vs vt n kn y1 y2)::OB.row vi 106 4 (([]:List Itm).map itC)::OB.mI M L::R) [(0,.at bm 0),(1,.at bt 0)]) ?_ fun a w h=>h
 refine ZE (sq (.at b 0) rfl rfl (lb rfl) (fun _ _ h=>Zz Xi rfl (Zi h.x (mo 0 rfl)) (h.get 0 rfl) rfl h.x) ?_)
 refine sy (.rd (Zg t)) (fun h=>Zz XI rfl (Zi h.x (mo 1 rfl)) (h.get 2 rfl) rfl h.x) ?_
 refine kw pm1 ?_
 refine kw pm1 ?_
 refine kw pm4 ?_
 refine kw pm4 ?_
 refine kw pm4 ?_
 refine Qk (O:=[OB.var b (mkR d f M vi vs vt n kn y1 y2),OB.row vi 106 4 (([]:List Itm).map itC),OB.mI M L]) (R:=(OB.var bm [.lit (.pointer (some ⟨b,0,none⟩))]::OB.var bt [Zg t]::R)) (p_read hJ b d f M L vi vs vt n kn y1 y2 t sfz sfz sfz sfz) ZvQ rfl rfl rfl (lb rfl) hS hJ0 Zy (fun a w h=>(Za (h.get 1 rfl) (Za (h.get 0 rfl) Zh))) (fun k2=>?_) fun z1=>?_
 refine kw pm2 ?_
 refine kw pm2 ?_
 refine kw pm2 ?_
 refine kw pm4 ?_
 refine kw pm4 ?_
 exact fun a w h=>pnP (⟨(k2.1.1,k2.1.2.1,k2.1.2.2),k2.2⟩: {q:Int×Value×List Itm // YW f L t= .error q.1}) rfl a w h
 refine seK [1] [_] rfl ?_
 refine kw pm2 ?_
 refine kw pm2 ?_
 refine kw pm2 ?_
 refine kw pm4 ?_
 refine kw pm4 ?_
 exact fun a w h=>lvP (Qo  ⟨(z1.1.1,z1.1.2),z1.2⟩ rfl h rfl)
abbrev GR (f:Fr) (L:List (BA×Int)) (t:List BA):Type:= {q:Int×Value×List Itm // (q.1=0∧YW f L t= .ok q.2.2)∨(q.1≠0∧YW f L t= .error q.1)}
theorem Zqw {f:Fr} {L:List (BA×Int)} {t:List BA} {c:Int} (h:YW f L t= .error c):c≠0:=by
 unfold YW at h
 split at h
 · split at h
   · injection h with h;omega
   · cases h
 split at h
 · injection h with h;omega
 split at h
 · injection h with h;omega
 split at h
 · injection h with h;omega
 split at h
 · injection h with h;omega
 split at h
 · injection h with h;omega
 · cases h
theorem ZuF {J:World→Prop} (hJ:Stab J) (bm bt:Nat) (b:Nat) (d:Db) (f:Fr) (M:Nat) (L:List (BA×Int)) (vi:Value) (vs:Value) (vt:Value) (n:Nat) (kn:Bool) (y1:Int) (y2:Int) (t:List BA) (ht:∀ h∈f.hyps++f.dummies,h.text.length≤2000) (hh:f.hyps.length≤2000) (hn:t.length≤100000) (hs:ZaR t≤1000000000):
 FnM (ι:=(GR f L t)) Tryz.prog J 54 [] [.lit (.func (.func 55) #[] #[.pointer (some ⟨bm,0,none⟩),.pointer (some ⟨bt,0,none⟩)])] [OB.var bm [.lit (.pointer (some ⟨b,0,none⟩))],OB.var bt [Zg t],OB.var b (mkR d f M vi vs vt n kn y1 y2),OB.row vi 106 4 (([]:List Itm).map itC),OB.mI M L] (fun i'=>.int i'.1.1) (fun i'=>[OB.var bm [.lit (.pointer (some ⟨b,0,none⟩))],OB.var bt [Zg t],OB.var b (mkC d f [.lit (.map (some M)),.lit (i'.1.2.1),.lit vs,.lit vt,lI (n:Int),lB kn,lI y1,lI y2]),OB.row i'.1.2.1 106 4 ((i'.1.2.2).map itC),OB.mI M L]):=by
 have h4:=ZhH (F:=55) (caps:=[.pointer (some ⟨bm,0,none⟩),.pointer (some ⟨bt,0,none⟩)]) (pc:=fun k: {q:Int×Value×List Itm // YW f L t= .error q.1}=>k.1.1) hJ (ZlP hJ bm bt b d f M L vi vs vt n kn y1 y2 t ht hh hn hs) (Zs Tryz.func55 rfl rfl) (by intro v hv;simp at hv;rcases hv with rfl | rfl<;>exact True.intro)
 refine(h4.map (ι':=(GR f L t)) (fun r=>match r with | .inl i=>⟨(0,i.1),.inl ⟨rfl,i.2⟩⟩ | .inr k=>⟨k.1,.inr ⟨Zqw k.2,k.2⟩⟩) ?_ ?_)
 · rintro(i | k)<;>rfl
 · rintro(i | k)<;>rfl
theorem ZpJ:ZtO Tryz.prog 86:=fun x1 x2 x3 y1 y2 y3 y4 y5 y6 y7 y8 m=>by kernel_rfl
theorem ZnT {J:World→Prop} (hJ:Stab J) (d:Db) (n:Nat) (t:List BA) (hn:n<d.frames.length) (hfl:d.frames.length≤400) (ht:∀ h∈(ge d.frames n).hyps++(ge d.frames n).dummies,h.text.length≤2000) (hh:(ge d.frames n).hyps.length≤2000) (hl:t.length≤100000) (hs:ZaR t≤1000000000):FnM (ι:=Nat×Value×Value×Value) Tryz.prog J 40 [] [.agg (dbC d),.int (n:Nat),.rd (Zg t)] [] (fun i'=>.at (i'.1) 0) (fun i'=>[OB.var (i'.1) (mkC d (ge d.frames n) [.lit (i'.2.1),QF (Y3 d n t),.lit (i'.2.2.1),.lit (i'.2.2.2),lI (((X9 d n t).n:Nat):Int),lB ((X9 d n t).kn),lI ((X9 d n t).v.1),lI ((X9 d n t).v.2)]),OB.row i'.2.2.1 22 1 (((X9 d n t).sk).map Zr),OB.row i'.2.2.2 22 1 (((X9 d n t).tg).map Zr)]):=by
 refine Yt (N:=49) Tryz.func40 rfl rfl (lb rfl) fun S w0 R hS hJ0 hH=>?_
 refine YA (B:=So J S w0 49 (R) [(0,.agg (dbC d)),(1,.int (n:Nat)),(2,.rd (Zg t))]) ?_ fun a w h=>h
 refine ln 2 fun hl1=>?_
 obtain⟨ui,hui⟩:∃ v,v=Value.slice none 0 0:=⟨_,rfl⟩
 obtain⟨us,hus⟩:∃ v,v=Value.slice none 0 0:=⟨_,rfl⟩
 obtain⟨ut,hut⟩:∃ v,v=Value.slice none 0 0:=⟨_,rfl⟩
 refine tsq ?_
 refine sy (.ptr (dbC d)) (fun h=>Yq rfl (h.get 0 rfl) (Zp hS _ h.keep h.x _ (Nat.le_refl _)) (jo hJ h.x)) ?_
 refine Zna (c:=Zg t) hJ rfl rfl rfl (lb rfl) (fun a w h=>(h.get 3 rfl)) fun b1=>?_
 refine snK 1 tb rfl ?_
 refine seK [1,2,4] U3 rfl ?_
 refine nx (Zf (fun a w h=>Zqt (γ:=Nat×Value×Nat×Nat) (fun ix'=>([.agg (dbC d),.ptr [ZfP d.frames],.rd (ZfP d.frames),.int (n:Nat),.ptr (frC (ge d.frames n)),.agg (frC (ge d.frames n)),.any,.any,.any,.any,.any]:List AV).getD ix' .any) (fun _=>true) [(5,fun(g:Nat×Value×Nat×Nat)=>.at b1 0),(3,fun(g:Nat×Value×Nat×Nat)=>.ptr (dbC d)),(1,fun(g:Nat×Value×Nat×Nat)=>.int (n:Nat)),(7,fun(g:Nat×Value×Nat×Nat)=>.at g.2.2.2 0)] (fun(D:Nat→Bool) (g:Nat×Value×Nat×Nat)=>(if D 2 then [OB.var g.2.2.1 (mkC d (ge d.frames n) [.lit (.map (some g.1)),.lit (.slice none 0 0),.lit (.slice none 0 0),.lit (.slice none 0 0),lI (0:Int),lB false,lI (0:Int),lI (0:Int)])]else if D 1 then [ZtS (mkC d (ge d.frames n) [.lit (.map (some g.1)),.lit (.slice none 0 0),.lit (.slice none 0 0),.lit (.slice none 0 0),lI (0:Int),lB false,lI (0:Int),lI (0:Int)]) g.2.1]else [])++((if D 0 then [OB.mI g.1 []]else [])++((if D 4 then [OB.var g.2.2.2 [.lit (.pointer (some ⟨g.2.2.1,0,none⟩))]]else if D 3 then [OB.var g.2.2.2 [.lit (.pointer none)]]else [])++(OB.var b1 [Zg t]::R)))) (fun(k':Nat) (g:Nat×Value×Nat×Nat)=>match k' with | 0=>.map (some g.1) | 1=>g.2.1 | 2=>.pointer (some ⟨g.2.2.1,0,none⟩) | 3=>.pointer (some ⟨g.2.2.2,0,none⟩) | _=>undef) [6,7,8,9,10] (0,undef,0,0) (fun _=>rfl) h hJ YC rfl rfl rfl rfl (fun D g p hp=>List.mem_append_right _ (List.mem_append_right _ (List.mem_append_right _ hp))) ⟨?_,⟨?_,⟨?_,⟨?_,⟨?_,⟨?_,⟨?_,⟨?_,⟨?_,⟨?_,⟨?_,trivial⟩⟩⟩⟩⟩⟩⟩⟩⟩⟩⟩ ⟨?e0,⟨?e1,⟨?e2,⟨?e3,⟨?e4,trivial⟩⟩⟩⟩⟩ ⟨.old 0 5 _ rfl rfl,⟨.old 1 3 _ rfl rfl,⟨.old 2 1 _ rfl rfl,⟨.eff 3 9 7 (fun(g:Nat×Value×Nat×Nat)=>.pointer (some ⟨g.2.2.2,0,none⟩)) rfl rfl (fun _=>rfl) (fun _=>True.intro),trivial⟩⟩⟩⟩ ?n1))
 exact oX rfl fun hx hl=>Zao Zee rfl (hl.env 1 3 _ rfl rfl) (Nat.le_refl _) hx
 exact oX rfl fun hx hl=>ZQ QG rfl (hl.env 1 3 _ rfl rfl) hx
 exact oX rfl fun hx hl=>ZI Zey rfl (hl.D 1 11 rfl rfl) hx
 exact oX rfl fun hx hl=>Z5 rfl (hl.env 2 1 _ rfl rfl) hx
 exact oX rfl fun hx hl=>ZO (i:=(n:Int)) ZS rfl (hl.D 2 12 rfl rfl) (hl.D 3 13 rfl rfl) (Int.natCast_nonneg _) (ZU (xs:=d.frames) (k:=n) sfz) rfl hx
 exact oX rfl fun hx hl=>Zao Zhc rfl (hl.D 4 14 rfl rfl) (Nat.le_refl _) hx
 exact Zn rfl
 exact Zn rfl
 exact Zn rfl
 exact Zn rfl
 exact Zn rfl
 case e0=>
  refine⟨_,rfl,rfl,rfl,rfl,fun D g a w hD hpre hcl hk hx hl hs=>?_⟩
  have d0:=hD
  have d1:D 1=false:=by cases hq:D 1 with | false=>rfl | true=>exact absurd (hcl 1 0 7 6 rfl rfl hq (by decide)) (by simp[d0])
  have d2:D 2=false:=by cases hq:D 2 with | false=>rfl | true=>exact absurd (hcl 2 1 8 7 rfl rfl hq (by decide)) (by simp[d1])
  have d4:D 4=false:=by cases hq:D 4 with | false=>rfl | true=>exact absurd (hcl 4 2 10 8 rfl rfl hq (by decide)) (by simp[d2])
  simp only[ZlA,d0,d1,d2,d4,if_true,if_false,Bool.false_eq_true,List.nil_append,Nat.reduceEqDiff,List.cons_append]at hx hl ⊢
  exact ZB (d_map keyS (fun z':Int=>AV.int z') hJ rfl hk hx) fun v w' ⟨M',hv,hp⟩=>⟨(M',g.2),(fun k' hk'=>by rcases k' with _ | _ | _ | _ | k'<;>first | rfl | simp_all),fun _=>hv,hp⟩
 case e1=>
  refine⟨_,rfl,rfl,rfl,rfl,fun D g a w hD hpre hcl hk hx hl hs=>?_⟩
  have d1:=hD
  have d0:D 0=true:=hpre 0 6 rfl (by decide)
  have d2:D 2=false:=by cases hq:D 2 with | false=>rfl | true=>exact absurd (hcl 2 1 8 7 rfl rfl hq (by decide)) (by simp[d1])
  have d4:D 4=false:=by cases hq:D 4 with | false=>rfl | true=>exact absurd (hcl 4 2 10 8 rfl rfl hq (by decide)) (by simp[d2])
  simp only[ZlA,d0,d1,d2,d4,if_true,if_false,Bool.false_eq_true,List.nil_append,Nat.reduceEqDiff,List.cons_append]at hx hl ⊢
  exact ZB (ZrC (cs:=(mkC d (ge d.frames n) [.lit (.map (some g.1)),.lit (.slice none 0 0),.lit (.slice none 0 0),.lit (.slice none 0 0),lI (0:Int),lB false,lI (0:Int),lI (0:Int)])) hk (ZqI (d:=d) (f:=(ge d.frames n)) (m:=g.1) ZpJ rfl (hl.D 0 10 rfl rfl) (hl.D 5 15 rfl rfl) (hs 0 6 _ 16 d0 rfl rfl rfl) hx)) fun v w' hp=>⟨(g.1,v,g.2.2),(fun k' hk'=>by rcases k' with _ | _ | _ | _ | k'<;>first | rfl | simp_all),fun _=>rfl,hp⟩
 case e2=>
  refine⟨_,rfl,rfl,rfl,rfl,fun D g a w hD hpre hcl hk hx hl hs=>?_⟩
  have d2:=hD
  have d1:D 1=true:=hpre 1 7 rfl (by decide)
  have d0:D 0=true:=hpre 0 6 rfl (by decide)
  have d4:D 4=false:=by cases hq:D 4 with | false=>rfl | true=>exact absurd (hcl 4 2 10 8 rfl rfl hq (by decide)) (by simp[d2])
  simp only[ZlA,d0,d1,d2,d4,if_true,if_false,Bool.false_eq_true,List.nil_append,Nat.reduceEqDiff,List.cons_append]at hx hl ⊢
  exact ZB (d_boxW (cs:=(mkC d (ge d.frames n) [.lit (.map (some g.1)),.lit (.slice none 0 0),.lit (.slice none 0 0),.lit (.slice none 0 0),lI (0:Int),lB false,lI (0:Int),lI (0:Int)])) hJ rfl (hs 1 7 _ 17 d1 rfl rfl rfl) hk hx) fun v w' ⟨b',hv,hp⟩=>⟨(g.1,g.2.1,b',g.2.2.2),(fun k' hk'=>by rcases k' with _ | _ | _ | _ | k'<;>first | rfl | simp_all),fun _=>hv,hp⟩
 case e3=>
  refine⟨_,rfl,rfl,rfl,rfl,fun D g a w hD hpre hcl hk hx hl hs=>?_⟩
  have d3:=hD
  have d4:D 4=false:=by cases hq:D 4 with | false=>rfl | true=>exact absurd (hcl 4 3 10 9 rfl rfl hq (by decide)) (by simp[d3])
  simp only[ZlA,d3,d4,if_true,if_false,Bool.false_eq_true,List.nil_append,Nat.reduceEqDiff,List.cons_append]at hx hl ⊢
  simp only[←List.append_assoc]at hx ⊢
  exact ZB (Zbl ZmO hJ rfl hk hx) fun v w' ⟨b',hv,hp⟩=>⟨(g.1,g.2.1,g.2.2.1,b'),(fun k' hk'=>by rcases k' with _ | _ | _ | _ | k'<;>first | rfl | simp_all),fun _=>hv,Zeo (.refl _) perm_mid.symm hp⟩
 case e4=>
  refine⟨_,rfl,rfl,rfl,rfl,fun D g a w hD hpre hcl hk hx hl hs=>?_⟩
  have d4:=hD
  have d3:D 3=true:=hpre 3 9 rfl (by decide)
  have d2:D 2=true:=hpre 2 8 rfl (by decide)
  have d1:D 1=true:=hpre 1 7 rfl (by decide)
  have d0:D 0=true:=hpre 0 6 rfl (by decide)
  simp only[ZlA,d0,d1,d2,d3,d4,if_true,if_false,Bool.false_eq_true,List.nil_append,Nat.reduceEqDiff,List.cons_append]at hx hl ⊢
  refine ZB (Xt (S':=S) (off:=0) (news:=[_]) (es:=[_]) (us:=[.pointer (some ⟨g.2.2.1,0,none⟩)]) hJ hJ0 Zne rfl hk (YI perm_3 hx) (ZcM (hs 3 9 _ 7 d3 rfl rfl rfl)) (by rw[hs 2 8 _ 18 d2 rfl rfl rfl];rfl) ⟨.lit _ True.intro,trivial⟩ (lb rfl) rfl) fun v w' hp=>⟨g,fun _ _=>rfl,fun e=>(by cases e),Zeo perm_3.symm perm_3.symm hp⟩
 clear a w h
 rintro⟨m3,x5,b2,b4⟩
 dsimp only[List.map]
 refine kw (ob0 (show OB.var b2 (mkC d (ge d.frames n) [.lit (.map (some m3)),.lit (.slice none 0 0),.lit (.slice none 0 0),.lit (.slice none 0 0),lI (0:Int),lB false,lI (0:Int),lI (0:Int)])=OB.var b2 (mkC d (ge d.frames n) [.lit (.map (some m3)),.lit ui,.lit us,.lit ut,lI (0:Int),lB false,lI (0:Int),lI (0:Int)])from by rw[hui,hus,hut])) ?_
 refine kw (YV 106 4 hJ) ?_
 refine kw (ob0 (show OB.row (.slice none 0 0) 106 4 []=OB.row ui 106 4 (([]:List Itm).map itC)from by rw[hui];rfl)) ?_
 refine kw (YV 22 1 hJ) ?_
 refine kw (ob0 (show OB.row (.slice none 0 0) 22 1 []=OB.row us 22 1 (([]:List (List BA)).map Zr)from by rw[hus];rfl)) ?_
 refine kw (YV 22 1 hJ) ?_
 refine kw (ob0 (show OB.row (.slice none 0 0) 22 1 []=OB.row ut 22 1 (([]:List (List BA)).map Zr)from by rw[hut];rfl)) ?_
 refine nx (Zf (qso tb hJ [0,1,3,1000,1001] [_,_] U5 ?_))
 refine Zc (lpo (ι:=Nat×(List (BA×Int))) (fun(k,L)=>(k≤n)∧(L=Q8 (d.frames.take k))) (fun(_,L)=>(OB.row ut 22 1 (([]:List (List BA)).map Zr)::OB.row us 22 1 (([]:List (List BA)).map Zr)::OB.row ui 106 4 (([]:List Itm).map itC)::OB.var b2 (mkC d (ge d.frames n) [.lit (.map (some m3)),.lit ui,.lit us,.lit ut,lI (0:Int),lB false,lI (0:Int),lI (0:Int)])::OB.mI m3 L::OB.var b4 [.lit (.pointer (some ⟨b2,0,none⟩))]::OB.var b1 [Zg t]::R)) (fun(k,_)=>[(20,.int (k:Nat))]) (fun(k,_)=>n-k) (r5 []) U4 (0,([]:List (BA×Int))) ⟨Nat.zero_le _,namL_nil.symm⟩ ?_)
 rintro⟨k,L⟩ ⟨f1_1,f1_2⟩
 refine qso tb hJ (r5 [1000]) [_] U6 ?_
 refine cjS 5 (fun hb1=>?_) fun hb1=>?_
 ·
  try simp at hb1
  refine Zb (nx (Zf (Zc (qso tb hJ (r5 [1001]) [_,_] U6 ?_))))
  refine tw pm4 ?_
  refine fun a w h=>Y0 (γ:=Unit) (fun ix'=>([.at b2 0,.at b2 0,.at b2 11,.lit (.map (some m3)),.ptr [ZfP d.frames],.rd (ZfP d.frames),.int (k:Nat),.ptr (frC (ge d.frames k)),.ptr (frC (ge d.frames k)),.str ((ge d.frames k).label),.int (k:Nat),.any]:List AV).getD ix' .any) (fun _=>true) [(5,fun(g:Unit)=>.at b1 0),(3,fun(g:Unit)=>.ptr (dbC d)),(7,fun(g:Unit)=>.at b4 0),(19,fun(g:Unit)=>.int (n:Nat)),(20,fun(g:Unit)=>.int (k:Nat))] (fun(j':Nat) (g:Unit)=>match j' with | 0=>(OB.mI m3 L::OB.row ut 22 1 (([]:List (List BA)).map Zr)::OB.row us 22 1 (([]:List (List BA)).map Zr)::OB.row ui 106 4 (([]:List Itm).map itC)::OB.var b2 (mkC d (ge d.frames n) [.lit (.map (some m3)),.lit ui,.lit us,.lit ut,lI (0:Int),lB false,lI (0:Int),lI (0:Int)])::OB.var b4 [.lit (.pointer (some ⟨b2,0,none⟩))]::OB.var b1 [Zg t]::R) | _=>(OB.mI m3 (Za7 L ((ge d.frames k).label) (k:Int))::OB.row ut 22 1 (([]:List (List BA)).map Zr)::OB.row us 22 1 (([]:List (List BA)).map Zr)::OB.row ui 106 4 (([]:List Itm).map itC)::OB.var b2 (mkC d (ge d.frames n) [.lit (.map (some m3)),.lit ui,.lit us,.lit ut,lI (0:Int),lB false,lI (0:Int),lI (0:Int)])::OB.var b4 [.lit (.pointer (some ⟨b2,0,none⟩))]::OB.var b1 [Zg t]::R)) (fun(k':Nat) (g:Unit)=>match k' with | 0=>undef | _=>undef) [11] 0 () (fun _=>rfl) h hJ YC rfl rfl rfl rfl rfl rfl hsb ⟨?_,⟨?_,⟨?_,⟨?_,⟨?_,⟨?_,⟨?_,⟨?_,⟨?_,⟨?_,⟨?_,⟨?_,trivial⟩⟩⟩⟩⟩⟩⟩⟩⟩⟩⟩⟩ ⟨?e5_1_0,trivial⟩ ⟨.old 0 5 _ rfl rfl,⟨.old 1 3 _ rfl rfl,⟨.old 2 7 _ rfl rfl,⟨.old 3 19 _ rfl rfl,⟨.old 4 20 _ rfl rfl,trivial⟩⟩⟩⟩⟩ ?n5_1
  exact fun _ O' hO'=>⟨rfl,fun _ _ _ hx hl _=>Zz Xi rfl (Zi hx (hO' _ (mo 5 rfl))) (hl.env 2 7 _ rfl rfl) rfl hx⟩
  exact oX rfl fun hx hl=>ZA rfl (hl.D 0 23 rfl rfl) hx
  exact oX rfl fun hx hl=>Zw ZeR rfl (hl.D 1 24 rfl rfl) hx
  exact fun _ O' hO'=>⟨rfl,fun _ _ _ hx hl _=>Zz Ztt rfl (Zi hx (hO' _ (mo 4 rfl))) (hl.D 2 25 rfl rfl) rfl hx⟩
  exact oX rfl fun hx hl=>ZQ QG rfl (hl.env 1 3 _ rfl rfl) hx
  exact oX rfl fun hx hl=>ZI Zey rfl (hl.D 4 27 rfl rfl) hx
  exact oX rfl fun hx hl=>Z5 rfl (hl.env 5 8 _ rfl rfl) hx
  exact oX rfl fun hx hl=>ZO (i:=(k:Int)) ZS rfl (hl.D 5 28 rfl rfl) (hl.D 6 29 rfl rfl) (Int.natCast_nonneg _) (ZU (xs:=d.frames) (k:=k) sfz) rfl hx
  exact oX rfl fun hx hl=>ZQ Zdx rfl (hl.D 7 30 rfl rfl) hx
  exact oX rfl fun hx hl=>ZI QP rfl (hl.D 8 31 rfl rfl) hx
  exact oX rfl fun hx hl=>Z5 rfl (hl.env 5 8 _ rfl rfl) hx
  exact Zn rfl
  case e5_1_0=>exact⟨_,rfl,rfl,rfl,rfl,fun g _ w hk hx hl _=>ZB (Zo1 (f:=(fun z':Int=>AV.int z')) ZeC hJ hJ0 ((ge d.frames k).label) (k:Int) (.inl rfl) hk hx (hl.D 3 26 rfl rfl) (hl.D 9 32 rfl rfl) (hl.D 10 33 rfl rfl)) fun v w' ⟨_,hp⟩=>⟨g,rfl,fun _ _=>rfl,fun e=>(by cases e),hp⟩⟩
  clear a w h
  intro _
  dsimp only[List.map]
  refine nx (Yu tb hJ [0,1,2,3,1001] [.int (k+1:Nat),_] [0] U5 rfl ⟨Ya,trivial⟩ ?_)
  refine kw pm6 ?_
  refine kw pm6 ?_
  refine kw pm2 ?_
  refine kw pm6 ?_
  refine kw pm6 ?_
  refine kw pm6 ?_
  refine kw pm6 ?_
  exact YH (k+1,Za7 L ((ge d.frames k).label) (k:Int)) (r5 []) ⟨by omega,by rw[f1_2];exact(ZcT (by omega)).symm⟩
 ·
  try simp at hb1
  have hL:L=Q8 (d.frames.take n):=by rw[f1_2,show k=n by omega]
  refine Zt (nx (Zf (tsq ?_)))
  refine sy (.lit (.func (.func 55) #[] #[.pointer (some ⟨b4,0,none⟩),.pointer (some ⟨b1,0,none⟩)])) (fun h=>Zhy (caps:=[(.tmp 7),(.tmp 5)]) rfl (map_cons (h.get 2 rfl).lit (map_cons (h.get 0 rfl).lit map_nil)) h.x) ?_
  refine kw pm1 ?_
  refine kw pm1 ?_
  refine kw pm4 ?_
  refine kw pm3 ?_
  refine kw pm4 ?_
  refine kw pm6 ?_
  refine kw pm6 ?_
  refine X0 (O:=[OB.var b4 [.lit (.pointer (some ⟨b2,0,none⟩))],OB.var b1 [Zg t],OB.var b2 (mkC d (ge d.frames n) [.lit (.map (some m3)),.lit ui,.lit us,.lit ut,lI (0:Int),lB false,lI (0:Int),lI (0:Int)]),OB.row ui 106 4 (([]:List Itm).map itC),OB.mI m3 L]) (R:=(OB.row ut 22 1 (([]:List (List BA)).map Zr)::OB.row us 22 1 (([]:List (List BA)).map Zr)::R)) (ZuF hJ b4 b1 b2 d (ge d.frames n) m3 L ui us ut 0 false (0:Int) (0:Int) t (by exact ht) (by exact hh) (by exact hl) (by exact hs)) Zpn rfl rfl rfl (lb rfl) hS hJ0 Zy (fun a w h=>(Za (h.get 0 rfl) Zh)) fun z6=>?_
  refine snK 1 tb rfl ?_
  refine seK [0,5] [_,_] rfl ?_
  refine nx (qso tb hJ [0,1,1001] [_,_] U3 ?_)
  refine cj 2 (fun hb2=>?_) fun hb2=>?_
  ·
   try simp at hb2
   have e5:=ZuV (d:=d) (n:=n) (t:=t) (c:=z6.1.1) (by rcases z6.2 with h9 | h9;exact absurd h9.1 hb2;rw[←hL];exact h9.2)
   refine tsq ?_
   refine sy (.at b2 0) (fun h=>Zz Xi rfl (Zi h.x (mo 0 rfl)) (h.get 1 rfl) rfl h.x) ?_
   refine sy (.at b2 0) (fun h=>ZA rfl (h.get 0 rfl) h.x) ?_
   refine sy (.at b2 12) (fun h=>Zw XL rfl (h.get 0 rfl) h.x) ?_
   refine kw pm2 ?_
   refine Yc (b:=b2) (off:=12) (cs:=(mkC d (ge d.frames n) [.lit (.map (some m3)),.lit z6.1.2.1,.lit us,.lit ut,lI ((0:Nat):Int),lB false,lI (0:Int),lI (0:Int)])) (es:=(mkC d (ge d.frames n) [.lit (.map (some m3)),QF ([]:List Itm),.lit us,.lit ut,lI ((0:Nat):Int),lB false,lI (0:Int),lI (0:Int)])) hJ hJ0 Zer rfl rfl rfl (lb rfl) rfl (fun a w h=>⟨(h.get 0 rfl),(ZgB (Rel.of_lit (.slice none 0 0)))⟩) ?_
   refine seK [3,4] [_,_] rfl ?_
   refine nx (tsq ?_)
   refine sy (.at b2 0) (fun h=>Zz Xi rfl (Zi h.x (mo 1 rfl)) (h.get 1 rfl) rfl h.x) ?_
   refine snK 1 tb rfl ?_
   refine X0 (O:=[OB.var b2 (mkC d (ge d.frames n) [.lit (.map (some m3)),QF ([]:List Itm),.lit us,.lit ut,lI ((0:Nat):Int),lB false,lI (0:Int),lI (0:Int)])]) (R:=(OB.var b4 [.lit (.pointer (some ⟨b2,0,none⟩))]::OB.var b1 [Zg t]::OB.row z6.1.2.1 106 4 (z6.1.2.2.map itC)::OB.mI m3 L::OB.row ut 22 1 (([]:List (List BA)).map Zr)::OB.row us 22 1 (([]:List (List BA)).map Zr)::R)) (ZhG hJ b2 d (ge d.frames n) (.map (some m3)) ([]:List Itm) 0 us ut false (0:Int) (0:Int) z6.1.1 (0:Int)) Ze7 rfl rfl rfl (lb rfl) hS hJ0 Zy (fun a w h=>(Za (h.get 1 rfl) (Za (h.get 0 rfl) (Za (Rel.of_lit (.int .i64 0)) Zh)))) fun _=>?_
   refine seK [4] [_] rfl ?_
   refine nx (ZG tb hJ [1001] [.at b2 0,_] [0] [_] rfl ⟨fun _ _ _ hx hl _=>Zz Xi rfl (Zi hx (mo 1 rfl)) (hl.env 0 7 _ rfl rfl) rfl hx,trivial⟩ ?_)
   refine tw pm1 ?_
   refine tw ZM ?_
   refine tw pm1 ?_
   refine tw ZM ?_
   refine tw pm1 ?_
   refine tw ZM ?_
   refine tw pm1 ?_
   refine tw ZM ?_
   refine tw pm1 ?_
   refine tw pm2 ?_
   refine tw pm2 ?_
   refine tw (ob0 (show OB.var b2 (mkC d (ge d.frames n) [.lit (.map (some m3)),QF ([]:List Itm),.lit us,.lit ut,lI ((0:Nat):Int),lB true,lI z6.1.1,lI (0:Int)])=OB.var b2 (mkC d (ge d.frames n) [.lit (.map (some m3)),QF (Y3 d n t),.lit us,.lit ut,lI (((X9 d n t).n:Nat):Int),lB ((X9 d n t).kn),lI ((X9 d n t).v.1),lI ((X9 d n t).v.2)])from by first | (rw[e5.1,e5.2.2.2.1,e5.2.2.2.2.1,e5.2.2.2.2.2.1,e5.2.2.2.2.2.2];done) | (rw[e5.1,e5.2.2.2.1,e5.2.2.2.2.1,e5.2.2.2.2.2.1,e5.2.2.2.2.2.2];rfl) | (rw[e5.2.1]) | (rw[e5.2.2.1]))) ?_
   refine tw (ob1 (congrArg (fun z'=>OB.row us 22 1 ((z').map Zr)) (show([]:List (List BA))=((X9 d n t).sk)from by first | (rw[e5.1,e5.2.2.2.1,e5.2.2.2.2.1,e5.2.2.2.2.2.1,e5.2.2.2.2.2.2];done) | (rw[e5.1,e5.2.2.2.1,e5.2.2.2.2.1,e5.2.2.2.2.2.1,e5.2.2.2.2.2.2];rfl) | (rw[e5.2.1]) | (rw[e5.2.2.1])))) ?_
   refine tw (ob2 (congrArg (fun z'=>OB.row ut 22 1 ((z').map Zr)) (show([]:List (List BA))=((X9 d n t).tg)from by first | (rw[e5.1,e5.2.2.2.1,e5.2.2.2.2.1,e5.2.2.2.2.2.1,e5.2.2.2.2.2.2];done) | (rw[e5.1,e5.2.2.2.1,e5.2.2.2.2.1,e5.2.2.2.2.2.1,e5.2.2.2.2.2.2];rfl) | (rw[e5.2.1]) | (rw[e5.2.2.1])))) ?_
   exact Ze (fun a w h=>Ye  (m:=0) (b2,(.map (some m3)),us,ut) rfl h rfl rfl)
  ·
   try simp at hb2
   have e5:=mch_ok (d:=d) (n:=n) (t:=t) (xs:=z6.1.2.2) (by rcases z6.2 with h9 | h9;rw[←hL];exact h9.2;exact absurd hb2 h9.1)
   refine Zb (nx (tw pm2 ?_))
   refine tw pm3 ?_
   refine tw (fun h=>Zgn (j:=12) (cs':=(mkC d (ge d.frames n) [.lit (.map (some m3)),QF z6.1.2.2,.lit us,.lit ut,lI ((0:Nat):Int),lB false,lI (0:Int),lI (0:Int)])) hS rfl rfl h) ?_
   refine tsq ?_
   refine sy (.at b2 0) (fun h=>Zz Xi rfl (Zi h.x (mo 1 rfl)) (h.get 1 rfl) rfl h.x) ?_
   refine kw pm4 ?_
   refine kw pm4 ?_
   refine kw pm4 ?_
   refine kw pm4 ?_
   refine kw pm5 ?_
   refine kw pm5 ?_
   refine X0 (O:=[OB.var b2 (mkC d (ge d.frames n) [.lit (.map (some m3)),QF z6.1.2.2,.lit us,.lit ut,lI ((0:Nat):Int),lB false,lI (0:Int),lI (0:Int)]),OB.row us 22 1 (([]:List (List BA)).map Zr)]) (R:=(OB.var b4 [.lit (.pointer (some ⟨b2,0,none⟩))]::OB.var b1 [Zg t]::OB.mI m3 L::OB.row ut 22 1 (([]:List (List BA)).map Zr)::R)) (ZuH hJ b2 d (ge d.frames n) (.map (some m3)) z6.1.2.2 us ut 0 false (0:Int) (0:Int) ([]:List (List BA))) Zjy rfl rfl rfl (lb rfl) hS hJ0 Zy (fun a w h=>(Za (h.get 0 rfl) Zh)) fun _=>?_
   refine seK [3] [_] rfl ?_
   refine nx (ZG tb hJ [1001] [.at b2 0,_] [0] [_] rfl ⟨fun _ _ _ hx hl _=>Zz Xi rfl (Zi hx (mo 2 rfl)) (hl.env 0 7 _ rfl rfl) rfl hx,trivial⟩ ?_)
   refine tw pm2 ?_
   refine tw ZM ?_
   refine tw pm2 ?_
   refine tw ZM ?_
   refine tw pm2 ?_
   refine tw ZM ?_
   refine tw (ob0 (show OB.var b2 (mkC d (ge d.frames n) [.lit (.map (some m3)),QF z6.1.2.2,.lit us,.lit ut,lI ((0:Nat):Int),lB (false|| !decide (0<z6.1.2.2.length)),lI (if 0<z6.1.2.2.length then(0:Int)else(Zc1 (ge d.frames n) ([]:List (List BA)) 0).1),lI (if 0<z6.1.2.2.length then(0:Int)else(Zc1 (ge d.frames n) ([]:List (List BA)) 0).2)])=OB.var b2 (mkC d (ge d.frames n) [.lit (.map (some m3)),QF (Y3 d n t),.lit us,.lit ut,lI (((X9 d n t).n:Nat):Int),lB ((X9 d n t).kn),lI ((X9 d n t).v.1),lI ((X9 d n t).v.2)])from by first | (rw[e5.1,e5.2.2.2.1,e5.2.2.2.2.1,e5.2.2.2.2.2.1,e5.2.2.2.2.2.2];done) | (rw[e5.1,e5.2.2.2.1,e5.2.2.2.2.1,e5.2.2.2.2.2.1,e5.2.2.2.2.2.2];rfl) | (rw[e5.2.1]) | (rw[e5.2.2.1]))) ?_
   refine tw (ob1 (congrArg (fun z'=>OB.row us 22 1 ((z').map Zr)) (show([]:List (List BA))=((X9 d n t).sk)from by first | (rw[e5.1,e5.2.2.2.1,e5.2.2.2.2.1,e5.2.2.2.2.2.1,e5.2.2.2.2.2.2];done) | (rw[e5.1,e5.2.2.2.1,e5.2.2.2.2.1,e5.2.2.2.2.2.1,e5.2.2.2.2.2.2];rfl) | (rw[e5.2.1]) | (rw[e5.2.2.1])))) ?_
   refine tw (ob2 (congrArg (fun z'=>OB.row ut 22 1 ((z').map Zr)) (show([]:List (List BA))=((X9 d n t).tg)from by first | (rw[e5.1,e5.2.2.2.1,e5.2.2.2.2.1,e5.2.2.2.2.2.1,e5.2.2.2.2.2.2];done) | (rw[e5.1,e5.2.2.2.1,e5.2.2.2.2.1,e5.2.2.2.2.2.1,e5.2.2.2.2.2.2];rfl) | (rw[e5.2.1]) | (rw[e5.2.2.1])))) ?_
   exact Ze (fun a w h=>Ye  (m:=0) (b2,(.map (some m3)),us,ut) rfl h rfl rfl)
theorem ZnQ {J:World→Prop} (hJ:Stab J) (d:Db) (n:Nat) (t:List BA) (hn:n<d.frames.length) (hfl:d.frames.length≤400) (hfr:∀ g∈d.frames,okF g∧okT g) (hM:ZgL (Q8 (d.frames.take n)) d.frames.length) (hf:Zia (ge d.frames n)) (hw:∀ g∈d.frames,g.wide.length*32≤140737488351232) (hl:t.length≤100000) (hs:ZaR t≤1000000000):Fn Tryz.prog J 34 [.agg (dbC d),.int (n:Nat),.rd (Zg t)] (.agg (vdC (ZiH d.frames d.vars (ge d.frames n) (Q8 (d.frames.take n)) t))):=by
 refine Zo (N:=19) Tryz.func34 rfl rfl (lb rfl) fun S w0 hS hJ0=>?_
 refine tw Z1 ?_
 refine ln 2 fun hl1=>?_
 obtain⟨h0,h00⟩:=Zhm (t:=t) hM hf
 refine tsq ?_
 refine sy (.ptr (dbC d)) (fun h=>Yq rfl (h.get 0 rfl) (Zp hS _ h.keep h.x _ (Nat.le_refl _)) (jo hJ h.x)) ?_
 refine Z4 Zac hJ rfl rfl rfl (lb rfl) fun b1=>?_
 refine seK [0,1,3,4] U4 rfl ?_
 refine nx (ZjW (tsq ?_))
 refine snK 3 tb rfl ?_
 refine X0 (O:=[]) (R:=[OB.var b1 [lI 0,lI 0]]) (ZnT hJ d n t sfz sfz (by exact fun h hh=>(hf h hh).2) (by exact(hfr _ (Zv hn)).1.1) (by exact hl) (by exact hs)) ZvZ rfl rfl rfl (lb rfl) hS hJ0 Zy (fun a w h=>(Za (h.get 2 rfl) (Za (h.get 1 rfl) (Za (h.get 0 rfl) Zh)))) fun z2=>?_
 refine snK 1 tb rfl ?_
 refine seK [0,5] [_,_] rfl ?_
 refine nx (Zf (ZjX (nx (Zf (Zc (lpo (ι:=Ms×Value×Value) (fun(m9,_,_)=>(Zmy (Y3 d n t) m9)∧((ZaU d.frames d.vars (ge d.frames n) (Y3 d n t) ((Y3 d n t).length+1) (X9 d n t)).v=(ZaU d.frames d.vars (ge d.frames n) (Y3 d n t) ((Y3 d n t).length+1-m9.n) m9).v)) (fun(m9,vs,vt)=>[OB.var z2.1 (mkC d (ge d.frames n) [.lit z2.2.1,QF (Y3 d n t),.lit vs,.lit vt,lI (m9.n:Int),lB m9.kn,lI m9.v.1,lI m9.v.2]),OB.row vs 22 1 (m9.sk.map Zr),OB.row vt 22 1 (m9.tg.map Zr),OB.var b1 [lI 0,lI 0]]) (fun(_,_,_)=>[]) (fun(m9,_,_)=>(Y3 d n t).length-m9.n) [0,1] [_,_] ((X9 d n t),z2.2.2.1,z2.2.2.2) ⟨h00,by rw[show(X9 d n t).n=0 from Zm0];rfl⟩ ?_))))))
 rintro⟨m9,vs,vt⟩ ⟨f1_1,f1_2⟩
 refine Zc (tsq ?_)
 refine snK 1 tb rfl ?_
 refine X0 (O:=[OB.var z2.1 (mkC d (ge d.frames n) [.lit z2.2.1,QF (Y3 d n t),.lit vs,.lit vt,lI (m9.n:Int),lB m9.kn,lI m9.v.1,lI m9.v.2]),OB.row vs 22 1 (m9.sk.map Zr),OB.row vt 22 1 (m9.tg.map Zr)]) (R:=[OB.var b1 [lI 0,lI 0]]) (p_step hJ z2.1 d (ge d.frames n) z2.2.1 (Y3 d n t) vs vt m9.n m9.kn m9.v.1 m9.v.2 m9.sk m9.tg (by exact inv_i h0 f1_1) (by exact f1_1.sk) (by exact(Zu6 h0 f1_1).1) (by exact(Zu6 h0 f1_1).2.1) (by exact(Zu6 h0 f1_1).2.2) (by exact fun g hg=>(hfr g hg).1) (by exact hw _ (Zv hn))) ZvY rfl rfl rfl (lb rfl) hS hJ0 Zy (fun a w h=>(Za (h.get 0 rfl) Zh)) fun z3=>?_
 refine snK 1 tb rfl ?_
 refine seK [0,3,4] U3 rfl ?_
 refine nx (cj 0 (fun hb1=>?_) fun hb1=>?_)
 try simp at hb1
 have e5:=f1_2.trans (Zqm (fs:=d.frames) (vars:=d.vars) (f:=ge d.frames n) f1_1 (by rw[←Zj1];exact hb1))
 refine Zt (nx (tsq ?_))
 refine snK 1 tb rfl ?_
 refine sy (.at z2.1 0) (fun h=>ZA rfl (h.get 0 rfl) h.x) ?_
 refine sy (.at z2.1 17) (fun h=>Zw ZeP rfl (h.get 0 rfl) h.x) ?_
 refine sy (.agg [lI ((Ym d.frames d.vars (ge d.frames n) (Y3 d n t) ⟨m9.sk,m9.tg,m9.n,m9.kn,(m9.v.1,m9.v.2),false⟩).v.1),lI ((Ym d.frames d.vars (ge d.frames n) (Y3 d n t) ⟨m9.sk,m9.tg,m9.n,m9.kn,(m9.v.1,m9.v.2),false⟩).v.2)]) (fun h=>YP (ds:=[lI ((Ym d.frames d.vars (ge d.frames n) (Y3 d n t) ⟨m9.sk,m9.tg,m9.n,m9.kn,(m9.v.1,m9.v.2),false⟩).v.1),lI ((Ym d.frames d.vars (ge d.frames n) (Y3 d n t) ⟨m9.sk,m9.tg,m9.n,m9.kn,(m9.v.1,m9.v.2),false⟩).v.2)]) Qs rfl (Zi h.x (mo 0 rfl)) (h.get 0 rfl) rfl rfl h.x) ?_
 refine kw pm3 ?_
 refine ZD (b:=b1) (off:=0) (es:=[_,_]) (news:=[_,_]) hJ hJ0 Y4 rfl rfl rfl (lb rfl) rfl (fun a w h=>⟨(h.get 6 rfl),(h.get 0 rfl)⟩) ?_
 refine seK [6] [_] rfl ?_
 exact nx (Ze (fun a w h=>X3 (m:=0) rfl Qs h rfl rfl (show(_:List CD)=[lI ((ZiH d.frames d.vars (ge d.frames n) (Q8 (d.frames.take n)) t).1),lI ((ZiH d.frames d.vars (ge d.frames n) (Q8 (d.frames.take n)) t).2)]from by rw[verV,e5];rfl)))
 try simp at hb1
 have e6:=Zql (fs:=d.frames) (vars:=d.vars) (f:=ge d.frames n) f1_1 (by rw[←Zj1];exact hb1)
 exact Zb (YH ((Ym d.frames d.vars (ge d.frames n) (Y3 d n t) m9),z3.1,z3.2) [1,2] ⟨Zgm (fun g hg=>(hfr g hg).2) h0 f1_1,f1_2.trans e6.1⟩ (hm:=(show(Y3 d n t).length-(Ym d.frames d.vars (ge d.frames n) (Y3 d n t) m9).n< (Y3 d n t).length-m9.n from by rw[e6.2.1];omega)))
theorem QX:Zdf Tryz.prog 32 [.int .i64 0,.int .i64 0]:=⟨fun i=>(#[(0,1),(1,1)]:Array (Nat×Nat))[i]?,fun j hj=>by rcases j with _ | _ | j<;>first | rfl | (simp at hj;omega),fun parts=>by kernel_rfl⟩
theorem ZhD {J:World→Prop} (hJ:Stab J) (d:Db) (n:Nat) (hn:n<d.frames.length) (hck:QK d=0) (hw:∀ f∈d.frames,f.wide.length*32≤140737488351232) (hpl:∀ g∈d.frames,g.proof.length≤100000∧ZaR g.proof≤1000000000):Fn Tryz.prog J 37 [.agg (dbC d),.int (n:Nat)] (.agg (vdC (Zdi d n))):=by
 refine Zo (N:=22) Tryz.func37 rfl rfl (lb rfl) fun S w0 hS hJ0=>?_
 refine tw Z1 ?_
 refine tsq ?_
 refine sy (.ptr (dbC d)) (fun h=>Yq rfl (h.get 0 rfl) (Zp hS _ h.keep h.x _ (Nat.le_refl _)) (jo hJ h.x)) ?_
 refine Z4 Zac hJ rfl rfl rfl (lb rfl) fun b1=>?_
 refine seK [0,1,3] U3 rfl ?_
 refine nx (Zf (ZG tb hJ [0,1,2,1001,1006] [_,_,_,.ptr (frC (ge d.frames n)),_,_,_] [3] U5 rfl ⟨iIx ZS,trivial⟩ ?_))
 refine ln 3 fun hl1=>?_
 refine cj 4 (fun hb1=>?_) fun hb1=>?_
 ·
  try simp at hb1
  refine tsq ?_
  refine sy (.agg (vdC (⟨0,0⟩:Int×Int))) (fun h=>Yh (ps:=[]) (us:=[.int .i64 0,.int .i64 0]) QX rfl (by simp) Zdd rfl (YB (.lit _ True.intro) (YB (.lit _ True.intro) ZJ)) h.x) ?_
  refine ZD (b:=b1) (off:=0) (es:=[_,_]) (news:=[_,_]) hJ hJ0 Y4 rfl rfl rfl (lb rfl) rfl (fun a w h=>⟨(h.get 1 rfl),(h.get 0 rfl)⟩) ?_
  refine seK [1] [_] rfl ?_
  exact nx (Ze (fun a w h=>X3 (m:=0) rfl Qs h rfl rfl (show(_:List CD)=[lI ((Zdi d n).1),lI ((Zdi d n).2)]from by simp[Zdi,hb1])))
 ·
  try simp at hb1
  refine Zb (nx (Zf (fun a w h=>Y0 (γ:=Unit) (fun ix'=>([.agg (dbC d),.int (n:Nat),.ptr [ZfP d.frames],.rd (ZfP d.frames),.int (n:Nat),.ptr (frC (ge d.frames n)),.ptr [Zg ((ge d.frames n).proof)],.rd (Zg ((ge d.frames n).proof)),.agg (vdC (ZiH d.frames d.vars (ge d.frames n) (Q8 (d.frames.take n)) ((ge d.frames n).proof))),.any]:List AV).getD ix' .any) (fun _=>true) [(4,fun(g:Unit)=>.at b1 0)] (fun(j':Nat) (g:Unit)=>match j' with | 0=>[OB.var b1 [lI 0,lI 0]] | _=>[OB.var b1 [lI ((ZiH d.frames d.vars (ge d.frames n) (Q8 (d.frames.take n)) ((ge d.frames n).proof)).1),lI ((ZiH d.frames d.vars (ge d.frames n) (Q8 (d.frames.take n)) ((ge d.frames n).proof)).2)]]) (fun(k':Nat) (g:Unit)=>match k' with | 0=>undef | _=>undef) [9] 0 () (fun _=>rfl) h hJ YC rfl rfl rfl rfl rfl rfl hsb ⟨?_,⟨?_,⟨?_,⟨?_,⟨?_,⟨?_,⟨?_,⟨?_,⟨?_,⟨?_,trivial⟩⟩⟩⟩⟩⟩⟩⟩⟩⟩ ⟨?e3_1_0,trivial⟩ ⟨.old 0 4 _ rfl rfl,trivial⟩ ?n3_1)))
  exact oX rfl fun hx hl=>Zao Zee rfl (hl.env 1 2 _ rfl rfl) (Nat.le_refl _) hx
  exact oX rfl fun hx hl=>Z5 rfl (hl.env 2 1 _ rfl rfl) hx
  exact oX rfl fun hx hl=>ZQ QG rfl (hl.env 1 2 _ rfl rfl) hx
  exact oX rfl fun hx hl=>ZI Zey rfl (hl.D 2 15 rfl rfl) hx
  exact oX rfl fun hx hl=>Z5 rfl (hl.env 2 1 _ rfl rfl) hx
  exact oX rfl fun hx hl=>ZO (i:=(n:Int)) ZS rfl (hl.D 3 16 rfl rfl) (hl.D 4 17 rfl rfl) (Int.natCast_nonneg _) (ZU (xs:=d.frames) (k:=n) sfz) rfl hx
  exact oX rfl fun hx hl=>ZQ ZfT rfl (hl.D 5 18 rfl rfl) hx
  exact oX rfl fun hx hl=>ZI XI rfl (hl.D 6 19 rfl rfl) hx
  exact oY rfl fun hk hx hl=>Zbw (ZnQ hJ d n ((ge d.frames n).proof) sfz (by exact Zju hck) (by exact fun g hg=>⟨(Zab hck g hg).1,(Zab hck g hg).2.1⟩) (by exact Za1 (ZaX _ (by omega)) (by omega)) (by exact(Zab hck _ (Zv (by omega))).2.2) (by exact hw) (by exact(hpl _ (Zv hn)).1) (by exact(hpl _ (Zv hn)).2)) Zv2 rfl (Zp hS _ hk hx) (hx.1) (Za (hl.D 0 13 rfl rfl) (Za (hl.D 1 14 rfl rfl) (Za (hl.D 7 20 rfl rfl) Zh))) (jo hJ hx)
  exact Zn rfl
  case e3_1_0=>exact⟨_,rfl,rfl,rfl,rfl,fun g _ w hk hx hl _=>(by obtain⟨us2,hv2,hr3⟩:=Q0 (hl.D 8 21 rfl rfl);exact ZB (Xt (off:=0) (news:=[_,_]) (es:=[_,_]) (us:=us2) hJ hJ0 Y4 rfl hk hx (hl.env 0 4 _ rfl rfl) (by rw[hv2];rfl) hr3 (lb rfl) rfl) fun v w' hp=>⟨g,rfl,fun _ _=>rfl,fun e=>(by cases e),hp⟩)⟩
  clear a w h
  intro _
  dsimp only[List.map]
  exact nx (Ze (fun a w h=>X3 (m:=0) rfl Qs h rfl rfl (show(_:List CD)=[lI ((Zdi d n).1),lI ((Zdi d n).2)]from by simp[Zdi,hb1])))
theorem ZhK {J:World→Prop} (hJ:Stab J) (d:Db) (z:Int) (hw:∀ f∈d.frames,f.wide.length*32≤140737488351232) (hG:ZaN J) (hpl:∀ g∈d.frames,g.proof.length≤100000∧ZaR g.proof≤1000000000):Fn Tryz.prog J 12 [.agg (dbC d),.int z] (.tup [.agg (vdC ((XF d z).1)),.int ((XF d z).2)]):=by
 refine Zo (N:=17) Tryz.func12 rfl rfl (lb rfl) fun S w0 hS hJ0=>?_
 refine tw Z1 ?_
 refine tsq ?_
 refine sy (.ptr (dbC d)) (fun h=>Yq rfl (h.get 0 rfl) (Zp hS _ h.keep h.x _ (Nat.le_refl _)) (jo hJ h.x)) ?_
 refine Z4 Zac hJ rfl rfl rfl (lb rfl) fun b1=>?_
 refine snK 1 tb rfl ?_
 refine seK [1,2,4] U3 rfl ?_
 refine nx (Zf (ZG tb hJ [0,1,2,1003] [_,_,.int (X6 d z),_] [2] U4 rfl ⟨iFo hS hJ (ZnZ hJ d z (by exact hw) (by exact hG)) Zv3,trivial⟩ ?_))
 refine qso tb hJ [0,1,2,3,1001] [_,_] U5 ?_
 refine cj 4 (fun hb1=>?_) fun hb1=>?_
 try simp at hb1
 refine tsq ?_
 refine sy (.agg (vdC (⟨0,0⟩:Int×Int))) (fun h=>Yh (ps:=[]) (us:=[.int .i64 0,.int .i64 0]) QX rfl (by simp) Zdd rfl (YB (.lit _ True.intro) (YB (.lit _ True.intro) ZJ)) h.x) ?_
 refine snK 1 tb rfl ?_
 refine ZD (b:=b1) (off:=0) (es:=[_,_]) (news:=[_,_]) hJ hJ0 Y4 rfl rfl rfl (lb rfl) rfl (fun a w h=>⟨(h.get 2 rfl),(h.get 1 rfl)⟩) ?_
 refine snK 1 tb rfl ?_
 refine seK [0,3] [_,_] rfl ?_
 exact nx (Ze (fun a w h=>Q1 (m:=1) (q:=0) rfl Qs h rfl rfl (show(_:List CD)=[lI (((XF d z).1).1),lI (((XF d z).1).2)]from by simp[XF,hb1]) rfl (eI (by simp[XF,hb1]))))
 try simp at hb1
 have ha:X6 d z=0:=by simpa using hb1
 obtain⟨hck,hz0,hz1⟩:=Zlf ha
 refine tw (sa 2 rfl (show(.int z:AV)= .int (z.toNat:Nat)from congrArg AV.int (by omega))) ?_
 refine Zb (nx (tsq ?_))
 refine snK 2 tb rfl ?_
 refine sy (.agg (vdC (Zdi d z.toNat))) (fun h=>Zbw (ZhD hJ d z.toNat sfz (by exact hck) (by exact hw) (by exact hpl)) Zpu rfl (Zp hS _ h.keep h.x) (h.x.1) (Za (h.get 1 rfl) (Za (h.get 0 rfl) Zh)) (jo hJ h.x)) ?_
 refine ZD (b:=b1) (off:=0) (es:=[_,_]) (news:=[_,_]) hJ hJ0 Y4 rfl rfl rfl (lb rfl) rfl (fun a w h=>⟨(h.get 3 rfl),(h.get 0 rfl)⟩) ?_
 refine snK 1 tb rfl ?_
 refine seK [0,4] [_,_] rfl ?_
 exact nx (Ze (fun a w h=>Q1 (m:=1) (q:=0) rfl Qs h rfl rfl (show(_:List CD)=[lI (((XF d z).1).1),lI (((XF d z).1).2)]from by simp[XF,hb1]) rfl (eI (by simp[XF,hb1]))))
end Go.Proofs.YtneapgbkkkjagaaGreatDoor
set_option maxHeartbeats 8000000
set_option maxRecDepth 100000
namespace Go.Proofs.YtneapgbkkkjagaaGreatDoor
open Go.Proofs.Tryz (prog)
open Go.RowKit
theorem ZcB:Zhh prog 47 [.sl [],lI 0,lB false,lI 0,lI 0]:=⟨(.agg #[.slice none 0 0,.int .i64 0,.bool false,.int .i64 0,.int .i64 0]),fun w=>by kernel_rfl,fun S w=>(show RdL S w [.sl [],lI 0,lB false,lI 0,lI 0] [.slice none 0 0,.int .i64 0,.bool false,.int .i64 0,.int .i64 0]from⟨.nil _ _ (Nat.zero_le _),.lit _ True.intro,.lit _ True.intro,.lit _ True.intro,.lit _ True.intro,trivial⟩)⟩
theorem ZvX:Zl prog 44:=Zs Tryz.func44 rfl rfl
theorem Zf8:ZjK prog 47:=⟨by kernel_rfl,fun p q=>by kernel_rfl⟩
theorem Zak:Qi prog 47 5:=fun w=>by kernel_rfl
theorem Qr:XV prog 47 5:=⟨fun w=>by kernel_rfl,fun w=>by kernel_rfl⟩
theorem Qf:ZV prog 47 1 1:=fun b off w=>by kernel_rfl
theorem Zll:prog.underlying 76=some (.slice 82):=by kernel_rfl
theorem Zs0:XV prog 82 3:=⟨fun w=>by kernel_rfl,fun w=>by kernel_rfl⟩
theorem Zb8:ZV prog 47 0 0:=fun b off w=>by kernel_rfl
theorem ZvW:Zl prog 45:=Zs Tryz.func45 rfl rfl
theorem ZfX:ZV prog 47 2 2:=fun b off w=>by kernel_rfl
theorem Zdy:ZV prog 47 3 3:=fun b off w=>by kernel_rfl
theorem c_Run {J:World→Prop} (hJ:Stab J) (d:Db) (i:Nat) (t:List BA) (most:Nat) (hi:i<d.frames.length) (hck:QK d=0) (hn:t.length≤100000) (hs:ZaR t≤1000000000) (hap:∀ f∈d.frames,f.apart.length≤100000):Fn prog J 20 [.agg (dbC d),.int (i:Nat),.rd (Zg t),.int (most:Nat)] (.agg (rsC (Zgr d i t most))):=by
 refine Zo (N:=106) Tryz.func20 rfl rfl (lb rfl) fun S w0 hS hJ0=>?_
 refine tw Z1 ?_
 refine ln 2 fun hl1=>?_
 refine tsq ?_
 refine sy (.ptr (dbC d)) (fun h=>Yq rfl (h.get 0 rfl) (Zp hS _ h.keep h.x _ (Nat.le_refl _)) (jo hJ h.x)) ?_
 refine Z4 ZcB hJ rfl rfl rfl (lb rfl) fun b1=>?_
 refine seK [0,1,3,4,5] U5 rfl ?_
 refine nx (tsq ?_)
 refine snK 3 tb rfl ?_
 refine sy (.ptr (frC (ge d.frames i))) (fun h=>ZO (i:=(i:Int)) ZS rfl (h.get 1 rfl) (h.get 0 rfl) (Int.natCast_nonneg _) (ZU (xs:=d.frames) (k:=i) sfz) rfl h.x) ?_
 refine snK 1 tb rfl ?_
 refine XZ (cs:=frC (ge d.frames i)) ZdY rfl rfl rfl (lb rfl) rfl rfl rfl (by decide) (m:=0) rfl rfl (fun a w h=>Zp hS _ h.keep h.x _ (Nat.le_refl _)) (fun a w h w' hk'=>Yz hJ _ _ hk' h.x) ?_
 refine seK [0,4,6,7,8,9,10] U7 rfl ?_
 refine nx (ln 1 fun hl2=>?_)
 refine ZG tb hJ [0,2,3,4,6,1004,1006,1007] [_,_,.tup [.rd (Zhe ((Z7 (ge d.frames i) t).1)),.int ((Z7 (ge d.frames i) t).2)],_,_,_,_,_] [2] U8 rfl ⟨iFo hS hJ (Zwh hJ (ge d.frames i) t (by exact hn) (by exact hs) (by exact(Zab hck _ (Zv hi)).1.1)) ZvX,trivial⟩ ?_
 refine ln 5 fun hl3=>?_
 refine Zf (qso tb hJ (r5 [6,7,1001]) [_,_] U8 ?_)
 refine cj 7 (fun hb1=>?_) fun hb1=>?_
 try simp at hb1
 have eU:Zgr d i t most=⟨[],0,true,((Z7 (ge d.frames i) t).2,0)⟩:=Zug hck hi (by simpa using hb1)
 refine tsq ?_
 refine snK 1 tb rfl ?_
 refine sq (.agg (vdC (⟨(Z7 (ge d.frames i) t).2,0⟩:Int×Int))) rfl rfl (lb rfl) (fun a _ h=>Yh (ps:=[(0,a.eval (.tmp 30))]) (us:=[a.eval (.tmp 30),.int .i64 0]) QX rfl (by simp) (Zcy (lb rfl) (Rel.oneC (h.get 0 rfl)) Zdd) rfl (Zk (h.get 0 rfl) (YB (.lit _ True.intro) ZJ)) h.x) ?_
 refine sy (.agg (rsC (⟨[],0,true,(⟨(Z7 (ge d.frames i) t).2,0⟩:Int×Int)⟩:Rs))) (fun h=>ZnB Zf8 rfl (h.get 0 rfl) h.x) ?_
 refine ZD (b:=b1) (off:=0) (es:=U5) (news:=U5) hJ hJ0 Zak rfl rfl rfl (lb rfl) rfl (fun a w h=>⟨(h.get 4 rfl),(h.get 0 rfl)⟩) ?_
 refine seK [4] [_] rfl ?_
 exact nx (Ze (fun a w h=>X3 (m:=0) rfl Qr h rfl rfl (by rw[eU]<;>rfl)))
 try simp at hb1
 obtain⟨e1,e2,e3⟩:=run_ok (t:=t) hck hi (by simpa using hb1)
 have e20:=Zoz (t:=t) hck hi
 refine Zb (nx (tsq ?_))
 refine sy (.agg (rsC (⟨[],0,false,(0,0)⟩:Rs))) (fun h=>ZnC Zf8 rfl h.x) ?_
 refine Z4 ZcB hJ rfl rfl rfl (lb rfl) fun b2=>?_
 refine ZD (b:=b2) (off:=0) (es:=U5) (news:=U5) hJ hJ0 Zak rfl rfl rfl (lb rfl) rfl (fun a w h=>⟨(h.get 0 rfl),(h.get 1 rfl)⟩) ?_
 refine seK [0,2,3,4,5,6,7] U7 rfl ?_
 refine nx (tsq ?_)
 refine Xp ZH hJ rfl rfl rfl (lb rfl) fun v3=>?_
 refine snK 1 tb rfl ?_
 refine seK [0,2,3,4,5,6,7,8] U8 rfl ?_
 refine nx (Zf (Zc (lpo (ι:=Nat×(List (List BA))×Value×(List (List BA))) (fun(n,sk,_,gv)=>(Zp4 d i t n sk gv)∧(n≤most)) (fun(n,sk,ws,gv)=>[OB.row ws 22 1 (gv.map Zr),OB.var b2 [Yg sk,lI (n:Int),lB false,lI (0:Int),lI (0:Int)],OB.var b1 [Yg ([]:List (List BA)),lI 0,lB false,lI 0,lI 0]]) (fun(_,_,ws,_)=>[(13,.lit ws)]) (fun(n,_,_,_)=>(Y3 d i t).length-n) [1,2,3,4,5,6,7,0] U7 (0,[],v3,([]:List (List BA))) ⟨e1,Nat.zero_le _⟩ ?_)))
 rintro⟨n,sk,ws,gv⟩ ⟨f1_1,f1_2⟩
 refine Zf (ZG tb hJ (r8 [1004]) [.at b2 1,.int (n:Nat),_,.int (((Z7 (ge d.frames i) t).1).length:Nat),_] [0,1,3] U9 rfl ⟨fun _ _ _ hx hl _=>Zw Qf rfl (hl.env 0 12 _ rfl rfl) hx,fun _ _ _ hx hl _=>Zz ZaW rfl (Zi hx (mo 1 rfl)) (hl.D 0 35 rfl rfl) rfl hx,Z2 Zll,trivial⟩ ?_)
 refine cj 8 (fun hb2=>?_) fun hb2=>?_
 try simp at hb2
 have e4:=Zuh f1_1
 have e5:=e3 n (by omega)
 have e8:=Zt9 (d:=d) (i:=i) (r:=ge (Z7 (ge d.frames i) t).1 n) (gv:=gv) (sk:=sk)
 have e9:=f1_1.gl
 refine Zb (nx (Zc (Zf (ZG tb hJ (r8 [1003]) [.at b2 1,.int (n:Nat),_,_] [0,1] U9 rfl ⟨fun _ _ _ hx hl _=>Zw Qf rfl (hl.env 0 12 _ rfl rfl) hx,fun _ _ _ hx hl _=>Zz ZaW rfl (Zi hx (mo 1 rfl)) (hl.D 0 40 rfl rfl) rfl hx,trivial⟩ ?_))))
 refine cj 8 (fun hb3=>?_) fun hb3=>?_
 try simp at hb3
 have eU:Zgr d i t most=⟨sk,n,false,(0,0)⟩:=Znh f1_1 (by omega) f1_2 (by omega)
 refine tsq ?_
 refine sy (.agg [Yg sk,lI (n:Int),lB false,lI (0:Int),lI (0:Int)]) (fun h=>YP (ds:=[Yg sk,lI (n:Int),lB false,lI (0:Int),lI (0:Int)]) Qr rfl (Zi h.x (mo 1 rfl)) (h.get 0 rfl) rfl rfl h.x) ?_
 refine kw pm2 ?_
 refine ZD (b:=b1) (off:=0) (es:=U5) (news:=U5) hJ hJ0 Zak rfl rfl rfl (lb rfl) rfl (fun a w h=>⟨(h.get 3 rfl),(h.get 0 rfl)⟩) ?_
 refine seK [3] [_] rfl ?_
 exact nx (Ze (fun a w h=>X3 (m:=0) rfl Qr h rfl rfl (by rw[eU]<;>rfl)))
 try simp at hb3
 refine Zb (nx (ZG tb hJ (r8 [1009,1012,1013,1015,1016,1017]) [_,_,_,.at b2 1,.int (n:Nat),.ptr (riC (ge ((Z7 (ge d.frames i) t).1) n)),.agg (riC (ge ((Z7 (ge d.frames i) t).1) n)),_,.at b2 0,.rd (Yg sk),.tup [.rd (Zg ((Xb d i (ge ((Z7 (ge d.frames i) t).1) n) gv sk).1.1)),.rd (Yg ((Xb d i (ge ((Z7 (ge d.frames i) t).1) n) gv sk).1.2)),.int ((Xb d i (ge ((Z7 (ge d.frames i) t).1) n) gv sk).2)],_,_,_,_,_,_,_] [3,4,5,6,8,9,10] [_,_,_,_,_,_,_,_,_,_,_,_,_,_] rfl ⟨fun _ _ _ hx hl _=>Zw Qf rfl (hl.env 0 12 _ rfl rfl) hx,fun _ _ _ hx hl _=>Zz ZaW rfl (Zi hx (mo 1 rfl)) (hl.D 3 49 rfl rfl) rfl hx,iIx Xn,fun _ _ _ hx hl _=>Zao Zs0 rfl (hl.D 5 51 rfl rfl) (Nat.le_refl _) hx,fun _ _ _ hx hl _=>Zw Zb8 rfl (hl.env 0 12 _ rfl rfl) hx,fun _ _ _ hx hl _=>Zz ZaE rfl (Zi hx (mo 1 rfl)) (hl.D 8 54 rfl rfl) rfl hx,fun _ _ hk hx hl _=>Xq (Zwf hJ d i (ge ((Z7 (ge d.frames i) t).1) n) ws gv sk (by exact hi) (by exact hck) (by exact Znk f1_1 (by omega) e5) (by exact e4.1) (by exact hap)) ZvW rfl (Zp hS _ hk hx) (hx.1) (ZT (Zi hx (mo 0 rfl)) Zy) (Za (hl.D 0 46 rfl rfl) (Za (hl.D 1 47 rfl rfl) (Za (hl.D 6 52 rfl rfl) (Za (hl.D 7 53 rfl rfl) (Za (hl.D 9 55 rfl rfl) Zh))))) (jo hJ hx),trivial⟩ ?_))
 refine ln 8 fun hl4=>?_
 refine ln 9 fun hl5=>?_
 refine ln 10 fun hl6=>?_
 refine Zf (qso tb hJ (r8 [11,12,13,1001]) [_,_] [_,_,_,_,_,_,_,_,_,_,_,_] ?_)
 refine cj 11 (fun hb4=>?_) fun hb4=>?_
 try simp at hb4
 have eU:Zgr d i t most=⟨sk,n,true,((Xb d i (ge (Z7 (ge d.frames i) t).1 n) gv sk).2,(n:Int))⟩:=Zng f1_1 (by omega) hck hi e5 (by simpa using hb4) (by omega)
 refine tsq ?_
 refine sy (.at b2 2) (fun h=>Zw ZfX rfl (h.get 0 rfl) h.x) ?_
 refine kw pm1 ?_
 refine Yc (b:=b2) (off:=2) (es:=U5) hJ hJ0 ZaA rfl rfl rfl (lb rfl) rfl (fun a w h=>⟨(h.get 0 rfl),(Rel.of_lit (.bool true))⟩) ?_
 refine seK [1,3,11] U3 rfl ?_
 refine nx (tsq ?_)
 refine snK 1 tb rfl ?_
 refine sy (.at b2 1) (fun h=>Zw Qf rfl (h.get 1 rfl) h.x) ?_
 refine sy (.int (n:Nat)) (fun h=>Zz ZaW rfl (Zi h.x (mo 0 rfl)) (h.get 0 rfl) rfl h.x) ?_
 refine sq (.agg (vdC (⟨(Xb d i (ge ((Z7 (ge d.frames i) t).1) n) gv sk).2,(n:Int)⟩:Int×Int))) rfl rfl (lb rfl) (fun a _ h=>Xr (us:=[a.eval (.tmp 63),a.eval (.tmp 65)]) Zaj rfl (by simp) (Zk (h.get 2 rfl) (Zk (h.get 0 rfl) ZJ)) rfl h.x) ?_
 refine sy (.at b2 3) (fun h=>Zw Zdy rfl (h.get 4 rfl) h.x) ?_
 refine ZD (b:=b2) (off:=3) (es:=U5) (news:=[_,_]) hJ hJ0 Y4 rfl rfl rfl (lb rfl) rfl (fun a w h=>⟨(h.get 0 rfl),(h.get 1 rfl)⟩) ?_
 refine seK [5,6] [_,_] rfl ?_
 refine nx (tsq ?_)
 refine sy (.agg [Yg sk,lI (n:Int),lB true,lI ((⟨(Xb d i (ge ((Z7 (ge d.frames i) t).1) n) gv sk).2,(n:Int)⟩:Int×Int).1),lI ((⟨(Xb d i (ge ((Z7 (ge d.frames i) t).1) n) gv sk).2,(n:Int)⟩:Int×Int).2)]) (fun h=>YP (ds:=[Yg sk,lI (n:Int),lB true,lI ((⟨(Xb d i (ge ((Z7 (ge d.frames i) t).1) n) gv sk).2,(n:Int)⟩:Int×Int).1),lI ((⟨(Xb d i (ge ((Z7 (ge d.frames i) t).1) n) gv sk).2,(n:Int)⟩:Int×Int).2)]) Qr rfl (Zi h.x (mo 0 rfl)) (h.get 0 rfl) rfl rfl h.x) ?_
 refine kw pm2 ?_
 refine ZD (b:=b1) (off:=0) (es:=U5) (news:=U5) hJ hJ0 Zak rfl rfl rfl (lb rfl) rfl (fun a w h=>⟨(h.get 2 rfl),(h.get 0 rfl)⟩) ?_
 refine seK [2] [_] rfl ?_
 exact nx (Ze (fun a w h=>X3 (m:=0) rfl Qr h rfl rfl (by rw[eU]<;>rfl)))
 try simp at hb4
 have e7:=Znj f1_1 (by omega) hck hi e5 (by simpa using hb4)
 refine Zb (nx (Zf (ZE (Xp ZH hJ rfl rfl rfl (lb rfl) fun v4=>?_))))
 refine snK 1 tb rfl ?_
 refine ZR (f:=Zr) (m:=1) (s:=69) ([]:List (List BA)) ((Xb d i (ge ((Z7 (ge d.frames i) t).1) n) gv sk).1.2) (fun _=>rfl) QZ hJ hJ0 rfl rfl rfl (lb rfl) rfl rfl (fun a w h=>(h.get 0 rfl)) sfz sfz fun v5=>?_
 refine snK 1 tb rfl ?_
 refine sy (.rd (Yg ([((Xb d i (ge ((Z7 (ge d.frames i) t).1) n) gv sk).1.1)]))) (fun h=>YD ZH Za8 rfl (h.get 0 rfl) (Zp hS _ h.keep h.x _ (Nat.le_refl _)) (jo hJ h.x)) ?_
 refine ZR (f:=Zr) (m:=2) (s:=71) (([]:List (List BA))++((Xb d i (ge ((Z7 (ge d.frames i) t).1) n) gv sk).1.2)) ([((Xb d i (ge ((Z7 (ge d.frames i) t).1) n) gv sk).1.1)]) (fun _=>rfl) QZ hJ hJ0 rfl rfl rfl (lb rfl) rfl rfl (fun a w h=>(h.get 0 rfl)) sfz sfz fun v6=>?_
 refine sy (.at b2 0) (fun h=>Zw Zb8 rfl (h.get 6 rfl) h.x) ?_
 refine kw pm2 ?_
 refine kw pm1 ?_
 refine kw (fun h=>ZN hS h (m:=1) (s:=74) rfl) ?_
 refine Yc (b:=b2) (off:=0) (es:=U5) hJ hJ0 ZbE rfl rfl rfl (lb rfl) rfl (fun a w h=>⟨(h.get 1 rfl),(h.get 0 rfl)⟩) ?_
 refine seK [0,2,7,8,9,10,11,12,13,14,15] [_,_,_,_,_,_,_,_,_,_,_] rfl ?_
 refine nx (ln 0 fun hl7=>?_)
 refine ln 1 fun hl8=>?_
 refine tsq ?_
 refine snK 2 tb rfl ?_
 refine sy (.rd (Yg ([((Xb d i (ge ((Z7 (ge d.frames i) t).1) n) gv sk).1.1)]))) (fun h=>YD ZH Za8 rfl (h.get 0 rfl) (Zp hS _ h.keep h.x _ (Nat.le_refl _)) (jo hJ h.x)) ?_
 refine kw pm1 ?_
 refine ZR (f:=Zr) (m:=2) (s:=76) gv ([((Xb d i (ge ((Z7 (ge d.frames i) t).1) n) gv sk).1.1)]) (fun _=>rfl) QZ hJ hJ0 rfl rfl rfl (lb rfl) rfl rfl (fun a w h=>(h.get 0 rfl)) sfz sfz fun v7=>?_
 refine snK 1 tb rfl ?_
 refine seK [0,7,8,9,10,11,12,13] U8 rfl ?_
 refine nx (ZE (sq (.at b2 1) rfl rfl (lb rfl) (fun _ _ h=>Zw Qf rfl (h.get 1 rfl) h.x) ?_))
 refine sy (.int (n:Nat)) (fun h=>Zz ZaW rfl (Zi h.x (mo 1 rfl)) (h.get 0 rfl) rfl h.x) ?_
 refine sy (.int (n+1:Nat)) (fun h=>Zfo (i:=(n:Int)) (j:=(1:Int)) rfl (h.get 0 rfl) (Rel.of_lit (.int .i64 1)) sfz sfz h.x) ?_
 refine sy (.at b2 1) (fun h=>Zw Qf rfl (h.get 4 rfl) h.x) ?_
 refine kw pm1 ?_
 refine Yc (b:=b2) (off:=1) (es:=U5) hJ hJ0 ZbY rfl rfl rfl (lb rfl) rfl (fun a w h=>⟨(h.get 0 rfl),(h.get 1 rfl)⟩) ?_
 refine seK [4,5,6,7,8,9,10,11] U8 rfl ?_
 refine kw pm2 ?_
 refine kw pm1 ?_
 refine kw pm2 ?_
 exact YH ((n+1),((Xb d i (ge (Z7 (ge d.frames i) t).1 n) gv sk).1.2++[(Xb d i (ge (Z7 (ge d.frames i) t).1 n) gv sk).1.1]),v7,gv++([((Xb d i (ge ((Z7 (ge d.frames i) t).1) n) gv sk).1.1)])) [1,2,3,4,5,6,7,0] ⟨e7,by omega⟩
 try simp at hb2
 have e6:=Zqo f1_1 (by have:=f1_1.le;omega) f1_2
 refine Zt (nx (tsq ?_))
 refine sy (.at b2 2) (fun h=>Zw ZfX rfl (h.get 0 rfl) h.x) ?_
 refine kw pm1 ?_
 refine Yc (b:=b2) (off:=2) (es:=U5) hJ hJ0 ZaA rfl rfl rfl (lb rfl) rfl (fun a w h=>⟨(h.get 0 rfl),(Rel.of_lit (.bool true))⟩) ?_
 refine seK [1,2,3] U3 rfl ?_
 refine nx (Zf (ZG tb hJ [0,1,2,1001,1003] [.at b2 0,.rd (Yg sk),.int (sk.length:Nat),_] [0,1,2] U5 rfl ⟨fun _ _ _ hx hl _=>Zw Zb8 rfl (hl.env 0 12 _ rfl rfl) hx,fun _ _ _ hx hl _=>Zz ZaE rfl (Zi hx (mo 0 rfl)) (hl.D 0 85 rfl rfl) rfl hx,Z2 Qy,trivial⟩ ?_))
 refine ln 3 fun hl9=>?_
 refine cj 4 (fun hb5=>?_) fun hb5=>?_
 try simp at hb5
 have eU:Zgr d i t most=⟨sk,n,true,(23,(n:Int))⟩:=by rw[e6,Zc1,if_pos (by omega)]
 refine ZE (sq (.at b2 1) rfl rfl (lb rfl) (fun _ _ h=>Zw Qf rfl (h.get 0 rfl) h.x) ?_)
 refine sy (.int (n:Nat)) (fun h=>Zz ZaW rfl (Zi h.x (mo 0 rfl)) (h.get 0 rfl) rfl h.x) ?_
 refine sq (.agg (vdC (⟨(23:Int),(n:Int)⟩:Int×Int))) rfl rfl (lb rfl) (fun a _ h=>Xr (us:=[a.eval (.const (.int .i64 23)),a.eval (.tmp 90)]) Zaj rfl (by simp) (Zk (Rel.of_lit (.int .i64 23)) (Zk (h.get 0 rfl) ZJ)) rfl h.x) ?_
 refine sy (.at b2 3) (fun h=>Zw Zdy rfl (h.get 3 rfl) h.x) ?_
 refine ZD (b:=b2) (off:=3) (es:=U5) (news:=[_,_]) hJ hJ0 Y4 rfl rfl rfl (lb rfl) rfl (fun a w h=>⟨(h.get 0 rfl),(h.get 1 rfl)⟩) ?_
 refine seK [4,6] [_,_] rfl ?_
 refine nx (tsq ?_)
 refine sy (.agg [Yg sk,lI (n:Int),lB true,lI ((⟨(23:Int),(n:Int)⟩:Int×Int).1),lI ((⟨(23:Int),(n:Int)⟩:Int×Int).2)]) (fun h=>YP (ds:=[Yg sk,lI (n:Int),lB true,lI ((⟨(23:Int),(n:Int)⟩:Int×Int).1),lI ((⟨(23:Int),(n:Int)⟩:Int×Int).2)]) Qr rfl (Zi h.x (mo 0 rfl)) (h.get 0 rfl) rfl rfl h.x) ?_
 refine kw pm2 ?_
 refine ZD (b:=b1) (off:=0) (es:=U5) (news:=U5) hJ hJ0 Zak rfl rfl rfl (lb rfl) rfl (fun a w h=>⟨(h.get 2 rfl),(h.get 0 rfl)⟩) ?_
 refine seK [2] [_] rfl ?_
 exact nx (Ze (fun a w h=>X3 (m:=0) rfl Qr h rfl rfl (by rw[eU]<;>rfl)))
 try simp at hb5
 refine ZG tb hJ [0,2,1003,1005,1007] [.at b2 0,.rd (Yg sk),.ptr [Zg (ge sk 0)],_,_,_,.bool (decide ((ge sk 0)=((ge d.frames i).text))),_] [0,1,2,6] U5 rfl ⟨fun _ _ _ hx hl _=>Zw Zb8 rfl (hl.env 0 12 _ rfl rfl) hx,fun _ _ _ hx hl _=>Zz ZaE rfl (Zi hx (mo 0 rfl)) (hl.D 0 93 rfl rfl) rfl hx,iIx (k:=0) ZH,iFo hS hJ (ZpE hJ (ge sk 0) ((ge d.frames i).text)) Zpq,trivial⟩ ?_
 refine ln 2 fun hl10=>?_
 refine ln 3 fun hl11=>?_
 refine cj 4 (fun hb6=>?_) fun hb6=>?_
 try simp at hb6
 have eU:Zgr d i t most=⟨sk,n,true,(28,(n:Int))⟩:=by rw[e6,Zc1,if_neg (by omega),if_pos (by simpa using hb6)]
 refine ZE (sq (.at b2 1) rfl rfl (lb rfl) (fun _ _ h=>Zw Qf rfl (h.get 0 rfl) h.x) ?_)
 refine sy (.int (n:Nat)) (fun h=>Zz ZaW rfl (Zi h.x (mo 0 rfl)) (h.get 0 rfl) rfl h.x) ?_
 refine sq (.agg (vdC (⟨(28:Int),(n:Int)⟩:Int×Int))) rfl rfl (lb rfl) (fun a _ h=>Xr (us:=[a.eval (.const (.int .i64 28)),a.eval (.tmp 102)]) Zaj rfl (by simp) (Zk (Rel.of_lit (.int .i64 28)) (Zk (h.get 0 rfl) ZJ)) rfl h.x) ?_
 refine sy (.at b2 3) (fun h=>Zw Zdy rfl (h.get 3 rfl) h.x) ?_
 refine ZD (b:=b2) (off:=3) (es:=U5) (news:=[_,_]) hJ hJ0 Y4 rfl rfl rfl (lb rfl) rfl (fun a w h=>⟨(h.get 0 rfl),(h.get 1 rfl)⟩) ?_
 refine seK [4,5] [_,_] rfl ?_
 refine nx (tsq ?_)
 refine sy (.agg [Yg sk,lI (n:Int),lB true,lI ((⟨(28:Int),(n:Int)⟩:Int×Int).1),lI ((⟨(28:Int),(n:Int)⟩:Int×Int).2)]) (fun h=>YP (ds:=[Yg sk,lI (n:Int),lB true,lI ((⟨(28:Int),(n:Int)⟩:Int×Int).1),lI ((⟨(28:Int),(n:Int)⟩:Int×Int).2)]) Qr rfl (Zi h.x (mo 0 rfl)) (h.get 0 rfl) rfl rfl h.x) ?_
 refine kw pm2 ?_
 refine ZD (b:=b1) (off:=0) (es:=U5) (news:=U5) hJ hJ0 Zak rfl rfl rfl (lb rfl) rfl (fun a w h=>⟨(h.get 2 rfl),(h.get 0 rfl)⟩) ?_
 refine seK [2] [_] rfl ?_
 exact nx (Ze (fun a w h=>X3 (m:=0) rfl Qr h rfl rfl (by rw[eU]<;>rfl)))
 try simp at hb6
 have eU:Zgr d i t most=⟨sk,n,true,(0,0)⟩:=by rw[e6,Zc1,if_neg (by omega),if_neg (by simpa using hb6)]
 refine Zb (nx (tsq ?_))
 refine sy (.agg [Yg sk,lI (n:Int),lB true,lI (0:Int),lI (0:Int)]) (fun h=>YP (ds:=[Yg sk,lI (n:Int),lB true,lI (0:Int),lI (0:Int)]) Qr rfl (Zi h.x (mo 0 rfl)) (h.get 0 rfl) rfl rfl h.x) ?_
 refine kw pm2 ?_
 refine ZD (b:=b1) (off:=0) (es:=U5) (news:=U5) hJ hJ0 Zak rfl rfl rfl (lb rfl) rfl (fun a w h=>⟨(h.get 2 rfl),(h.get 0 rfl)⟩) ?_
 refine seK [2] [_] rfl ?_
 exact nx (Ze (fun a w h=>X3 (m:=0) rfl Qr h rfl rfl (by rw[eU]<;>rfl)))
theorem Zv9:Zl prog 20:=Zs Tryz.func20 rfl rfl
theorem Zmg:ZpU prog 47:=fun _ _ _ _ _ _=>by kernel_rfl
theorem Zps:Zl prog 39:=Zs Tryz.func39 rfl rfl
theorem Zv1:Zl prog 35:=Zs Tryz.func35 rfl rfl
theorem Zv0:Zl prog 36:=Zs Tryz.func36 rfl rfl
theorem ZpD {J:World→Prop} (hJ:Stab J) (d:Db) (i:Nat) (t:List BA) (hi:i<d.frames.length) (hck:QK d=0) (hs:ZaR t≤1000000000) (hn:t.length≤100000) (hap:∀ f∈d.frames,f.apart.length≤100000):Fn prog J 36 [.agg (dbC d),.int (i:Nat),.rd (Zg t)] (.agg (vdC (ZiH d.frames d.vars (ge d.frames i) (Q8 (d.frames.take i)) t))):=by
 refine Zo (N:=12) Tryz.func36 rfl rfl (lb rfl) fun S w0 hS hJ0=>?_
 refine tw Z1 ?_
 refine ln 2 fun hl1=>?_
 refine tsq ?_
 refine sy (.ptr (dbC d)) (fun h=>Yq rfl (h.get 0 rfl) (Zp hS _ h.keep h.x _ (Nat.le_refl _)) (jo hJ h.x)) ?_
 refine Z4 Zac hJ rfl rfl rfl (lb rfl) fun b1=>?_
 refine seK [0,1,3,4] U4 rfl ?_
 refine nx (tsq ?_)
 refine snK 3 tb rfl ?_
 refine sy (.agg (rsC (Zgr d i t 2001))) (fun h=>Zbw (c_Run hJ d i t 2001 (by exact hi) (by exact hck) (by exact hn) (by exact hs) (by exact hap)) Zv9 rfl (Zp hS _ h.keep h.x) (h.x.1) (Za (h.get 2 rfl) (Za (h.get 1 rfl) (Za (h.get 0 rfl) (Za (Rel.of_lit (.int .i64 2001)) Zh)))) (jo hJ h.x)) ?_
 refine sy (.agg (vdC ((Zgr d i t 2001).v))) (fun h=>ZqF Zmg rfl (h.get 0 rfl) h.x) ?_
 refine ZD (b:=b1) (off:=0) (es:=[_,_]) (news:=[_,_]) hJ hJ0 Y4 rfl rfl rfl (lb rfl) rfl (fun a w h=>⟨(h.get 5 rfl),(h.get 0 rfl)⟩) ?_
 refine seK [5] [_] rfl ?_
 exact nx (Ze (fun a w h=>X3 (m:=0) rfl Qs h rfl rfl (show(_:List CD)=[lI ((ZiH d.frames d.vars (ge d.frames i) (Q8 (d.frames.take i)) t).1),lI ((ZiH d.frames d.vars (ge d.frames i) (Q8 (d.frames.take i)) t).2)]from by rw[←Zqn (most:=2001) hck hi (by have:=Zoz (t:=t) hck hi;omega)])))
theorem Zwe {J:World→Prop} (hJ:Stab J) (d:Db) (z:Int) (hw:∀ i,i<d.frames.length→(ge d.frames i).wide.length*32≤140737488351232):Fn prog J 35 [.agg (dbC d),.int z] (.int (X6 d z)):=by
 refine Zo (N:=20) Tryz.func35 rfl rfl (lb rfl) fun S w0 hS hJ0=>?_
 clear hJ0
 refine hqs tb hJ [1,1000] [.ptr (dbC d),_] [0] [_,_] rfl ⟨fun _ _ hk hx hl _=>Yq rfl (hl.env 0 0 _ rfl rfl) (hS _ hk.size) (js hJ hx),trivial⟩ ?_
 refine Zf (hqs tb hJ [0,1,1002] [_,.int (QK d),_] [1] U3 rfl ⟨iFn hS hJ (ZpH hJ d (by exact hw)) Zps,trivial⟩ ?_)
 refine qs tb hJ [0,1,2,1001] [_,_] U4 ?_
 refine cj 3 (fun hb1=>?_) fun hb1=>?_
 try simp at hb1
 have e3:X6 d z=QK d:=by rw[X6,if_pos (by simpa using hb1)]
 refine qs tb hJ [1001] [_,_] [_] ?_
 exact Ze (rtn (m:=0) rfl rfl (eI (by rw[e3])))
 try simp at hb1
 refine Zb (nx (Zf (hqs tb hJ [1008] [_,_,_,_,_,_,.int (d.frames.length:Nat),_,_] [6] [_] rfl ⟨Z2 Xv,trivial⟩ ?_)))
 refine cj 0 (fun hb2=>?_) fun hb2=>?_
 have e3:X6 d z=5:=by rw[X6,if_neg (by simpa using hb1),if_pos (by simpa using hb2)]
 refine qs tb hJ [1000] [_] [_] ?_
 exact Ze (rtn (m:=0) rfl rfl (eI (by rw[e3])))
 have e3:X6 d z=0:=by rw[X6,if_neg (by simpa using hb1),if_neg (by simpa using hb2)]
 refine Zb (nx (qs tb hJ [1000] [_] [_] ?_))
 exact Ze (rtn (m:=0) rfl rfl (eI (by rw[e3])))
end Go.Proofs.YtneapgbkkkjagaaGreatDoor
set_option maxHeartbeats 8000000
set_option maxRecDepth 100000
namespace Go.Proofs.YtneapgbkkkjagaaGreatDoor
open Go.RowKit
theorem Zir {J:World→Prop} (hJ:Stab J) (d:Db) (z:Int) (hw:∀ i,i<d.frames.length→(ge d.frames i).wide.length*32≤140737488351232) (hap:∀ f∈d.frames,f.apart.length≤100000) (hpl:∀ f∈d.frames,f.proof.length≤100000∧ZaR f.proof≤1000000000):Fn Tryz.prog J 13 [.agg (dbC d),.int z] (.tup [.agg (vdC ((XF d z).1)),.int ((XF d z).2)]):=by
 refine Zo (N:=31) Tryz.func13 rfl rfl (lb rfl) fun S w0 hS hJ0=>?_
 refine tw Z1 ?_
 refine tsq ?_
 refine sy (.ptr (dbC d)) (fun h=>Yq rfl (h.get 0 rfl) (Zp hS _ h.keep h.x _ (Nat.le_refl _)) (jo hJ h.x)) ?_
 refine Z4 Zac hJ rfl rfl rfl (lb rfl) fun b1=>?_
 refine snK 1 tb rfl ?_
 refine seK [1,2,4] U3 rfl ?_
 refine nx (Zf (ZG tb hJ [0,1,2,1003] [_,_,.int (X6 d z),_] [2] U4 rfl ⟨iFo hS hJ (Zwe hJ d z (by exact hw)) Zv1,trivial⟩ ?_))
 refine qso tb hJ [0,1,2,3,1001] [_,_] U5 ?_
 refine cj 4 (fun hb1=>?_) fun hb1=>?_
 ·
  try simp at hb1
  refine tsq ?_
  refine sy (.agg (vdC (⟨0,0⟩:Int×Int))) (fun h=>Yh (ps:=[]) (us:=[.int .i64 0,.int .i64 0]) QX rfl (by simp) Zdd rfl (YB (.lit _ True.intro) (YB (.lit _ True.intro) ZJ)) h.x) ?_
  refine snK 1 tb rfl ?_
  refine ZD (b:=b1) (off:=0) (es:=[_,_]) (news:=[_,_]) hJ hJ0 Y4 rfl rfl rfl (lb rfl) rfl (fun a w h=>⟨(h.get 2 rfl),(h.get 1 rfl)⟩) ?_
  refine snK 1 tb rfl ?_
  refine seK [0,3] [_,_] rfl ?_
  exact nx (Ze (fun a w h=>Q1 (m:=1) (q:=0) rfl Qs h rfl rfl (show(_:List CD)=[lI (((XF d z).1).1),lI (((XF d z).1).2)]from by first | (simp[XF,hb1];done) | (simp[XF,Zdi,hb1,hb2];done) | (simp at hb2;simp[XF,Zdi,hb1,hb2])) rfl (eI (by first | (simp[XF,hb1];done) | (simp[XF,Zdi,hb1,hb2];done) | (simp at hb2;simp[XF,Zdi,hb1,hb2])))))
 ·
  try simp at hb1
  have ha:X6 d z=0:=by simpa using hb1
  obtain⟨hcd,hz0,hz1⟩:=Zlf ha
  have hi:z.toNat<d.frames.length:=by omega
  refine tw (sa 2 rfl (show(.int z:AV)= .int (z.toNat:Nat)from congrArg AV.int (by omega))) ?_
  refine Zb (nx (Zf (ZG tb hJ [0,1,2,1001,1006] [_,_,_,.ptr (frC (ge d.frames z.toNat)),_,_,_] [3] U5 rfl ⟨iIx ZS,trivial⟩ ?_)))
  refine ln 3 fun hl1=>?_
  refine cj 4 (fun hb2=>?_) fun hb2=>?_
  ·
   try simp at hb2
   refine tsq ?_
   refine sy (.agg (vdC (⟨0,0⟩:Int×Int))) (fun h=>Yh (ps:=[]) (us:=[.int .i64 0,.int .i64 0]) QX rfl (by simp) Zdd rfl (YB (.lit _ True.intro) (YB (.lit _ True.intro) ZJ)) h.x) ?_
   refine ZD (b:=b1) (off:=0) (es:=[_,_]) (news:=[_,_]) hJ hJ0 Y4 rfl rfl rfl (lb rfl) rfl (fun a w h=>⟨(h.get 1 rfl),(h.get 0 rfl)⟩) ?_
   refine snK 1 tb rfl ?_
   refine seK [0,2] [_,_] rfl ?_
   exact nx (Ze (fun a w h=>Q1 (m:=1) (q:=0) rfl Qs h rfl rfl (show(_:List CD)=[lI (((XF d z).1).1),lI (((XF d z).1).2)]from by first | (simp[XF,hb1];done) | (simp[XF,Zdi,hb1,hb2];done) | (simp at hb2;simp[XF,Zdi,hb1,hb2])) rfl (eI (by first | (simp[XF,hb1];done) | (simp[XF,Zdi,hb1,hb2];done) | (simp at hb2;simp[XF,Zdi,hb1,hb2])))))
  ·
   try simp at hb2
   refine Zb (nx (Zf (fun a w h=>X1 [] (γ:=Unit) (fun ix'=>([.agg (dbC d),.int (z.toNat:Nat),.ptr [ZfP d.frames],.rd (ZfP d.frames),.int (z.toNat:Nat),.ptr (frC (ge d.frames z.toNat)),.ptr [Zg ((ge d.frames z.toNat).proof)],.rd (Zg ((ge d.frames z.toNat).proof)),.agg (vdC (ZiH d.frames d.vars (ge d.frames z.toNat) (Q8 (d.frames.take z.toNat)) ((ge d.frames z.toNat).proof))),.any,.int (0:Int)]:List AV).getD ix' .any) (fun _=>true) [(4,fun(g:Unit)=>.at b1 0),(5,fun(g:Unit)=>.int (0:Int))] (fun(j':Nat) (g:Unit)=>match j' with | 0=>[OB.var b1 [lI 0,lI 0]] | _=>[OB.var b1 [lI ((ZiH d.frames d.vars (ge d.frames z.toNat) (Q8 (d.frames.take z.toNat)) ((ge d.frames z.toNat).proof)).1),lI ((ZiH d.frames d.vars (ge d.frames z.toNat) (Q8 (d.frames.take z.toNat)) ((ge d.frames z.toNat).proof)).2)]]) (fun(k':Nat) (g:Unit)=>match k' with | 0=>undef | _=>undef) [9] 1 () (fun _=>rfl) h hJ YC rfl rfl rfl rfl rfl rfl (fun j' g hj p hp=>by cases hp) ⟨?_,⟨?_,⟨?_,⟨?_,⟨?_,⟨?_,⟨?_,⟨?_,⟨?_,⟨?_,⟨?_,trivial⟩⟩⟩⟩⟩⟩⟩⟩⟩⟩⟩ ⟨?e6_1_0,trivial⟩ ⟨.old 0 4 _ rfl rfl,⟨.new 10 5 _ rfl rfl rfl,trivial⟩⟩ ?n6_1)))
   exact oX rfl fun hx hl=>Zao Zee rfl (hl.env 1 2 _ rfl rfl) (Nat.le_refl _) hx
   exact oX rfl fun hx hl=>Z5 rfl (hl.env 2 1 _ rfl rfl) hx
   exact oX rfl fun hx hl=>ZQ QG rfl (hl.env 1 2 _ rfl rfl) hx
   exact oX rfl fun hx hl=>ZI Zey rfl (hl.D 2 24 rfl rfl) hx
   exact oX rfl fun hx hl=>Z5 rfl (hl.env 2 1 _ rfl rfl) hx
   exact oX rfl fun hx hl=>ZO (i:=(z.toNat:Int)) ZS rfl (hl.D 3 25 rfl rfl) (hl.D 4 26 rfl rfl) (Int.natCast_nonneg _) (ZU (xs:=d.frames) (k:=z.toNat) sfz) rfl hx
   exact oX rfl fun hx hl=>ZQ ZfT rfl (hl.D 5 27 rfl rfl) hx
   exact oX rfl fun hx hl=>ZI XI rfl (hl.D 6 28 rfl rfl) hx
   exact oY rfl fun hk hx hl=>Zbw (ZpD hJ d z.toNat ((ge d.frames z.toNat).proof) (by exact hi) (by exact hcd) (by exact(hpl _ (Zv hi)).2) (by exact(hpl _ (Zv hi)).1) (by exact hap)) Zv0 rfl (Zp hS _ hk hx) (hx.1) (Za (hl.D 0 22 rfl rfl) (Za (hl.D 1 23 rfl rfl) (Za (hl.D 7 29 rfl rfl) Zh))) (jo hJ hx)
   exact Zn rfl
   exact fun _ O' _=>⟨rfl,fun _ _ _ hx _ _=>XC rfl (Rel.of_lit (.int .i64 0)) hx⟩
   case e6_1_0=>exact⟨_,rfl,rfl,rfl,rfl,fun g _ w hk hx hl _=>(by obtain⟨us2,hv2,hr3⟩:=Q0 (hl.D 8 30 rfl rfl);exact ZB (Xt (off:=0) (news:=[_,_]) (es:=[_,_]) (us:=us2) hJ hJ0 Y4 rfl hk hx (hl.env 0 4 _ rfl rfl) (by rw[hv2];rfl) hr3 (lb rfl) rfl) fun v w' hp=>⟨g,rfl,fun _ _=>rfl,fun e=>(by cases e),hp⟩)⟩
   clear a w h
   intro _
   dsimp only[List.map]
   exact nx (Ze (fun a w h=>Q1 (m:=0) (q:=1) rfl Qs h rfl rfl (show(_:List CD)=[lI (((XF d z).1).1),lI (((XF d z).1).2)]from by first | (simp[XF,hb1];done) | (simp[XF,Zdi,hb1,hb2];done) | (simp at hb2;simp[XF,Zdi,hb1,hb2])) rfl (eI (by first | (simp[XF,hb1];done) | (simp[XF,Zdi,hb1,hb2];done) | (simp at hb2;simp[XF,Zdi,hb1,hb2])))))
end Go.Proofs.YtneapgbkkkjagaaGreatDoor
namespace Go.Proofs.YtneapgbkkkjagaaGreatDoor
structure Exm where
 proof:List BA
 v:Int×Int
instance instInhExm:Inhabited Exm:=⟨⟨[],(0,0)⟩⟩
def exC (e:Exm):List CD:=[Zg e.proof,.lit (.int .i64 e.v.1),.lit (.int .i64 e.v.2)]
def exsC (l:List Exm):CD:=.sl (l.map exC)
def Zdg:BA:=⟨#[119,112,104]⟩
def Zge:BA:=⟨#[119,112,115]⟩
def Zbu:BA:=⟨#[97,120,45,49]⟩
def Zws:BA:=⟨#[119,102,102]⟩
def phT:BA:=⟨#[112,104]⟩
def psT:BA:=⟨#[112,115]⟩
def opT:BA:=⟨#[40]⟩
def clT:BA:=⟨#[41]⟩
def arT:BA:=⟨#[45,62]⟩
def tuT:BA:=⟨#[124,45]⟩
def exsD:List Exm:=[⟨[Zdg,Zge,Zbu],(0,0)⟩,⟨[Zdg,Zbu],(23,1)⟩,⟨[opT,Zbu,clT,⟨#[65,66,67]⟩],(0,0)⟩,⟨[opT,clT,⟨#[65,66,68]⟩],(21,0)⟩,⟨[Zge,Zdg,Zbu],(28,3)⟩]
def ZiS:Hy:=⟨Zdg,true,[Zws,phT]⟩
def ZiR:Hy:=⟨Zge,true,[Zws,psT]⟩
def smTx:List BA:=[tuT,opT,phT,arT,opT,psT,arT,phT,clT,clT]
def Zwu:Fr:=⟨Zbu,false,[ZiS,ZiR],[],smTx,[],[],[]⟩
def Zwt (p:List BA):Fr:=⟨⟨#[116,104]⟩,true,[ZiS,ZiR],[],smTx,[],[],p⟩
def Y2 (p:List BA):Db:=⟨[Zws,tuT,opT,clT,arT],[phT,psT],[Zwu,Zwt p]⟩
theorem sam0:XF (Y2 (ge exsD 0).proof) 1=((ge exsD 0).v,0):=by kernel_rfl
theorem sam1:XF (Y2 (ge exsD 1).proof) 1=((ge exsD 1).v,0):=by kernel_rfl
theorem sam2:XF (Y2 (ge exsD 2).proof) 1=((ge exsD 2).v,0):=by kernel_rfl
theorem sam3:XF (Y2 (ge exsD 3).proof) 1=((ge exsD 3).v,0):=by kernel_rfl
theorem sam4:XF (Y2 (ge exsD 4).proof) 1=((ge exsD 4).v,0):=by kernel_rfl
theorem Zuf {k:Nat} (h:k<exsD.length):XF (Y2 (ge exsD k).proof) 1=((ge exsD k).v,0):=by
 have:k=0∨k=1∨k=2∨k=3∨k=4:=by
  have:exsD.length=5:=rfl
  omega
 rcases this with rfl | rfl | rfl | rfl | rfl
 · exact sam0
 · exact sam1
 · exact sam2
 · exact sam3
 · exact sam4

def Zjd (h:Hy):Bool:=decide ((60:Int)< ((h.text.length:Nat):Int))
def Zm5 (s:BA):Bool:=decide ((400:Int)< ((s.size:Nat):Int))
def Zl5 (m:Int) (f:Fr):Bool:=decide (m< ((f.proof.length:Nat):Int))||decide ((60:Int)< ((f.text.length:Nat):Int))||decide ((60:Int)< ((f.hyps.length:Nat):Int))||decide ((60:Int)< ((f.dummies.length:Nat):Int))||decide ((200:Int)< ((f.apart.length:Nat):Int))||decide ((300:Int)< ((f.wide.length:Nat):Int))||f.hyps.any Zjd||f.dummies.any Zjd||f.proof.any Zm5
def Zeq (d:Db) (n m:Int):Bool:=decide (((d.frames.length:Nat):Int)≤n)&&decide (((d.consts.length:Nat):Int)≤(200:Int))&&decide (((d.vars.length:Nat):Int)≤(60:Int))&& !(d.frames.any (Zl5 m))
theorem sum_le {l:List BA} {m:Nat} (h:∀ s∈l,s.size≤m):ZaR l≤l.length*m:=by
 induction l with
 | nil=>simp[ZaR]
 | cons s l ih=>
  have h1:=h s (by simp)
  have h2:=ih fun x hx=>h x (by simp[hx])
  simp only[ZaR,List.map_cons,List.sum_cons,List.length_cons,Nat.succ_mul]at h2 ⊢
  omega
theorem Zqj {d:Db} {n m:Int} (h:Zeq d n m=true) (hm:m≤100000):∀ g∈d.frames,g.proof.length≤100000∧ZaR g.proof≤1000000000:=fun g hg=>by
 simp only[Zeq,Bool.and_eq_true,Bool.not_eq_true',List.any_eq_false]at h
 have h1:=h.2 g hg
 simp only[Zl5,Bool.or_eq_true,not_or,decide_eq_true_eq,Bool.not_eq_true,List.any_eq_false]at h1
 have h2:∀ s∈g.proof,s.size≤400:=fun s hs=>by
  have:=h1.2 s hs
  simp[Zm5]at this
  omega
 have h3:=sum_le h2
 have h4:g.proof.length≤100000:=by have:=h1.1.1.1.1.1.1.1.1;omega
 refine⟨h4,?_⟩
 have:g.proof.length*400≤100000*400:=Nat.mul_le_mul_right _ h4
 omega
theorem sam_hw (p:List BA):∀ f∈(Y2 p).frames,f.wide.length*32≤140737488351232:=fun f hf=>by
 have:f=Zwu∨f=Zwt p:=by simpa [Y2]using hf
 rcases this with rfl | rfl<;>exact Nat.zero_le _
theorem sam_pl {k:Nat} (hk:k<exsD.length):∀ g∈(Y2 (ge exsD k).proof).frames,g.proof.length≤100000∧ZaR g.proof≤1000000000:=fun g hg=>by
 have:g=Zwu∨g=Zwt (ge exsD k).proof:=by simpa [Y2]using hg
 have hk2:k=0∨k=1∨k=2∨k=3∨k=4:=by
  have:exsD.length=5:=rfl
  omega
 rcases this with rfl | rfl
 · exact⟨Nat.zero_le _,Nat.zero_le _⟩
 · rcases hk2 with rfl | rfl | rfl | rfl | rfl<;>exact⟨of_decide_eq_true (by kernel_rfl),of_decide_eq_true (by kernel_rfl)⟩
end Go.Proofs.YtneapgbkkkjagaaGreatDoor
