/-
  DERIVED: the shelf's contracts at this dump, in plain words.
  CONTRACTS of the program: a proof's brackets.
  CONTRACT of the program: the letters of a compressed proof.
  CONTRACTS of the program: a label among the hypotheses'.
  CONTRACT of the program: what is checked ahead.
  WHAT THE STACK MACHINE KEEPS (plain).
  WHAT IS READ CAN BE WORKED (plain).
  WHAT A RIGHT DATABASE GIVES THE STACK MACHINE (plain).
  WHAT IS READ, ITEM BY ITEM (plain).
  CONTRACT of the program: a proof's words are read.
  CONTRACTS of the program: the machine's reading, guarded.
  THE ENGINE: a machine is built.
  THE ENGINE: a region in which several operations turn what is owned, in whatever order the text leaves open.
  CONTRACT of the program: the machine of a proof.
  CONTRACT of the program: a verdict.
-/
import Derived.Test.YtdgbcfloaenhbaaGreatDoorXAB
namespace Go.Proofs
open Go.Shelf
def Tryz.lays156_ren:Go.Shelf.Ren:=⟨fun | 156=>36 | 165=>43 | 166=>44 | 169=>45 | 240=>53 | 241=>54 | 276=>78 | 277=>79 | n=>n,fun | 31=>22 | 9=>9 | 3=>3 | 4=>4 | 0=>0 | 20=>20 | 72=>85 | 76=>89 | 70=>82 | 37=>83 | 75=>88 | 127=>110 | 164=>133 | 5=>5 | 80=>91 | n=>n,fun | n=>n⟩
theorem Tryz.lays156:Go.Proofs.Lays.n156 Tryz.prog Tryz.lays156_ren:= {
 mixed:=by kernel_rfl
 f156:=Tryz.func36.trans (congrArg some (by kernel_rfl))
 f165:=Tryz.func43.trans (congrArg some (by kernel_rfl))
 f166:=Tryz.func44.trans (congrArg some (by kernel_rfl))
 f169:=Tryz.func45.trans (congrArg some (by kernel_rfl))
 f240:=Tryz.func53.trans (congrArg some (by kernel_rfl))
 f241:=Tryz.func54.trans (congrArg some (by kernel_rfl))
 f276:=Tryz.func78.trans (congrArg some (by kernel_rfl))
 f277:=Tryz.func79.trans (congrArg some (by kernel_rfl))
 t0:=Tryz.underlying0
 a0:=Tryz.isAgg0
 z0:=Tryz.sizeOf0
 v0:=Tryz.zeroValue0
 t3:=Tryz.underlying3
 a3:=Tryz.isAgg3
 z3:=Tryz.sizeOf3
 v3:=Tryz.zeroValue3
 t4:=Tryz.underlying4
 a4:=Tryz.isAgg4
 z4:=Tryz.sizeOf4
 v4:=Tryz.zeroValue4
 t9:=Tryz.underlying9
 a9:=Tryz.isAgg9
 z9:=Tryz.sizeOf9
 v9:=Tryz.zeroValue9
 t20:=Tryz.underlying20
 a20:=Tryz.isAgg20
 z20:=Tryz.sizeOf20
 v20:=Tryz.zeroValue20
 t31:=Tryz.underlying22
 a31:=Tryz.isAgg22
 z31:=Tryz.sizeOf22
 v31:=Tryz.zeroValue22
 t37:=Tryz.underlying83
 a37:=Tryz.isAgg83
 z37:=Tryz.sizeOf83
 v37:=Tryz.zeroValue83
 t70:=Tryz.underlying82
 a70:=Tryz.isAgg82
 z70:=Tryz.sizeOf82
 v70:=Tryz.zeroValue82
 t72:=Tryz.underlying85
 a72:=Tryz.isAgg85
 z72:=Tryz.sizeOf85
 v72:=Tryz.zeroValue85
 t75:=Tryz.underlying88
 a75:=Tryz.isAgg88
 z75:=Tryz.sizeOf88
 v75:=Tryz.zeroValue88
 t76:=Tryz.underlying89
 a76:=Tryz.isAgg89
 z76:=Tryz.sizeOf89
 v76:=Tryz.zeroValue89
 t127:=Tryz.underlying110
 a127:=Tryz.isAgg110
 z127:=Tryz.sizeOf110
 v127:=Tryz.zeroValue110
 t164:=Tryz.underlying133
 a164:=Tryz.isAgg133
 z164:=Tryz.sizeOf133
 v164:=Tryz.zeroValue133 }
theorem Tryz.Builder_Extra_156:Builder.Extra Tryz.prog Tryz.lays156_ren:= {
 sizeBuilder:=by kernel_rfl
 liesBuilder:=by kernel_rfl
 t5:=Tryz.underlying5
 a5:=Tryz.isAgg5
 z5:=Tryz.sizeOf5
 v5:=Tryz.zeroValue5
 infoByte:=by kernel_rfl
 cellsByte:=by kernel_rfl
 sizeByte:=by kernel_rfl
 neB5:=by decide }
open Go.RowKit in
theorem Tryz.strings_Join_none (a:Option Addr) (c:Nat) (sep:ByteArray) (w:World):
 Calls Tryz.prog 36 #[.slice a 0 c,.string sep] w fun e w'=>e= .returned (.string ⟨#[]⟩)∧w'=w:=Any.strings_Join_none Tryz.lays156 Tryz.Builder_Extra_156 a c sep w
open Go.RowKit in
theorem Tryz.strings_Join (bk o c:Nat) (xs:List ByteArray) (sep:ByteArray) (w:World) (hcells:∀(j:Nat) x,xs[j]?=some x→w.cell? ⟨bk,o+j,none⟩=some (.string x)) (hbk:bk<w.heap.size) (hN:xs.length≤140737488355328) (hcap:xs.length≤c) (hlen:(Lib.join (xs.map (·.data.toList)) sep.data.toList).length≤140737488355328):
 Calls Tryz.prog 36 #[.slice (some ⟨bk,o,none⟩) xs.length c,.string sep] w fun e w'=>e= .returned (.string ⟨(Lib.join (xs.map (·.data.toList)) sep.data.toList).toArray⟩)∧Below w.heap.size w w':=Any.strings_Join Tryz.lays156 Tryz.Builder_Extra_156 bk o c xs sep w hcells hbk hN hcap hlen
end Go.Proofs
set_option maxHeartbeats 8000000
set_option maxRecDepth 100000
namespace Go.Proofs.YtdgbcfloaenhbaaGreatDoor
open Go.RowKit
theorem ZnT {J:World→Prop} (hJ:Stab J) (xs:List ByteArray) (s:ByteArray)  :Fn Tryz.prog J 32 [.rd (Zb xs),.str s] (.int (Z9 (isV s) xs)):=by
 refine Zw (N:=19) Tryz.func32 rfl rfl (lb rfl) fun S w0 hS hJ0=>?_
 clear hJ0
 refine ln 0 fun hl1=>?_
 refine qs tb hJ [0,1] [_] [_,_] ?_
 refine Zk (hqs tb hJ [0,1,1001,1002] [_,.int (xs.length:Nat),_] [1] [_,_,_,_] rfl ⟨YK Zx,trivial⟩ ?_)
 refine Zf (lp (ι:=Nat) (fun k=>(k≤xs.length)∧(∀ j,j<k→isV s (ge xs j)=false)) (fun k=>[(8,.int (k:Nat))]) (fun k=>xs.length-k) [0,1,2,3] [_,_,_] 0 ⟨Nat.zero_le _,fun j hj=>by omega⟩ ?_)
 rintro k ⟨f1_1,f1_2⟩
 refine qs tb hJ [0,1,2,3,1000] [_] [_,_,_,_,_] ?_
 refine cjS 4 (fun hb1=>?_) fun hb1=>?_
 try simp at hb1
 refine Zc (nx (Zk (Zf (qs tb hJ [0,1,2,3,1001] [_,_] [_,_,_,_,_] ?_))))
 refine hqs tb hJ [0,1,2,3,4,1005] [_,_,_,.ptr [.lit (.string (ge xs k))],_,_] [3] [_,_,_,_,_,_] rfl ⟨iIx Zi,trivial⟩ ?_
 refine cj 5 (fun hb2=>?_) fun hb2=>?_
 try simp at hb2
 refine qs tb hJ [1001] [_,_] [_] ?_
 exact Zg (rtn (m:=0) rfl rfl (eI (by first | exact(Xa hb1 (by simpa [isV]using hb2) f1_2).symm | exact(YH fun j hj=>f1_2 j (by omega)).symm)))
 try simp at hb2
 refine Zc (nx (hqp tb hJ [0,1,2,1001] [.int (k+1:Nat),_] [0] [_,_,_,_] rfl ⟨Yw,trivial⟩ ?_))
 exact lpE (k+1) [0,1,2,3] ⟨by omega,ZZ f1_2 (by simpa [isV]using hb2)⟩
 try simp at hb1
 refine ZB (nx (qs tb hJ [1000] [_] [_] ?_))
 exact Zg (rtn (m:=0) rfl rfl (eI (by first | exact(Xa hb1 (by simpa [isV]using hb2) f1_2).symm | exact(YH fun j hj=>f1_2 j (by omega)).symm)))
theorem Zi9 {S:Nat→Prop} {w:World} {xs:List ByteArray} {v:Value} (h:Rd S w (Zb xs) v):(xs=[]∧∃ a c,v= .slice a 0 c)∨ ∃ b off cap,v= .slice (some ⟨b,off,none⟩) xs.length cap∧xs.length≤cap∧b<w.heap.size∧∀(j:Nat) (x:ByteArray),xs[j]?=some x→w.cell? ⟨b,off+j,none⟩=some (.string x):=by
 unfold Zb at h
 generalize hr:xs.map Zav=rows at h
 cases h with
 | nil a cap hm=>exact .inl ⟨by simpa using hr,a,cap,rfl⟩
 | sl b off cap n rows vs hl hm hb hS hn hc hrd=>
  subst hr
  refine .inr ⟨b,off,cap,by rw[List.length_map],by simpa using hl,hb,fun j x hj=>?_⟩
  have hjl:j<xs.length:=(List.getElem?_eq_some_iff.1 hj).1
  have hrow:(xs.map Zav)[j]?=some (Zav x):=by rw[List.getElem?_map,hj];rfl
  have hn1:n=1:=(hn _ (List.mem_of_getElem? hrow)).symm
  subst hn1
  have h1:=hc j 0 (by simpa using hjl) (by omega)
  have h2:=(hrd j 0 _ _ hrow (show(Zav x)[0]?=some (.lit (.string x))from rfl)).of_lit
  rw[h2]at h1
  simpa using h1
theorem p_Join {J:World→Prop} (hJ:Stab J) (xs:List ByteArray) (s:ByteArray) (hn:xs.length≤140737488355328) (hl:(Lib.join (xs.map (·.data.toList)) s.data.toList).length≤140737488355328):Fn Tryz.prog J 36 [.rd (Zb xs),.str s] (.str (ZaO xs s)):=by
 intro S w vs hS hJ0 h
 simp only[RelL]at h
 obtain⟨u,_,rfl,h1,u2,_,rfl,h2,rfl⟩:=h
 rw[h2.lit]
 have hok:okLit (.string (ZaO xs s)):=by
  show(ZaO xs s).size≤maxLen
  simp only[ZaO,ByteArray.size,List.size_toArray,maxLen]
  omega
 simp only[Rel]at h1
 rcases Zi9 h1 with⟨rfl,a,c,rfl⟩ | ⟨b,off,cap,rfl,hcap,hb,hc⟩
 · exact Calls.mono (Tryz.strings_Join_none a c s w) fun e w' ⟨he,hw⟩=>⟨_,he,Rel.of_lit _ hok,hw▸Keeps.refl _ _,hw▸hJ0⟩
 · refine Calls.mono (Tryz.strings_Join b off cap xs s w hc hb hn hcap hl) fun e w' ⟨he,hw⟩=>?_
   have hk:Keeps All w w':=⟨hw.os,hw.tape,hw.output,hw.size,fun k hk _=>hw.block k hk⟩
   exact⟨_,he,Rel.of_lit _ hok,hk,hJ _ _ hk hJ0⟩
theorem Zcq {J:World→Prop} (hJ:Stab J) (l:List ByteArray)  :Fn Tryz.prog J 15 [.rd (Zb l)] (.bool (Qn l)):=by
 refine Zw (N:=12) Tryz.func15 rfl rfl (lb rfl) fun S w0 hS hJ0=>?_
 clear hJ0
 refine ln 0 fun hl1=>?_
 refine qs tb hJ [0] [_] [_] ?_
 refine hqs tb hJ [1009] [_,.int (l.length:Nat),_,_,_,.ptr [.lit (.string (ge l 0))],_,_,_,_] [1,5] [_] rfl ⟨YK Zx,gIx (k:=0) Zi (hk:=fun(hc':((decide ((0:Int)< (l.length:Int)))==true)=true)=>by(try simp at hc');first | omega | (simp;omega) | grind[ZM]),trivial⟩ ?_
 exact Zg (rtn (m:=0) rfl rfl (eB (by unfold Qn;by_cases h9:0<l.length<;>simp[h9])))
theorem ZnK {J:World→Prop} (hJ:Stab J) (s:ByteArray)  :Fn Tryz.prog J 34 [.str s] (.bool (!QN s)):=by
 refine Zw (N:=6) Tryz.func34 rfl rfl (lb rfl) fun S w0 hS hJ0=>?_
 clear hJ0
 refine qs tb hJ [0] [_] [_] ?_
 refine hqs tb hJ [1003] [_,.bool (QN s),_,_] [1] [_] rfl ⟨iFn hS hJ (ZbM hJ (s:=s) ) Ze9,trivial⟩ ?_
 exact Zg (rtn (m:=0) rfl rfl (eB (by first | rfl | grind[ZM])))
theorem Zk6 {J:World→Prop} (hJ:Stab J) (l:List ByteArray) (h0:Qn l=true) (hn:l.length≤100000) (hs:Zaf l≤140737488355328):FnP (ι:= {q':List ByteArray×ByteArray // XL l=some q'}) (κ:= {c:Int // XL l=none∧c=20}) Tryz.prog J 18 [] [.rd (Zb l)] [] (fun i'=>.tup [.rd (Zb (i'.1.1)),.str (i'.1.2)]) (fun _=>[]) (fun k'=>flV k'.1) (fun _=>[]):=by
 refine Xw (N:=24) Tryz.func18 rfl rfl (lb rfl) fun S w0 R hS hJ0 hH=>?_
 refine Z8 (B:=St All (SO S (R)) w0 24 [(0,.rd (Zb l))] (XO J S w0.heap.size (R))) ?_ fun a w h=>h
 refine ln 0 fun hl1=>?_
 refine qso tb hJ [0] [_,_] [_] ?_
 refine ZN tb hJ [0,1002] [_,.int (Z9 (isV (⟨#[41]⟩:ByteArray)) l),_] [1] [_,_] rfl ⟨iFo hS hJ (ZnT hJ (xs:=l) (s:=(⟨#[41]⟩:ByteArray)) ) Zr7,trivial⟩ ?_
 refine Zk (qso tb hJ [0,1,1001] [_,_] [_,_,_] ?_)
 refine cj 2 (fun hb1=>?_) fun hb1=>?_
 try simp at hb1
 refine Zz (Y7 (O:=[]) (R:=(R)) (XS hJ (c:=(20:Int)) ) YT rfl rfl rfl (lb rfl) hS hJ0 Zs (fun a w h=>(Za (Rel.of_lit (Go.Value.int Go.IntKind.i64 20)) Ze)) (fun _=>?_) (fun i=>i.elim))
 exact fun a w h=>pnP (⟨20,⟨Zid hb1,rfl⟩⟩: {c:Int // XL l=none∧c=20}) rfl a w h
 try simp at hb1
 have e1:¬ Z9 (isV ⟨#[41]⟩) l<0:=by simpa using hb1
 have e2:=Zel h0 e1
 refine Zc (nx (tw (sa 1 rfl (congrArg AV.int (show Z9 (isV (⟨#[41]⟩:ByteArray)) l=(((Z9 (isV ⟨#[41]⟩) l).toNat:Nat):Int)from by omega))) ?_))
 refine tsq ?_
 refine snK 2 tb rfl ?_
 refine sq (.rd (Zb ((l.take ((Z9 (isV ⟨#[41]⟩) l).toNat)).drop 1))) rfl rfl (lb rfl) (fun _ _ h=>Qj (ys:=(l.take ((Z9 (isV ⟨#[41]⟩) l).toNat)).drop 1) (lo:=1) (hi:=(Z9 (isV ⟨#[41]⟩) l).toNat) rfl Zi (fun _=>rfl) rfl (h.get 1 rfl) (Rel.of_lit (Go.Value.int Go.IntKind.i64 1)) (h.get 0 rfl) sfz sfz h.x) ?_
 refine Xt (O:=[]) (R:=(R)) (Zif hJ (xs:=((l.take ((Z9 (isV ⟨#[41]⟩) l).toNat)).drop 1)) sfz) ZmC rfl rfl rfl (lb rfl) hS hJ0 Zs (fun a w h=>(Za (h.get 0 rfl) Ze)) fun z3=>?_
 refine snK 1 tb rfl ?_
 refine seK [0,2,5,6] [_,_,_,_] rfl ?_
 refine nx (ln 1 fun hl2=>?_)
 refine Zk (ZpK tb hJ [0,2,3,1001] [_,.bool (((l.take ((Z9 (isV ⟨#[41]⟩) l).toNat)).drop 1).any (fun s=>!QN s))] [1] [_,_,_,_] rfl ⟨fun _ _ hk hx hl _=>Xj (YB hJ (xs:=((l.take ((Z9 (isV ⟨#[41]⟩) l).toNat)).drop 1)) (f:=34) (caps:=[]) (Os:=[]) (p:=(fun s=>!QN s)) (fun q'=>(ZnK hJ q').r) (Zr6)) ZdL rfl (nm hS hk) (hx.1) Zs (Za (QJ hS hx (mo 0 rfl) (hl.D 0 15 rfl rfl)) (Za (QH 34) Ze)) (jo hJ hx),trivial⟩ ?_)
 refine cj 3 (fun hb2=>?_) fun hb2=>?_
 try simp at hb2
 refine Zz (Y7 (O:=[]) (R:=(OB.row z3 9 1 (((l.take ((Z9 (isV ⟨#[41]⟩) l).toNat)).drop 1).map Zav)::R)) (XS hJ (c:=(20:Int)) ) YT rfl rfl rfl (lb rfl) hS hJ0 Zs (fun a w h=>(Za (Rel.of_lit (Go.Value.int Go.IntKind.i64 20)) Ze)) (fun _=>?_) (fun i=>i.elim))
 refine kw Zy ?_
 exact fun a w h=>pnP (⟨20,⟨ZfL e1 (by simpa using hb2),rfl⟩⟩: {c:Int // XL l=none∧c=20}) rfl a w h
 try simp at hb2
 refine Zc (nx (tw (sa 2 rfl (congrArg AV.int (show(((Z9 (isV ⟨#[41]⟩) l).toNat:Nat):Int)=(((Z9 (isV ⟨#[41]⟩) l).toNat:Nat):Int)from by omega))) ?_))
 refine ZN tb hJ [1004,1006,1007] [_,_,_,.int ((Z9 (isV ⟨#[41]⟩) l).toNat+1:Nat),.rd (Zb (l.drop ((Z9 (isV ⟨#[41]⟩) l).toNat+1))),.str (ZaO (l.drop ((Z9 (isV ⟨#[41]⟩) l).toNat+1)) (⟨#[]⟩:ByteArray)),_,_] [3,4,5] [_,_,_] rfl ⟨Yw,fun _ _ _ hx hl _=>Qj (ys:=l.drop ((Z9 (isV ⟨#[41]⟩) l).toNat+1)) (lo:=(Z9 (isV ⟨#[41]⟩) l).toNat+1) (hi:=l.length) (by rw[List.take_length]) Zi (fun _=>rfl) rfl (hl.D 1 19 rfl rfl) (hl.D 3 21 rfl rfl) rfl sfz sfz hx,iFo hS hJ (p_Join hJ (xs:=(l.drop ((Z9 (isV ⟨#[41]⟩) l).toNat+1))) (s:=(⟨#[]⟩:ByteArray)) (by simp;omega) (by exact Nat.le_trans (Zge l _) hs)) Zr5,trivial⟩ ?_
 refine ln 0 fun hl3=>?_
 refine tw (fun h=>Yr hS h (m:=1) (s:=2) rfl) ?_
 exact Zg (fun a w h=>lvP (Zbt  (m:=0) (k:=2) ⟨((l.take (Z9 (isV ⟨#[41]⟩) l).toNat).drop 1,ZaO (l.drop ((Z9 (isV ⟨#[41]⟩) l).toNat+1)) ⟨#[]⟩),Zic e1 (by simpa using hb2)⟩ rfl h rfl rfl (Zqh (congrArg (fun z=>AV.rd (Zb z)) (show((l.take ((Z9 (isV ⟨#[41]⟩) l).toNat)).drop 1)=((l.take (Z9 (isV ⟨#[41]⟩) l).toNat).drop 1)from by first | rfl | grind[ZM])) (eS (by first | rfl | grind[ZM])))))
theorem ZgC:ZcD Tryz.prog 36 [.int .i64 0,.bool false]:=⟨fun i=>(#[(0,1),(1,1)]:Array (Nat×Nat))[i]?,fun j hj=>by rcases j with _ | _ | j<;>first | rfl | (simp at hj;omega),fun parts=>by kernel_rfl⟩
theorem Zej {J:World→Prop} (hJ:Stab J) (s:ByteArray) (hs:s.size≤1000000000):SeqE Tryz.prog J 38 [] [.ptr [.lit (.string s)]] ZpN ((Zv s).1) (if(Zv s).2 then some (flV 21)else none):=by
 refine Zgo (N:=86) Tryz.func38 rfl rfl (lb rfl) fun S w0 R l κ μ σ I pv O3 O4 k0 hS hJ0 hH hY=>?_
 refine Z8 (B:=St All (SO S (I ([]) k0++R)) w0 86 [(0,.rd (.lit (.func (.yield l) #[] #[]))),(1,.ptr [.lit (.string s)])] (XO J S w0.heap.size (I ([]) k0++R))) ?_ fun a w h=>h
 refine qso tb hJ [0,1,1000,1001] [_,_] [_,_,_,_] ?_
 refine Zk (qso tb hJ [0,1,2,3,1000] [_] [_,_,_,_,_] ?_)
 refine Zf (lpo (ι:=Nat×Int×Bool×(List Lt)×κ) (fun(p,m,ins,pre,_)=>(p≤s.size)∧(0≤m∧m≤1000000)∧(Zv s=(pre++(lettersD (s.data.toList.drop p) m ins).1,(lettersD (s.data.toList.drop p) m ins).2))) (fun(_,_,_,pre,kk)=>(I pre kk++R)) (fun(p,m,ins,_,_)=>[(5,.int (p:Nat)),(3,.int m),(4,.bool ins)]) (fun(p,_,_,_,_)=>s.size-p) [0,1,4,2,3] [_,_] (0,0,false,[],k0) ⟨Nat.zero_le _,⟨by omega,by omega⟩,rfl⟩ ?_)
 rintro⟨p,m,ins,pre,kk⟩ ⟨f1_1,f1_2,f1_3⟩
 refine Zk (ZN tb hJ [0,1,2,3,4,1003] [_,_,.int (s.size:Nat),_] [2] [_,_,_,_,_,_] rfl ⟨ZpI Yb,trivial⟩ ?_)
 refine cj 5 (fun hb1=>?_) fun hb1=>?_
 try simp at hb1
 have e1:p<s.data.toList.length:=hb1
 refine Zc (nx (Zk (Zf (ZN tb hJ [0,1,2,3,4,1003] [_,_,.rd (.lit (.int .u8 ((ge s.data.toList p).toNat:Int))),_] [2] [_,_,_,_,_,_] rfl ⟨fun _ _ _ hx hl _=>ZfJ (i:=(p:Int)) Yb rfl (hl.D 0 14 rfl rfl) (hl.D 1 15 rfl rfl) (Int.natCast_nonneg _) (ZbV (s:=s) (k:=p) sfz) hx,trivial⟩ ?_))))
 refine Zf (qso tb hJ [0,1,2,3,4,5,1006] [_,_,_,_,_,_,_] [_,_,_,_,_,_,_] ?_)
 refine cj 6 (fun hb2=>?_) fun hb2=>?_
 try simp at hb2
 have e2:85≤(ge s.data.toList p).toNat∧(ge s.data.toList p).toNat≤89:=by omega
 refine Zk (ZN tb hJ [0,1,2,1007] [_,.int ((5:Int)*m),_,.rd (.lit (.int .u8 (((ge s.data.toList p).toNat:Int)-(85:Int)))),.int (((ge s.data.toList p).toNat:Int)-(85:Int)),.int ((5:Int)*m+(((ge s.data.toList p).toNat:Int)-(85:Int))),.int ((5:Int)*m+(((ge s.data.toList p).toNat:Int)-(85:Int))+(1:Int)),_] [1,3,4,5,6] [_,_,_,_] rfl ⟨fun _ _ _ hx hl _=>Znz (i:=(5:Int)) (j:=m) rfl (Rel.of_lit (Go.Value.int Go.IntKind.i64 5)) (hl.D 0 25 rfl rfl) sfz sfz hx,fun _ _ _ hx hl _=>Zh4 (i:=((ge s.data.toList p).toNat:Int)) (j:=(85:Int)) rfl (hl.D 2 27 rfl rfl) (Rel.of_lit (Go.Value.int Go.IntKind.u8 85)) sfz sfz hx,fun _ _ _ hx hl _=>ZcQ (i:=((ge s.data.toList p).toNat:Int)-(85:Int)) ZaC XH rfl (hl.D 3 28 rfl rfl) sfz sfz hx,Yw,Yw,trivial⟩ ?_)
 refine qso tb hJ [0,1,2,3,1001] [_,_] [_,_,_,_,_] ?_
 refine cj 4 (fun hb3=>?_) fun hb3=>?_
 try simp at hb3
 have e7:=Zn9 (n:=m) (ins:=ins) e1 e2
 rw[if_pos (by omega)]at e7
 refine Zz (Y7 (O:=[]) (R:=(I pre kk++R)) (XS hJ (c:=(21:Int)) ) YT rfl rfl rfl (lb rfl) hS hJ0 Zs (fun a w h=>(Za (Rel.of_lit (Go.Value.int Go.IntKind.i64 21)) Ze)) (fun _=>?_) (fun i=>i.elim))
 exact Zip (by rw[f1_3,e7];rfl) (by rw[f1_3,e7];simp) kk
 try simp at hb3
 have e7:=Zn9 (n:=m) (ins:=ins) e1 e2
 rw[if_neg (by omega)]at e7
 refine Zc (nx (qpo tb hJ [0,1,2,3,1000] [_] [_,_,_,_,_] ?_))
 refine nx (Y3 tb hJ [0,1,3,4,1002] [_,.int (p+1:Nat),_] [1] [_,_,_,_,_] rfl ⟨Yw,trivial⟩ ?_)
 exact XB (p+1,(5:Int)*m+(((ge s.data.toList p).toNat:Int)-(85:Int))+(1:Int),true,pre,kk) [0,1,4,2,3] ⟨by omega,⟨by omega,by omega⟩,by rw[f1_3,e7]⟩
 try simp at hb2
 have e2:¬ (85≤(ge s.data.toList p).toNat∧(ge s.data.toList p).toNat≤89):=by omega
 refine qso tb hJ [0,1,2,3,4,5,1006] [_,_,_,_,_,_,_] [_,_,_,_,_,_,_] ?_
 refine cj 6 (fun hb4=>?_) fun hb4=>?_
 try simp at hb4
 have e4:65≤(ge s.data.toList p).toNat∧(ge s.data.toList p).toNat≤84:=by omega
 refine Zk (ZN tb hJ [0,1,2,1007] [_,.int ((20:Int)*m),_,.rd (.lit (.int .u8 (((ge s.data.toList p).toNat:Int)-(65:Int)))),.int (((ge s.data.toList p).toNat:Int)-(65:Int)),.int ((20:Int)*m+(((ge s.data.toList p).toNat:Int)-(65:Int))),.int ((20:Int)*m+(((ge s.data.toList p).toNat:Int)-(65:Int))+(1:Int)),_] [1,3,4,5,6] [_,_,_,_] rfl ⟨fun _ _ _ hx hl _=>Znz (i:=(20:Int)) (j:=m) rfl (Rel.of_lit (Go.Value.int Go.IntKind.i64 20)) (hl.D 0 42 rfl rfl) sfz sfz hx,fun _ _ _ hx hl _=>Zh4 (i:=((ge s.data.toList p).toNat:Int)) (j:=(65:Int)) rfl (hl.D 2 44 rfl rfl) (Rel.of_lit (Go.Value.int Go.IntKind.u8 65)) sfz sfz hx,fun _ _ _ hx hl _=>ZcQ (i:=((ge s.data.toList p).toNat:Int)-(65:Int)) ZaC XH rfl (hl.D 3 45 rfl rfl) sfz sfz hx,Yw,Yw,trivial⟩ ?_)
 refine qso tb hJ [0,1,2,3,1001] [_,_] [_,_,_,_,_] ?_
 refine cj 4 (fun hb5=>?_) fun hb5=>?_
 try simp at hb5
 have e7:=ZlD (n:=m) (ins:=ins) e1 e2 e4 (by omega)
 refine Zz (Y7 (O:=[]) (R:=(I pre kk++R)) (XS hJ (c:=(21:Int)) ) YT rfl rfl rfl (lb rfl) hS hJ0 Zs (fun a w h=>(Za (Rel.of_lit (Go.Value.int Go.IntKind.i64 21)) Ze)) (fun _=>?_) (fun i=>i.elim))
 exact Zip (by rw[f1_3,e7];rfl) (by rw[f1_3,e7];simp) kk
 try simp at hb5
 refine Zc (nx (tsq ?_))
 refine snK 1 tb rfl ?_
 refine sq (.agg (ltC (⟨(20:Int)*m+(((ge s.data.toList p).toNat:Int)-(65:Int))+(1:Int),false⟩:Lt))) rfl rfl (lb rfl) (fun a _ h=>Yt (ps:=[(0,a.eval (Go.Operand.tmp 52))]) (us:=[a.eval (Go.Operand.tmp 52),.bool false]) ZgC rfl (by simp) (ZdR (lb rfl) (Rel.oneC (h.get 0 rfl)) Zew) rfl (Zj (h.get 0 rfl) (YD (.lit _ True.intro) ZI)) h.x) ?_
 refine ZV Zd7 hJ rfl rfl rfl (lb rfl) fun b5=>?_
 refine ZF (b:=b5) (off:=0) (cs:=[.lit (.int .i64 0),.lit (.bool false)]) (es:=[.lit (.int .i64 ((⟨(20:Int)*m+(((ge s.data.toList p).toNat:Int)-(65:Int))+(1:Int),false⟩:Lt).number)),.lit (.bool ((⟨(20:Int)*m+(((ge s.data.toList p).toNat:Int)-(65:Int))+(1:Int),false⟩:Lt).tagged))]) (news:=[.lit (.int .i64 ((⟨(20:Int)*m+(((ge s.data.toList p).toNat:Int)-(65:Int))+(1:Int),false⟩:Lt).number)),.lit (.bool ((⟨(20:Int)*m+(((ge s.data.toList p).toNat:Int)-(65:Int))+(1:Int),false⟩:Lt).tagged))]) hJ hJ0 ZfA rfl rfl rfl (lb rfl) rfl (fun a w h=>⟨(h.get 0 rfl),(h.get 1 rfl)⟩) ?_
 refine seK [0,3,4,5] [_,_,_,_] rfl ?_
 refine nx (Zk (ZN tb hJ [0,1,2,3,1011] [_,.int (p+1:Nat),_,.int (s.size:Nat),_,_,_,_,.int (p+1:Nat),.rd (.lit (.int .u8 ((ge s.data.toList (p+1)).toNat:Int))),_,_] [1,3,8,9] [_,_,_,_,_] rfl ⟨Yw,ZpI Yb,fun _ _ _ hx hl hc=>ZeO (i:=(p:Int)) (j:=(1:Int)) rfl (hl.D 7 61 rfl hc) (Rel.of_lit (Go.Value.int Go.IntKind.i64 1)) (by have hc':((decide (((p+1:Nat):Int)< (s.size:Int)))==true)=true:=hc;(try simp at hc');(first | omega | (simp;omega) | grind[ZM])) (by have hc':((decide (((p+1:Nat):Int)< (s.size:Int)))==true)=true:=hc;(try simp at hc');(first | omega | (simp;omega) | grind[ZM])) hx,fun _ _ _ hx hl hc=>ZfJ (i:=((p+1:Nat):Int)) Yb rfl (hl.D 6 60 rfl hc) (hl.D 8 62 rfl hc) (Int.natCast_nonneg _) (ZbV (s:=s) (k:=p+1) (by have hc':((decide (((p+1:Nat):Int)< (s.size:Int)))==true)=true:=hc;(try simp at hc');(first | omega | (simp;omega) | grind[ZM]))) hx,trivial⟩ ?_))
 refine cj 4 (fun hb6=>?_) fun hb6=>?_
 try simp at hb6
 have e0:s.data.toList.length=s.size:=rfl
 have e6:p+1<s.data.toList.length∧(ge s.data.toList (p+1)).toNat=90:=⟨by omega,by omega⟩
 have e7:=let_Z (n:=m) (ins:=ins) e1 e2 e4 (by omega) e6.1 e6.2
 refine tsq ?_
 refine sq (.at b5 1) rfl rfl (lb rfl) (fun _ _ h=>Zo ZjS rfl (h.get 0 rfl) h.x) ?_
 refine ZE (b:=b5) (off:=1) (cs:=[.lit (.int .i64 ((⟨(20:Int)*m+(((ge s.data.toList p).toNat:Int)-(65:Int))+(1:Int),false⟩:Lt).number)),.lit (.bool ((⟨(20:Int)*m+(((ge s.data.toList p).toNat:Int)-(65:Int))+(1:Int),false⟩:Lt).tagged))]) (es:=[.lit (.int .i64 ((⟨(20:Int)*m+(((ge s.data.toList p).toNat:Int)-(65:Int))+(1:Int),false⟩:Lt).number)),.lit (.bool true)]) hJ hJ0 Qi rfl rfl rfl (lb rfl) rfl (fun a w h=>⟨(h.get 0 rfl),(Rel.of_lit (Go.Value.bool true))⟩) ?_
 refine seK [1,2,3,4] [_,_,_,_] rfl ?_
 refine nx (Y3 tb hJ [0,1,2,1002] [_,.int (p+1:Nat),_] [1] [_,_,_,_] rfl ⟨Yw,trivial⟩ ?_)
 refine nx (qso tb hJ [0,1,2,3,1000,1001] [_,_] [_,_,_,_,_,_] ?_)
 refine tsq ?_
 refine snK 1 tb rfl ?_
 refine sq (.agg [.lit (.int .i64 ((⟨(20:Int)*m+(((ge s.data.toList p).toNat:Int)-(65:Int))+(1:Int),false⟩:Lt).number)),.lit (.bool true)]) rfl rfl (lb rfl) (fun _ _ h=>Yo (cs:=[.lit (.int .i64 ((⟨(20:Int)*m+(((ge s.data.toList p).toNat:Int)-(65:Int))+(1:Int),false⟩:Lt).number)),.lit (.bool true)]) (ds:=[.lit (.int .i64 ((⟨(20:Int)*m+(((ge s.data.toList p).toNat:Int)-(65:Int))+(1:Int),false⟩:Lt).number)),.lit (.bool true)]) ZiT rfl (Zd h.x (mo 0 rfl)) (h.get 1 rfl) rfl rfl h.x) ?_
 refine kw (Zky [OB.var b5 [.lit (.int .i64 ((⟨(20:Int)*m+(((ge s.data.toList p).toNat:Int)-(65:Int))+(1:Int),false⟩:Lt).number)),.lit (.bool true)]]) ?_
 refine ZcO (O:=I pre kk) (R:=([OB.var b5 [.lit (.int .i64 ((⟨(20:Int)*m+(((ge s.data.toList p).toNat:Int)-(65:Int))+(1:Int),false⟩:Lt).number)),.lit (.bool true)]]++R)) (v:=ZpN (⟨(⟨(20:Int)*m+(((ge s.data.toList p).toNat:Int)-(65:Int))+(1:Int),false⟩:Lt).number,true⟩:Lt)) rfl rfl rfl rfl (lb rfl) (fun a w h=>(h.get 1 rfl).lit) (fun a w h=>ZkL (x:=(⟨(⟨(20:Int)*m+(((ge s.data.toList p).toNat:Int)-(65:Int))+(1:Int),false⟩:Lt).number,true⟩:Lt)) (h.get 0 rfl)) (fun m' R' w1 hk hx=>hY m' R' pre (⟨(⟨(20:Int)*m+(((ge s.data.toList p).toNat:Int)-(65:Int))+(1:Int),false⟩:Lt).number,true⟩:Lt) kk w1 (by rw[f1_3,e7];exact pfx) hk hx) (fun q=>ZlO [OB.var b5 [.lit (.int .i64 ((⟨(20:Int)*m+(((ge s.data.toList p).toNat:Int)-(65:Int))+(1:Int),false⟩:Lt).number)),.lit (.bool true)]] q) (fun s6=>?_) (fun z7=>?_)
 refine kw (Zc9 [OB.var b5 [.lit (.int .i64 ((⟨(20:Int)*m+(((ge s.data.toList p).toNat:Int)-(65:Int))+(1:Int),false⟩:Lt).number)),.lit (.bool true)]]) ?_
 refine snK 1 tb rfl ?_
 refine seK [0,5,6,7,8,9] [_,_,_,_,_,_] rfl ?_
 refine nx (cj 0 (fun hb7=>?_) fun hb7=>?_)
 try simp at hb7
 refine tw Zy ?_
 exact Zg (fun a w h=>Zio s6 rfl h)
 exact False.elim (by simp at hb7)
 refine kw (Zc9 [OB.var b5 [.lit (.int .i64 ((⟨(20:Int)*m+(((ge s.data.toList p).toNat:Int)-(65:Int))+(1:Int),false⟩:Lt).number)),.lit (.bool true)]]) ?_
 refine snK 1 tb rfl ?_
 refine seK [0,5,6,7,8,9] [_,_,_,_,_,_] rfl ?_
 refine nx (cj 0 (fun hb7=>?_) fun hb7=>?_)
 exact False.elim (by simp at hb7)
 try simp at hb7
 refine Zc (nx (Y3 tb hJ [1,2,4,5,1002] [_,.int (p+1+1:Nat),_] [1] [_,_,_,_,_] rfl ⟨Yw,trivial⟩ ?_))
 refine kw Zy ?_
 exact XB (p+1+1,0,false,(pre++[(⟨(⟨(20:Int)*m+(((ge s.data.toList p).toNat:Int)-(65:Int))+(1:Int),false⟩:Lt).number,true⟩:Lt)]),z7) [0,1,4,2,3] ⟨by omega,⟨by omega,by omega⟩,by rw[f1_3,e7];simp⟩
 try simp at hb6
 have e0:s.data.toList.length=s.size:=rfl
 have e6:¬ (p+1<s.data.toList.length∧(ge s.data.toList (p+1)).toNat=90):=by omega
 have e7:=let_N (n:=m) (ins:=ins) e1 e2 e4 (by omega) e6
 refine Zc (nx (qso tb hJ [0,1,2,3,1000,1001] [_,_] [_,_,_,_,_,_] ?_))
 refine tsq ?_
 refine snK 1 tb rfl ?_
 refine sq (.agg (ltC (⟨(20:Int)*m+(((ge s.data.toList p).toNat:Int)-(65:Int))+(1:Int),false⟩:Lt))) rfl rfl (lb rfl) (fun _ _ h=>Yo (cs:=[.lit (.int .i64 ((⟨(20:Int)*m+(((ge s.data.toList p).toNat:Int)-(65:Int))+(1:Int),false⟩:Lt).number)),.lit (.bool ((⟨(20:Int)*m+(((ge s.data.toList p).toNat:Int)-(65:Int))+(1:Int),false⟩:Lt).tagged))]) (ds:=[.lit (.int .i64 ((⟨(20:Int)*m+(((ge s.data.toList p).toNat:Int)-(65:Int))+(1:Int),false⟩:Lt).number)),.lit (.bool ((⟨(20:Int)*m+(((ge s.data.toList p).toNat:Int)-(65:Int))+(1:Int),false⟩:Lt).tagged))]) ZiT rfl (Zd h.x (mo 0 rfl)) (h.get 1 rfl) rfl rfl h.x) ?_
 refine kw (Zky [OB.var b5 [.lit (.int .i64 ((⟨(20:Int)*m+(((ge s.data.toList p).toNat:Int)-(65:Int))+(1:Int),false⟩:Lt).number)),.lit (.bool ((⟨(20:Int)*m+(((ge s.data.toList p).toNat:Int)-(65:Int))+(1:Int),false⟩:Lt).tagged))]]) ?_
 refine ZcO (O:=I pre kk) (R:=([OB.var b5 [.lit (.int .i64 ((⟨(20:Int)*m+(((ge s.data.toList p).toNat:Int)-(65:Int))+(1:Int),false⟩:Lt).number)),.lit (.bool ((⟨(20:Int)*m+(((ge s.data.toList p).toNat:Int)-(65:Int))+(1:Int),false⟩:Lt).tagged))]]++R)) (v:=ZpN (⟨(20:Int)*m+(((ge s.data.toList p).toNat:Int)-(65:Int))+(1:Int),false⟩:Lt)) rfl rfl rfl rfl (lb rfl) (fun a w h=>(h.get 1 rfl).lit) (fun a w h=>ZkL (x:=(⟨(20:Int)*m+(((ge s.data.toList p).toNat:Int)-(65:Int))+(1:Int),false⟩:Lt)) (h.get 0 rfl)) (fun m' R' w1 hk hx=>hY m' R' pre (⟨(20:Int)*m+(((ge s.data.toList p).toNat:Int)-(65:Int))+(1:Int),false⟩:Lt) kk w1 (by rw[f1_3,e7];exact pfx) hk hx) (fun q=>ZlO [OB.var b5 [.lit (.int .i64 ((⟨(20:Int)*m+(((ge s.data.toList p).toNat:Int)-(65:Int))+(1:Int),false⟩:Lt).number)),.lit (.bool ((⟨(20:Int)*m+(((ge s.data.toList p).toNat:Int)-(65:Int))+(1:Int),false⟩:Lt).tagged))]] q) (fun s8=>?_) (fun z9=>?_)
 refine kw (Zc9 [OB.var b5 [.lit (.int .i64 ((⟨(20:Int)*m+(((ge s.data.toList p).toNat:Int)-(65:Int))+(1:Int),false⟩:Lt).number)),.lit (.bool ((⟨(20:Int)*m+(((ge s.data.toList p).toNat:Int)-(65:Int))+(1:Int),false⟩:Lt).tagged))]]) ?_
 refine snK 1 tb rfl ?_
 refine seK [0,5,6,7,8,9] [_,_,_,_,_,_] rfl ?_
 refine nx (cj 0 (fun hb7=>?_) fun hb7=>?_)
 try simp at hb7
 refine tw Zy ?_
 exact Zg (fun a w h=>Zio s8 rfl h)
 exact False.elim (by simp at hb7)
 refine kw (Zc9 [OB.var b5 [.lit (.int .i64 ((⟨(20:Int)*m+(((ge s.data.toList p).toNat:Int)-(65:Int))+(1:Int),false⟩:Lt).number)),.lit (.bool ((⟨(20:Int)*m+(((ge s.data.toList p).toNat:Int)-(65:Int))+(1:Int),false⟩:Lt).tagged))]]) ?_
 refine snK 1 tb rfl ?_
 refine seK [0,5,6,7,8,9] [_,_,_,_,_,_] rfl ?_
 refine nx (cj 0 (fun hb7=>?_) fun hb7=>?_)
 exact False.elim (by simp at hb7)
 try simp at hb7
 refine Zc (nx (Y3 tb hJ [1,2,4,5,1002] [_,.int (p+1:Nat),_] [1] [_,_,_,_,_] rfl ⟨Yw,trivial⟩ ?_))
 refine kw Zy ?_
 exact XB (p+1,0,false,(pre++[(⟨(20:Int)*m+(((ge s.data.toList p).toNat:Int)-(65:Int))+(1:Int),false⟩:Lt)]),z9) [0,1,4,2,3] ⟨by omega,⟨by omega,by omega⟩,by rw[f1_3,e7];simp⟩
 try simp at hb4
 have e4:¬ (65≤(ge s.data.toList p).toNat∧(ge s.data.toList p).toNat≤84):=by omega
 refine qso tb hJ [0,1,2,3,4,1006] [_,_,_,_,_,_,_] [_,_,_,_,_,_] ?_
 refine cj 5 (fun hb8=>?_) fun hb8=>?_
 try simp at hb8
 have e7:=let_Q (n:=m) e1 e2 e4 (by omega) hb8.2
 refine tsq ?_
 refine snK 1 tb rfl ?_
 refine sq (.agg (ltC (⟨0,false⟩:Lt))) rfl rfl (lb rfl) (fun _ _ h=>Yt (ps:=[]) (us:=[.int .i64 0,.bool false]) ZgC rfl (by simp) Zew rfl (YD (.lit _ True.intro) (YD (.lit _ True.intro) ZI)) h.x) ?_
 refine ZcO (O:=I pre kk) (R:=R) (v:=ZpN (⟨0,false⟩:Lt)) rfl rfl rfl rfl (lb rfl) (fun a w h=>(h.get 1 rfl).lit) (fun a w h=>ZkL (x:=(⟨0,false⟩:Lt)) (h.get 0 rfl)) (fun m' R' w1 hk hx=>hY m' R' pre (⟨0,false⟩:Lt) kk w1 (by rw[f1_3,e7];exact pfx) hk hx) (fun q=>itPan q) (fun s10=>?_) (fun z11=>?_)
 refine snK 1 tb rfl ?_
 refine seK [0,4,5,6,7,8] [_,_,_,_,_,_] rfl ?_
 refine nx (cj 0 (fun hb9=>?_) fun hb9=>?_)
 try simp at hb9
 exact Zg (fun a w h=>Zio s10 rfl h)
 exact False.elim (by simp at hb9)
 refine snK 1 tb rfl ?_
 refine seK [0,4,5,6,7,8] [_,_,_,_,_,_] rfl ?_
 refine nx (cj 0 (fun hb9=>?_) fun hb9=>?_)
 exact False.elim (by simp at hb9)
 try simp at hb9
 refine Zc (nx (Y3 tb hJ [1,2,4,5,1002] [_,.int (p+1:Nat),_] [1] [_,_,_,_,_] rfl ⟨Yw,trivial⟩ ?_))
 exact XB (p+1,m,ins,(pre++[(⟨0,false⟩:Lt)]),z11) [0,1,4,2,3] ⟨by omega,⟨by omega,by omega⟩,by rw[f1_3,e7];simp⟩
 try simp at hb8
 have e7:=Zhh (n:=m) (ins:=ins) e1 e2 e4 (by grind)
 refine Zz (Y7 (O:=[]) (R:=(I pre kk++R)) (XS hJ (c:=(21:Int)) ) YT rfl rfl rfl (lb rfl) hS hJ0 Zs (fun a w h=>(Za (Rel.of_lit (Go.Value.int Go.IntKind.i64 21)) Ze)) (fun _=>?_) (fun i=>i.elim))
 exact Zip (by rw[f1_3,e7];rfl) (by rw[f1_3,e7];simp) kk
 try simp at hb1
 have e1:¬ p<s.data.toList.length:=by have h9:s.size=s.data.toList.length:=rfl;omega
 refine ZB (nx (qso tb hJ [1000] [_] [_] ?_))
 refine cj 0 (fun hb10=>?_) fun hb10=>?_
 try simp at hb10
 have e7:=Zhg (n:=m) (ins:=ins) e1
 refine Zz (Y7 (O:=[]) (R:=(I pre kk++R)) (XS hJ (c:=(21:Int)) ) YT rfl rfl rfl (lb rfl) hS hJ0 Zs (fun a w h=>(Za (Rel.of_lit (Go.Value.int Go.IntKind.i64 21)) Ze)) (fun _=>?_) (fun i=>i.elim))
 exact Zip (by rw[f1_3,e7,hb10];rfl) (by rw[f1_3,e7];simp) kk
 try simp at hb10
 have e7:=Zhg (n:=m) (ins:=ins) e1
 exact Zc (fun a w h=>ZpH (by rw[f1_3,e7,hb10];rfl) (by rw[f1_3,e7];simp) kk rfl h)
theorem ZfO {J:World→Prop} (hJ:Stab J) (s:ByteArray)  :Fn Tryz.prog J 22 [.str s] (.fn 38 [.ptr [.lit (.string s)]]):=by
 refine Zw (N:=4) Tryz.func22 rfl rfl (lb rfl) fun S w0 hS hJ0=>?_
 clear hJ0
 refine hqs tb hJ [1000] [.ptr [.lit (.string s)],_] [0] [_] rfl ⟨fun _ _ hk hx hl _=>ZbK rfl (hl.env 0 0 _ rfl rfl) (hS _ hk.size) (js hJ hx),trivial⟩ ?_
 refine hqs tb hJ [1001] [.fn 38 [.ptr [.lit (.string s)]],_] [0] [_] rfl ⟨fun _ _ _ hx hl _=>XK (caps:=[(Go.Operand.tmp 1)]) rfl (Za (hl.env 0 1 _ rfl rfl) Ze) hx,trivial⟩ ?_
 exact Zg (rtn (m:=0) rfl rfl rfl)
theorem ZnJ {J:World→Prop} (hJ:Stab J) (h:Hy) (s:ByteArray)  :Fn Tryz.prog J 92 [.agg (hyC h),.ptr [.lit (.string s)]] (.bool (decide (h.label=s))):=by
 refine Zw (N:=8) Tryz.func92 rfl rfl (lb rfl) fun S w0 hS hJ0=>?_
 clear hJ0
 refine hqs tb hJ [1,1000] [.ptr (hyC h),_] [0] [_,_] rfl ⟨fun _ _ hk hx hl _=>Xb rfl (hl.env 0 0 _ rfl rfl) (hS _ hk.size) (js hJ hx),trivial⟩ ?_
 refine qs tb hJ [1004] [_,_,_,_,_] [_] ?_
 exact Zg (rtn (m:=0) rfl rfl rfl)
theorem ZqF {J:World→Prop} (hJ:Stab J) (b:Nat) (d:Db) (f:Fr) (M:Nat) (vi:Value) (vs:Value) (vt:Value) (n:Nat) (kn:Bool) (y1:Int) (y2:Int) (s:ByteArray)  :FnR Tryz.prog J 91 [OB.var b (mkR d f M vi vs vt n kn y1 y2)] [.str s,.ptr [.lit (.pointer (some ⟨b,0,none⟩))]] (.bool (f.hyps.any fun h=>decide (h.label=s))):=by
 refine Yc (N:=11) Tryz.func91 rfl rfl (lb rfl) fun S w0 hS hJ0 hH=>?_
 refine tw Yn ?_
 refine ZN tb hJ [1,1000] [.ptr [.lit (.string s)],_] [0] [_,_] rfl ⟨fun _ _ hk hx hl _=>ZbK rfl (hl.env 0 0 _ rfl rfl) (Zq hS _ hk hx _ (Nat.le_refl _)) (jo hJ hx),trivial⟩ ?_
 refine ZN tb hJ [1004,1007] [_,.at b 0,.at b 3,.at b 5,.rd (XW f.hyps),.fn 92 [.ptr [.lit (.string s)]],.bool (f.hyps.any (fun h'=>decide (h'.label=s))),_] [1,2,3,4,5,6] [_,_] rfl ⟨fun _ _ _ hx hl _=>Zl rfl (hl.D 0 4 rfl rfl) hx,fun _ _ _ hx hl _=>Zo X4 rfl (hl.D 1 5 rfl rfl) hx,fun _ _ _ hx hl _=>Zo Za7 rfl (hl.D 2 6 rfl rfl) hx,fun _ _ hk hx hl _=>Zn (cs:=(mkR d f M vi vs vt n kn y1 y2)) Zf0 rfl (Ye hH hk hx (mo 0 rfl)) (hl.D 3 7 rfl rfl) rfl hx,fun _ _ _ hx hl _=>XK (caps:=[(Go.Operand.tmp 2)]) rfl (Za (hl.env 1 2 _ rfl rfl) Ze) hx,fun _ _ hk hx hl _=>Xj (ZaK hJ (xs:=f.hyps) (f:=92) (caps:=[.ptr [.lit (.string s)]]) (Os:=[]) (p:=(fun h'=>decide (h'.label=s))) (fun q'=>(ZnJ hJ q' s).r) (Zry)) Zmw rfl (Zq hS _ hk hx) (hx.1) Zs (Za (hl.D 4 8 rfl rfl) (Za (hl.D 5 9 rfl rfl) Ze)) (jo hJ hx),trivial⟩ ?_
 refine ln 0 fun hl1=>?_
 exact Zg (Qt (m:=1) rfl rfl (eB (by first | rfl | grind[ZM])))
theorem Zld {J:World→Prop} (hJ:Stab J) (d:Db) (z:Int) (hw:∀ f∈d.frames,f.wide.length*32≤140737488351232) (hG:Zab J):Fn Tryz.prog J 29 [.agg (dbC d),.int z] (.int (Zbm d z)):=by
 refine Zw (N:=20) Tryz.func29 rfl rfl (lb rfl) fun S w0 hS hJ0=>?_
 refine tw Yn ?_
 refine ZN tb hJ [1,1000] [.ptr (dbC d),_] [0] [_,_] rfl ⟨fun _ _ hk hx hl _=>Xb rfl (hl.env 0 0 _ rfl rfl) (Zq hS _ hk hx _ (Nat.le_refl _)) (jo hJ hx),trivial⟩ ?_
 refine Zk (ZN tb hJ [0,1,1002] [_,.int (Zd1 d),_] [1] [_,_,_] rfl ⟨iFo hS hJ (ZqU hJ (d:=d) (by exact hw) (by exact hG)) Zr2,trivial⟩ ?_)
 refine qso tb hJ [0,1,2,1001] [_,_] [_,_,_,_] ?_
 refine cj 3 (fun hb1=>?_) fun hb1=>?_
 try simp at hb1
 refine qso tb hJ [1001] [_,_] [_] ?_
 exact Zg (Qt (m:=0) rfl rfl (eI (by simp[Zbm,hb1])))
 try simp at hb1
 refine Zc (nx (Zk (ZN tb hJ [1008] [_,_,_,_,_,_,.int (d.frames.length:Nat),_,_] [6] [_] rfl ⟨YK Zb1,trivial⟩ ?_)))
 refine cj 0 (fun hb2=>?_) fun hb2=>?_
 try simp at hb2
 refine qso tb hJ [1000] [_] [_] ?_
 exact Zg (Qt (m:=0) rfl rfl (eI (by simp only[Zbm];rw[if_neg (by simpa using hb1),if_pos (by simpa using hb2)])))
 try simp at hb2
 refine Zc (nx (qso tb hJ [1000] [_] [_] ?_))
 exact Zg (Qt (m:=0) rfl rfl (eI (by simp only[Zbm];rw[if_neg (by simpa using hb1),if_neg (by simpa using hb2)])))
end Go.Proofs.YtdgbcfloaenhbaaGreatDoor
namespace Go.Proofs.YtdgbcfloaenhbaaGreatDoor
def okT (g:Fr):Prop:=0<g.text.length∧∀ h∈g.hyps,h.floating=true→¬ ge h.text 1=ge g.text 0
theorem Zsq {g:Fr} (hg:okT g) (sk:List (List ByteArray)) (b:Nat):1≤(Zaa (Yi (XF g.hyps sk b g.hyps.length)) g.text).length:=by
 obtain⟨h0,h1⟩:=hg
 have h2:ZD (Yi (XF g.hyps sk b g.hyps.length)) (ge g.text 0)=none:=by
  rw[Zf6,List.find?_eq_none.2,Option.map_none]
  intro x hx
  obtain⟨j,hj,he⟩:=List.mem_filterMap.1 hx
  have hj:j<g.hyps.length:=by simpa using hj
  unfold ZpV at he
  split at he
  · rename_i hf
    cases he
    simpa using h1 _ (ZM hj) hf
  · cases he
 have h3:=Qc (M:=Yi (XF g.hyps sk b g.hyps.length)) h0
 have h4:=QR (Yi (XF g.hyps sk b g.hyps.length)) g.text 1
 rw[h3,List.length_append]at h4
 simp only[Xm,h2,List.length_singleton]at h4
 omega
def Zbd (xs:List Itm) (k:Nat):Nat:=((xs.take k).filter (·.tagged)).length
theorem Zi6 {xs:List Itm} {k:Nat} (h:k<xs.length):Zbd xs (k+1)=if(ge xs k).tagged=true then Zbd xs k+1 else Zbd xs k:=by
 unfold Zbd
 rw[ZU h,List.filter_append,List.length_append]
 by_cases h2:(ge xs k).tagged=true<;>simp[h2]
theorem Znj (xs:List Itm) (k:Nat):Zbd xs k≤k:=by
 unfold Zbd
 have:=List.length_filter_le (·.tagged) (xs.take k)
 have:=List.length_take_le k xs
 omega
def ZqY (fs:List Fr) (xs:List Itm):Prop:=xs.length≤2000∧∀ k,k<xs.length→okI fs.length (Zbd xs k) (ge xs k)∧((ge xs k).kind=1→1≤(ge xs k).text.length∧(ge xs k).text.length≤2000)
structure InvM (xs:List Itm) (m:Ms):Prop where
 sk:∀ t∈m.sk,1≤t.length∧t.length≤2000
 tg:∀ t∈m.tg,1≤t.length∧t.length≤2000
 skn:m.sk.length≤m.n
 tgn:m.tg.length=Zbd xs m.n
 n:m.n≤xs.length
 kn:m.kn=false→m.n<xs.length
theorem Zp7 {vars:List ByteArray} {wide:List Pr} {g:Fr} {sk:List (List ByteArray)} {b:Nat} {t:List ByteArray} (hg:okT g) (h:Zne vars wide g sk b= .ok t):1≤t.length∧t.length≤2000:=by
 unfold Zne at h
 split at h
 · cases h
 split at h
 · cases h
 split at h
 · cases h
 split at h
 · cases h
 · rename_i h3 _
   injection h with h
   subst h
   simp only[Zdl,Bool.not_eq_true',decide_eq_false_iff_not,Nat.not_le,Nat.not_lt]at h3
   exact⟨Zsq hg sk b,h3⟩
theorem Zoh {fs:List Fr} {vars:List ByteArray} {f:Fr} {sk tg s:List (List ByteArray)} {x:Itm} (hfs:∀ g∈fs,okT g) (hx:okI fs.length tg.length x) (hx1:x.kind=1→1≤x.text.length∧x.text.length≤2000) (hs:∀ t∈sk,1≤t.length∧t.length≤2000) (ht:∀ t∈tg,1≤t.length∧t.length≤2000) (h:Xd fs vars f sk tg x= .ok s):∀ t∈s,1≤t.length∧t.length≤2000:=by
 unfold Xd at h
 split at h
 · rename_i hk
   injection h with h
   subst h
   intro t h2
   rcases List.mem_append.1 h2 with h2 | h2
   · exact hs t h2
   · rw[List.mem_singleton.1 h2];exact hx1 hk
 split at h
 · rename_i _ hk
   have h9:=hx.2.2.1 hk
   unfold ZcE at h
   split at h
   · cases h
   split at h
   · cases h
   · rename_i u hu
     injection h with h
     subst h
     intro t h2
     rcases List.mem_append.1 h2 with h2 | h2
     · exact hs t (List.mem_of_mem_take h2)
     · rw[List.mem_singleton.1 h2];exact Zp7 (hfs _ (ZM (by omega))) hu
 split at h
 · rename_i _ _ hk
   have h9:=hx.2.2.2 hk
   injection h with h
   subst h
   intro t h2
   rcases List.mem_append.1 h2 with h2 | h2
   · exact hs t h2
   · rw[List.mem_singleton.1 h2];exact ht _ (ZM (by omega))
 split at h<;>cases h
theorem Znl {fs:List Fr} {vars:List ByteArray} {f:Fr} {xs:List Itm} {m:Ms} (hfs:∀ g∈fs,okT g) (hxs:ZqY fs xs) (h:InvM xs m):InvM xs (ZW fs vars f xs m):=by
 obtain⟨sk,tg,n,kn,v,did⟩:=m
 obtain⟨h1,h2,h3,h4,h5,h6⟩:=h
 simp only at h1 h2 h3 h4 h5 h6
 cases hk:kn with
 | true=>rw[ZcN rfl];exact⟨h1,h2,h3,h4,h5,fun e=>by cases e⟩
 | false=>
  have hn:=h6 hk
  obtain⟨hx,hx1⟩:=hxs.2 n hn
  rw[←h4]at hx
  cases hd:Xd fs vars f sk tg (ge xs n)with
  | error c=>rw[Zc8 rfl hd];exact⟨h1,h2,h3,h4,h5,fun e=>by cases e⟩
  | ok s=>
   rw[ZcM rfl hd]
   have hs:=Zoh hfs hx hx1 h1 h2 hd
   have hl:=Zgc hd
   have hT:∀ t∈(if(ge xs n).tagged=true then tg++[ge s ((s.length:Int)-1).toNat]else tg),1≤t.length∧t.length≤2000:=by
    intro t ht
    split at ht
    · rcases List.mem_append.1 ht with ht | ht
      · exact h2 t ht
      · rw[List.mem_singleton.1 ht];exact hs _ (ZM (by omega))
    · exact h2 t ht
   have hN:(if(ge xs n).tagged=true then tg++[ge s ((s.length:Int)-1).toNat]else tg).length=Zbd xs (n+1):=by
    rw[Zi6 hn]
    split<;>simp[h4]
   revert hT hN
   generalize (if(ge xs n).tagged=true then tg++[ge s ((s.length:Int)-1).toNat]else tg)=tg'
   intro hT hN
   unfold Zcz
   split
   · rename_i hlt
     exact⟨hs,hT,by simp only;omega,hN,by simp only;omega,fun _=>hlt⟩
   · exact⟨hs,hT,by simp only;omega,hN,by simp only;omega,fun e=>by cases e⟩
def Ze1 (M:List (ByteArray×Int)) (N:Nat):Prop:=∀ s n,ZD M s=some n→0≤n∧n< (N:Int)
def Zgl (f:Fr):Prop:=∀ h∈f.hyps++f.dummies,1≤h.text.length∧h.text.length≤2000
def okJ (N t:Nat) (x:Itm):Prop:=okI N t x∧(x.kind=1→1≤x.text.length∧x.text.length≤2000)
theorem Zij {f:Fr} {M:List (ByteArray×Int)} {N:Nat} (hM:Ze1 M N) (hf:Zgl f) (t:Nat) (s:ByteArray):okJ N t (Z7 f M s)∧(Z7 f M s).tagged=false:=by
 unfold Z7
 split
 · exact⟨⟨⟨by simp,by simp,by simp,by simp⟩,by simp⟩,rfl⟩
 split
 · rename_i h hh
   have:=hf h (List.mem_of_find?_eq_some hh)
   exact⟨⟨⟨by simp,by simp,by simp,by simp⟩,fun _=>this⟩,rfl⟩
 split
 · rename_i n hn
   have:=hM s n hn
   exact⟨⟨⟨by simp,by simp,fun _=>this,by simp⟩,by simp⟩,rfl⟩
 · exact⟨⟨⟨by simp,by simp,by simp,by simp⟩,by simp⟩,rfl⟩
theorem Zrb {f:Fr} {M:List (ByteArray×Int)} {N t:Nat} (hM:Ze1 M N) (hf:Zgl f) {labels:List ByteArray} {l:Lt} (hl:0≤l.number) {x:Itm} (h:Zbg f M labels t l=some x):okJ N t x∧x.tagged=l.tagged:=by
 unfold Zbg at h
 split at h
 · cases h;exact⟨⟨⟨by simp,by simp,by simp,by simp⟩,by simp⟩,rfl⟩
 split at h
 · cases h
   have:=hf (ge f.hyps (l.number-1).toNat) (List.mem_append_left _ (ZM (by omega)))
   exact⟨⟨⟨by simp,by simp,by simp,by simp⟩,fun _=>this⟩,rfl⟩
 split at h
 · cases h
   obtain⟨h1,_⟩:=Zij hM hf t (ge labels (l.number-1-f.hyps.length).toNat)
   exact⟨⟨⟨h1.1.1,h1.1.2.1,h1.1.2.2.1,h1.1.2.2.2⟩,h1.2⟩,rfl⟩
 split at h
 · cases h
   exact⟨⟨⟨by simp,by simp,by simp,fun _=>by simp only;omega⟩,by simp⟩,rfl⟩
 · cases h
theorem Zi7 (x:Itm) (xs:List Itm) (k:Nat):Zbd (x::xs) (k+1)=(if x.tagged=true then 1 else 0)+Zbd xs k:=by
 unfold Zbd
 rw[List.take_succ_cons,List.filter_cons]
 split<;>simp[Nat.add_comm]
theorem Zin {f:Fr} {M:List (ByteArray×Int)} {N:Nat} (hM:Ze1 M N) (hf:Zgl f) {labels:List ByteArray}:∀ {ls:List Lt} {t:Nat} {xs:List Itm},(∀ l∈ls,0≤l.number)→YC f M labels ls t=some xs→∀ k,k<xs.length→okJ N (t+Zbd xs k) (ge xs k)
 | [],t,xs,_,h,k,hk=>by
  simp only[YC,Option.some.injEq]at h
  subst h
  simp at hk
 | l::r,t,xs,hl,h,k,hk=>by
  unfold YC at h
  split at h
  · cases h
  rename_i x hx
  split at h
  · cases h
  rename_i ys hys
  cases h
  obtain⟨h1,h2⟩:=Zrb hM hf (hl l (by simp)) hx
  cases k with
  | zero=>exact h1
  | succ k=>
   have h3:=Zin hM hf (fun l hl'=>hl l (by simp[hl'])) hys k (by simpa using hk)
   rw[ge_s,Zi7,h2]
   split
   · rename_i ht
     rw[if_pos ht]at h3
     rw[←Nat.add_assoc]
     exact h3
   · rename_i ht
     rw[if_neg ht]at h3
     rw[Nat.zero_add]
     exact h3
theorem Zbk:∀(m:Nat) (bs:List UInt8) (n:Int) (ins:Bool),bs.length≤m→0≤n→∀ l∈(lettersD bs n ins).1,0≤l.number:=by
 intro m
 induction m with
 | zero=>
  intro bs n ins hm _ l hl
  have:bs=[]:=List.length_eq_zero_iff.1 (by omega)
  subst this
  simp[lettersD]at hl
 | succ m ih=>
  intro bs n ins hm hn l hl
  cases bs with
  | nil=>simp[lettersD]at hl
  | cons b r=>
   simp only[List.length_cons]at hm
   rw[QM]at hl
   split at hl
   · split at hl
     · simp at hl
     · rename_i hb _
       simp only[Bool.and_eq_true,decide_eq_true_eq]at hb
       exact ih r _ _ (by omega) (by omega) l hl
   split at hl
   · rename_i hb
     simp only[Bool.and_eq_true,decide_eq_true_eq]at hb
     split at hl
     · simp at hl
     · split at hl
       · simp only[List.mem_singleton]at hl
         subst hl
         simp only
         omega
       · rename_i c r'
         simp only[List.length_cons]at hm
         split at hl
         · rcases List.mem_cons.1 hl with rfl | hl
           · simp only;omega
           · exact ih r' _ _ (by omega) (by omega) l hl
         · rcases List.mem_cons.1 hl with rfl | hl
           · simp only;omega
           · exact ih (c::r') _ _ (by simp only[List.length_cons];omega) (by omega) l hl
   split at hl
   · rcases List.mem_cons.1 hl with rfl | hl
     · simp
     · exact ih r _ _ (by omega) hn l hl
   · simp at hl
theorem Zqv {fs:List Fr} {f:Fr} {M:List (ByteArray×Int)} {proof:List ByteArray} {xs:List Itm} (hM:Ze1 M fs.length) (hf:Zgl f) (h:YL f M proof= .ok xs):ZqY fs xs:=by
 unfold YL at h
 split at h
 · split at h
   · cases h
   · rename_i hl
     injection h with h
     subst h
     refine⟨by simp;omega,fun k hk=>?_⟩
     have hk':k<proof.length:=by simpa using hk
     have he:ge (proof.map (Z7 f M)) k=Z7 f M (ge proof k):=by rw[Y6 hk,Y6 hk',List.getElem_map]
     rw[he]
     exact(Zij hM hf _ _).1
 split at h
 · cases h
 rename_i labels text _
 split at h
 · cases h
 split at h
 · cases h
 rename_i ys hys
 split at h
 · cases h
 split at h
 · cases h
 · rename_i hl
   injection h with h
   subst h
   refine⟨by omega,fun k hk=>?_⟩
   have:=Zin hM hf (Zbk _ _ 0 false (Nat.le_refl _) (Int.le_refl _)) hys k hk
   rw[Nat.zero_add]at this
   exact this
theorem Zkw {fs:List Fr} {f:Fr} {r:Except Int (List Itm)} (h:∀ xs,r= .ok xs→ZqY fs xs):ZqY fs (XZ f r).1∧InvM (XZ f r).1 (XZ f r).2:=by
 cases r with
 | error c=>exact⟨⟨by simp[XZ],fun k hk=>by simp[XZ]at hk⟩,⟨by simp[XZ],by simp[XZ],by simp[XZ],by simp[XZ,Zbd],by simp[XZ],by simp[XZ]⟩⟩
 | ok xs=>
  refine⟨h xs rfl,?_⟩
  unfold XZ Zcz
  simp only
  split
  · rename_i hlt
    exact⟨by simp,by simp,by simp,by simp[Zbd],by simp,fun _=>hlt⟩
  · exact⟨by simp,by simp,by simp,by simp[Zbd],by simp,fun e=>by cases e⟩
section
variable {fs:List Fr} {vars:List ByteArray} {f:Fr} {xs:List Itm} {m:Ms}
theorem Zpl (h:m.kn=true):(ZW fs vars f xs m).v=m.v∧(ZW fs vars f xs m).kn=true:=by
 obtain⟨sk,tg,n,kn,v,did⟩:=m
 simp only at h
 subst h
 rw[ZcN rfl]
 exact⟨rfl,rfl⟩
theorem Zpp:∀(j:Nat) (m:Ms),m.kn=true→(ZkH fs vars f xs j m).v=m.v
 | 0,_,_=>rfl
 | j+1,m,h=>by
  show(ZkH fs vars f xs j (ZW fs vars f xs m)).v=m.v
  rw[Zpp j _ (Zpl h).2,(Zpl h).1]
theorem Zd9 (h:InvM xs m):((ZW fs vars f xs m).did=false∧(ZW fs vars f xs m).kn=true∧(m.kn=true→(ZW fs vars f xs m).v=m.v))∨((ZW fs vars f xs m).did=true∧(ZW fs vars f xs m).n=m.n+1∧m.n<xs.length∧m.kn=false):=by
 obtain⟨sk,tg,n,kn,v,did⟩:=m
 cases hk:kn with
 | true=>rw[ZcN rfl];exact .inl ⟨rfl,rfl,fun _=>rfl⟩
 | false=>
  have hn:=h.kn hk
  simp only at hn
  cases hd:Xd fs vars f sk tg (ge xs n)with
  | error c=>rw[Zc8 rfl hd];exact .inl ⟨rfl,rfl,fun e=>by cases e⟩
  | ok s=>
   rw[ZcM rfl hd]
   generalize (if(ge xs n).tagged=true then tg++[ge s ((s.length:Int)-1).toNat]else tg)=tg'
   unfold Zcz
   split
   · exact .inr ⟨rfl,rfl,hn,rfl⟩
   · exact .inr ⟨rfl,rfl,hn,rfl⟩
theorem Zno (h:InvM xs m) (hd:(ZW fs vars f xs m).did=false):(ZkH fs vars f xs (xs.length+1-m.n) m).v=(ZW fs vars f xs m).v:=by
 have hn:=h.n
 obtain⟨j,hj⟩:∃ j,xs.length+1-m.n=j+1:=⟨xs.length-m.n,by omega⟩
 rw[hj]
 show(ZkH fs vars f xs j (ZW fs vars f xs m)).v=_
 rcases Zd9 (fs:=fs) (vars:=vars) (f:=f) h with h2 | h2
 · exact Zpp j _ h2.2.1
 · rw[h2.1]at hd;cases hd
theorem Znn (h:InvM xs m) (hd:(ZW fs vars f xs m).did=true):(ZkH fs vars f xs (xs.length+1-m.n) m).v=(ZkH fs vars f xs (xs.length+1-(ZW fs vars f xs m).n) (ZW fs vars f xs m)).v∧(ZW fs vars f xs m).n=m.n+1∧m.n<xs.length:=by
 rcases Zd9 (fs:=fs) (vars:=vars) (f:=f) h with h2 | h2
 · rw[h2.1]at hd;cases hd
 · refine⟨?_,h2.2.1,h2.2.2.1⟩
   rw[h2.2.1]
   obtain⟨j,hj⟩:∃ j,xs.length+1-m.n=j+1:=⟨xs.length-m.n,by omega⟩
   rw[hj,show xs.length+1-(m.n+1)=j by omega]
   rfl
theorem Zql {r:Except Int (List Itm)}:(XZ f r).2.n=0:=by
 cases r with
 | error c=>rfl
 | ok xs=>unfold XZ Zcz;simp only;split<;>rfl
end
def Q0 (d:Db) (n:Nat) (t:List ByteArray):List Itm:=(XZ (ge d.frames n) (YL (ge d.frames n) (Zbf (d.frames.take n)) t)).1
def Zax (d:Db) (n:Nat) (t:List ByteArray):Ms:=(XZ (ge d.frames n) (YL (ge d.frames n) (Zbf (d.frames.take n)) t)).2
theorem verV {d:Db} {n:Nat} {t:List ByteArray}:Zfp d.frames d.vars (ge d.frames n) (Zbf (d.frames.take n)) t=(ZkH d.frames d.vars (ge d.frames n) (Q0 d n t) ((Q0 d n t).length+1) (Zax d n t)).v:=rfl
theorem startV {d:Db} {n:Nat} {t:List ByteArray} (hM:Ze1 (Zbf (d.frames.take n)) d.frames.length) (hf:Zgl (ge d.frames n)):ZqY d.frames (Q0 d n t)∧InvM (Q0 d n t) (Zax d n t):=Zkw fun _ h=>Zqv hM hf h
section
variable {fs:List Fr} {vars:List ByteArray} {f:Fr} {xs:List Itm} {m:Ms}
theorem ZhT:ZW fs vars f xs ⟨m.sk,m.tg,m.n,m.kn,(m.v.1,m.v.2),false⟩=ZW fs vars f xs m:=rfl
theorem inv_i (h0:ZqY fs xs) (h:InvM xs m) (e:m.kn=false):m.n<xs.length∧okI fs.length m.tg.length (ge xs m.n):=⟨h.kn e,by rw[h.tgn];exact(h0.2 _ (h.kn e)).1⟩
theorem Zre (h0:ZqY fs xs) (h:InvM xs m):m.sk.length≤2000∧m.tg.length≤2000∧m.n≤2000:=by
 have h1:=h.skn
 have h2:=h.n
 have h3:=h.tgn
 have h4:=Znj xs m.n
 have h5:=h0.1
 omega
end
theorem Zf3 {fs:List Fr} {k:Nat} (h:k<fs.length):Zbf (fs.take (k+1))=QY (Zbf (fs.take k)) (ge fs k).label ((k:Nat):Int):=by
 unfold Zbf
 rw[ZU h,List.zipIdx_append,List.foldl_append]
 simp[List.length_take,Nat.min_eq_left (Nat.le_of_lt h)]
theorem Zf4 {fs:List Fr}:∀ k,k≤fs.length→Ze1 (Zbf (fs.take k)) k
 | 0,_=>fun s n h=>by simp[Zbf,Qk]at h
 | k+1,hk=>fun s n h=>by
  rw[Zf3 (by omega),Zf5]at h
  split at h
  · injection h with h;omega
  · have:=Zf4 k (by omega) s n h;omega
theorem ZjF {M:List (ByteArray×Int)} {a b:Nat} (h:Ze1 M a) (hab:a≤b):Ze1 M b:=fun s n e=>by have:=h s n e;omega
section
variable {d:Db}
theorem chk_fr (h:Zd1 d=0):∀ k,k<d.frames.length→frE d k=0:=by
 unfold Zd1 at h
 split at h
 · cases h
 split at h
 · rename_i h2
   rw[h]at h2
   simp at h2
 · exact Q6 h
theorem Zrv (h:Zd1 d=0):d.frames.length≤400:=by
 unfold Zd1 at h
 split at h
 · cases h
 rename_i h1
 simp only[Bool.or_eq_true,decide_eq_true_eq,not_or]at h1
 omega
theorem Zru (h:Zd1 d=0):ZdU d=0:=by
 unfold Zd1 at h
 split at h
 · cases h
 split at h
 · rename_i h2
   rw[h]at h2
   simp at h2
 · rename_i h2
   simpa using h2
theorem Zku (h:ZdU d=0):∀ v∈d.vars,¬ v∈d.consts:=by
 unfold ZdU at h
 split at h
 · rename_i h2
   rw[h]at h2
   simp at h2
 · intro v hv hc
   obtain⟨j,hj,rfl⟩:=XT hv
   have:=Q6 h j hj
   unfold Zj6 at this
   split at this
   · cases this
   split at this
   · cases this
   · rename_i h3
     simp[hc]at h3
theorem Zoo {k:Nat} {y:Hy} {bs:List Hy} {dm:Bool} (h:Zop d k y bs dm=0):(1≤y.text.length∧y.text.length≤200)∧(y.floating=true→y.text.length=2∧ge y.text 1∈d.vars):=by
 have h1:=ZbP h
 unfold Zop at h
 split at h
 · cases h
 split at h
 · cases h
 split at h
 · cases h
 split at h
 · cases h
 rename_i h4
 have h5:y.floating=true→y.text.length=2∧ge y.text 1∈d.vars:=fun hf=>⟨Yv h1 hf,by simp[Zgk,hf]at h4;exact h4.2⟩
 refine⟨?_,h5⟩
 cases hf:y.floating with
 | true=>have:=(h5 hf).1;omega
 | false=>simp[Q1,hf]at h1;have:=List.length_pos_iff.2 h1.2.1;omega
theorem Zrk (hs:ZdU d=0) {k:Nat} (h:frE d k=0):okF (ge d.frames k)∧okT (ge d.frames k)∧Zgl (ge d.frames k):=by
 have hz:=Ziw h
 unfold frE frmE at h
 split at h
 · cases h
 split at h
 · cases h
 split at h
 · cases h
 split at h
 · rename_i h2
   rw[h]at h2
   simp at h2
 rename_i h3
 have h3:Zq3 d k=0:=by simpa using h3
 have hy:∀ y∈(ge d.frames k).hyps++(ge d.frames k).dummies,(1≤y.text.length∧y.text.length≤200)∧(y.floating=true→y.text.length=2∧ge y.text 1∈d.vars):=fun y hy=>by
  obtain⟨j,hj,rfl⟩:=XT hy
  exact Zoo (Q6 h3 j hj)
 split at h
 · cases h
 rename_i h4
 split at h
 · rename_i h2
   rw[h]at h2
   simp at h2
 rename_i h5
 have hc:ge (ge d.frames k).text 0∈d.consts:=by
  have h6:Zbu d (ge d.frames k).text=0:=by simpa using h5
  unfold Zbu Zl2 at h6
  split at h6
  · rename_i h7
    simp only[Bool.and_eq_true,decide_eq_true_eq]at h7
    exact h7.1
  · cases h6
 have hp:0< (ge d.frames k).text.length:=by
  simp only[Bool.or_eq_true,decide_eq_true_eq,not_or]at h4
  omega
 refine⟨⟨by omega,fun y hy' hf=>((hy y (List.mem_append_left _ hy')).2 hf).1⟩,⟨hp,fun y hy' hf e=>?_⟩,fun y hy'=>⟨(hy y hy').1.1,Nat.le_trans (hy y hy').1.2 (by omega)⟩⟩
 have:=((hy y (List.mem_append_left _ hy')).2 hf).2
 rw[e]at this
 exact Zku hs _ this hc
theorem Ze7 (h:Zd1 d=0):∀ g∈d.frames,okF g∧okT g∧Zgl g:=fun g hg=>by
 obtain⟨k,hk,rfl⟩:=XT hg
 exact Zrk (Zru h) (chk_fr h k hk)
def Zfx (d:Db) (k:Nat):Int×Int:=if(ge d.frames k).thm then Zfp d.frames d.vars (ge d.frames k) (Zbf (d.frames.take k)) (ge d.frames k).proof else(0,0)
def ZdT (d:Db) (z:Int):(Int×Int)×Int:=if Zbm d z=0 then(Zfx d z.toNat,0)else((0,0),Zbm d z)
theorem Zpd {z:Int} (h:Zbm d z=0):Zd1 d=0∧0≤z∧z< (d.frames.length:Int):=by
 unfold Zbm at h
 split at h
 · rename_i h2;exact absurd h h2
 split at h
 · cases h
 · rename_i h1 h2
   exact⟨by simpa using h1,by omega,by omega⟩
end
def tgN (l:List Lt):Nat:=(l.filter (·.tagged)).length
theorem QD (l:List Lt) (x:Lt):tgN (l++[x])=if x.tagged=true then tgN l+1 else tgN l:=by
 unfold tgN
 rw[List.filter_append,List.length_append]
 by_cases h:x.tagged=true<;>simp[h]
theorem Znh (l:List Lt) (x:Lt):tgN (x::l)=if x.tagged=true then tgN l+1 else tgN l:=by
 unfold tgN
 rw[List.filter_cons]
 by_cases h:x.tagged=true<;>simp[h]
section
variable {f:Fr} {L:List (ByteArray×Int)} {lb:List ByteArray}
theorem Zdr (l r:List Lt):∀ t,YC f L lb (l++r) t=match YC f L lb l t with
 | none=>none
 | some xs=>match YC f L lb r (t+tgN l)with
  | none=>none
  | some ys=>some (xs++ys):=by
 induction l with
 | nil=>intro t;simp only[List.nil_append,YC,tgN,List.filter_nil,List.length_nil,Nat.add_zero];cases YC f L lb r t<;>rfl
 | cons x l ih=>
  intro t
  simp only[List.cons_append,YC]
  cases h1:Zbg f L lb t x with
  | none=>rfl
  | some y=>
   simp only
   rw[ih,Znh]
   cases h2:YC f L lb l (if x.tagged=true then t+1 else t)with
   | none=>rfl
   | some xs=>
    simp only
    have e:(if x.tagged=true then t+1 else t)+tgN l=t+(if x.tagged=true then tgN l+1 else tgN l):=by split<;>omega
    rw[e]
    cases h3:YC f L lb r (t+if x.tagged=true then tgN l+1 else tgN l)<;>simp
theorem XM {l:List Lt} {x:Lt} {ys:List Itm} {y:Itm} (h:YC f L lb l 0=some ys) (h2:Zbg f L lb (tgN l) x=some y):YC f L lb (l++[x]) 0=some (ys++[y]):=by
 rw[Zdr,h]
 simp[YC,h2]
theorem ZlN {l:List Lt} {x:Lt} {ys:List Itm} {xs:List Lt} (hp:(l++[x])<+:xs) (h:YC f L lb l 0=some ys) (h2:Zbg f L lb (tgN l) x=none):YC f L lb xs 0=none:=by
 obtain⟨r,rfl⟩:=hp
 rw[Zdr,Zdr,h]
 simp[YC,h2]
theorem item_0 {tg:Nat} {x:Lt} (h:x.number=0):Zbg f L lb tg x=some ⟨0,[],0,x.tagged⟩:=by rw[Zbg,if_pos h]
theorem item_1 {tg:Nat} {x:Lt} (h:¬ x.number=0) (h1:x.number≤f.hyps.length):Zbg f L lb tg x=some ⟨1,(ge f.hyps (x.number-1).toNat).text,0,x.tagged⟩:=by rw[Zbg,if_neg h,if_pos h1]
theorem item_2 {tg:Nat} {x:Lt} (h:¬ x.number=0) (h1:¬ x.number≤f.hyps.length) (h2:x.number≤((f.hyps.length+lb.length:Nat):Int)):Zbg f L lb tg x=some ⟨(Z7 f L (ge lb (x.number-1-f.hyps.length).toNat)).kind,(Z7 f L (ge lb (x.number-1-f.hyps.length).toNat)).text,(Z7 f L (ge lb (x.number-1-f.hyps.length).toNat)).number,x.tagged⟩:=by
 rw[Zbg,if_neg h,if_neg h1,if_pos h2]
theorem item_4 {tg:Nat} {x:Lt} (h:¬ x.number=0) (h1:¬ x.number≤f.hyps.length) (h2:¬ x.number≤((f.hyps.length+lb.length:Nat):Int)) (h3:x.number≤((f.hyps.length+lb.length+tg:Nat):Int)):Zbg f L lb tg x=some ⟨4,[],x.number-1-f.hyps.length-lb.length,x.tagged⟩:=by
 rw[Zbg,if_neg h,if_neg h1,if_neg h2,if_pos h3]
theorem Zrc {tg:Nat} {x:Lt} (h:¬ x.number=0) (h1:¬ x.number≤f.hyps.length) (h2:¬ x.number≤((f.hyps.length+lb.length:Nat):Int)) (h3:¬ x.number≤((f.hyps.length+lb.length+tg:Nat):Int)):Zbg f L lb tg x=none:=by
 rw[Zbg,if_neg h,if_neg h1,if_neg h2,if_neg h3]
variable {t:List ByteArray}
theorem Zqx (h:Qn t=false) (h2:2000<t.length):YL f L t= .error 10:=by simp[YL,h,h2]
theorem Zee (h:Qn t=false) (h2:¬ 2000<t.length):YL f L t= .ok (t.map (Z7 f L)):=by simp[YL,h,h2]
theorem Zqw (h:Qn t=true) (h2:XL t=none):YL f L t= .error 20:=by simp[YL,h,h2]
variable {z:List ByteArray×ByteArray} (h0:Qn t=true) (hz:XL t=some z)
include h0 hz
theorem Znt (h:(XY z.1||z.1.any fun s=>f.hyps.any fun h=>decide (h.label=s))=true):YL f L t= .error 20:=by
 obtain⟨z1,z2⟩:=z
 simp only[YL,h0,hz,Bool.not_true,Bool.false_eq_true,if_false]
 rw[if_pos h]
variable (hw:(XY z.1||z.1.any fun s=>f.hyps.any fun h=>decide (h.label=s))=false)
include hw
theorem Znu (h:YC f L z.1 (Zv z.2).1 0=none):YL f L t= .error 21:=by
 obtain⟨z1,z2⟩:=z
 simp only[YL,h0,hz,Bool.not_true,Bool.false_eq_true,if_false]
 rw[if_neg (by rw[hw];decide)]
 simp only at h
 simp[h]
variable {ys:List Itm} (h:YC f L z.1 (Zv z.2).1 0=some ys)
include h
theorem ZkO (h2:(Zv z.2).2=true):YL f L t= .error 21:=by
 obtain⟨z1,z2⟩:=z
 simp only[YL,h0,hz,Bool.not_true,Bool.false_eq_true,if_false]
 rw[if_neg (by rw[hw];decide)]
 simp only at h h2
 simp[h,h2]
theorem ZkN (h2:(Zv z.2).2=false) (h3:2000<ys.length):YL f L t= .error 10:=by
 obtain⟨z1,z2⟩:=z
 simp only[YL,h0,hz,Bool.not_true,Bool.false_eq_true,if_false]
 rw[if_neg (by rw[hw];decide)]
 simp only at h h2
 simp[h,h2,h3]
theorem Zh2 (h2:(Zv z.2).2=false) (h3:¬ 2000<ys.length):YL f L t= .ok ys:=by
 obtain⟨z1,z2⟩:=z
 simp only[YL,h0,hz,Bool.not_true,Bool.false_eq_true,if_false]
 rw[if_neg (by rw[hw];decide)]
 simp only at h h2
 simp[h,h2,h3]
end
theorem Zdm:∀(m:Nat) (bs:List UInt8) (n:Int) (ins:Bool),bs.length≤m→(lettersD bs n ins).1.length≤bs.length:=by
 intro m
 induction m with
 | zero=>
  intro bs n ins hm
  have:bs=[]:=List.length_eq_zero_iff.1 (by omega)
  subst this
  simp[lettersD]
 | succ m ih=>
  intro bs n ins hm
  cases bs with
  | nil=>simp[lettersD]
  | cons b r=>
   simp only[List.length_cons]at hm
   rw[QM]
   split
   · split
     · simp
     · have:=ih r (5*n+((b.toNat:Int)-85)+1) true (by omega)
       simp only[List.length_cons];omega
   split
   · split
     · simp
     · split
       · simp
       · rename_i c r'
         simp only[List.length_cons]at hm
         split
         · have:=ih r' 0 false (by omega)
           simp only[List.length_cons];omega
         · have:=ih (c::r') 0 false (by simp only[List.length_cons];omega)
           simp only[List.length_cons]at this ⊢;omega
   split
   · have:=ih r n ins (by omega)
     simp only[List.length_cons];omega
   · simp
theorem ZlL (l:List ByteArray) (k:Nat):(ZaO (l.drop k) ⟨#[]⟩).size≤Zaf l:=by
 have:=Zge l k
 simpa [ZaO,ByteArray.size]using this
theorem Zca {t:List ByteArray} {z:List ByteArray×ByteArray} (h:XL t=some z):z.2.size≤Zaf t∧z.1.length≤t.length:=by
 unfold XL at h
 simp only at h
 split at h
 · cases h
 split at h
 · cases h
 · injection h with h
   subst h
   refine⟨ZlL t _,?_⟩
   simp only[List.length_drop,List.length_take]
   omega
theorem ZkK {T:Nat→Prop} {w:World} {x:Lt}:Rel T w (.agg (ltC x)) (ZpN x):=by
 simp only[Rel]
 exact⟨[.int .i64 x.number,.bool x.tagged],rfl,.lit _ True.intro,.lit _ True.intro,trivial⟩
theorem Zg8 {α:Type} {l xs:List α} {x:α} (h:(l++[x])<+:xs):x∈xs∧l.length<xs.length:=by
 obtain⟨r,rfl⟩:=h
 simp
section
variable {d:Db} {n:Nat} {t:List ByteArray} {xs:List Itm} {c:Int}
theorem mch_ok (h:YL (ge d.frames n) (Zbf (d.frames.take n)) t= .ok xs):Q0 d n t=xs∧(Zax d n t).sk=[]∧(Zax d n t).tg=[]∧(Zax d n t).n=0∧(Zax d n t).kn=(false|| !decide (0<xs.length))∧(Zax d n t).v.1=(if 0<xs.length then 0 else(ZdQ (ge d.frames n) [] 0).1)∧(Zax d n t).v.2=(if 0<xs.length then 0 else(ZdQ (ge d.frames n) [] 0).2):=by
 unfold Q0 Zax
 rw[h]
 simp only[XZ,Zcz]
 by_cases h0:0<xs.length
 · simp[h0]
 · simp[h0]
theorem Zq1 (h:YL (ge d.frames n) (Zbf (d.frames.take n)) t= .error c):Q0 d n t=[]∧(Zax d n t).sk=[]∧(Zax d n t).tg=[]∧(Zax d n t).n=0∧(Zax d n t).kn=true∧(Zax d n t).v.1=c∧(Zax d n t).v.2=0:=by
 unfold Q0 Zax
 rw[h]
 exact⟨rfl,rfl,rfl,rfl,rfl,rfl,rfl⟩
theorem namL_nil:Zbf (d.frames.take 0)=[]:=by simp[Zbf]
end
end Go.Proofs.YtdgbcfloaenhbaaGreatDoor
set_option maxHeartbeats 8000000
set_option maxRecDepth 100000
namespace Go.Proofs.YtdgbcfloaenhbaaGreatDoor
open Go.RowKit
abbrev nmE (f:Fr) (L:List (ByteArray×Int)) (l:List ByteArray) (x:Lt):Itm:=Z7 f L (ge l (x.number-(1:Int)-(f.hyps.length:Int)).toNat)
theorem p_read {J:World→Prop} (hJ:Stab J) (b:Nat) (d:Db) (f:Fr) (M:Nat) (L:List (ByteArray×Int)) (vi:Value) (vs:Value) (vt:Value) (n:Nat) (kn:Bool) (y1:Int) (y2:Int) (t:List ByteArray) (ht:∀ h∈f.hyps++f.dummies,h.text.length≤2000) (hh:f.hyps.length≤2000) (hn:t.length≤100000) (hs:Zaf t≤1000000000):FnP (ι:= {q':Value×List Itm // YL f L t= .ok q'.2}) (κ:= {q:Int×Value×List Itm // YL f L t= .error q.1}) Tryz.prog J 72 [] [.at b 0,.rd (Zb t)] [OB.var b (mkR d f M vi vs vt n kn y1 y2),OB.row vi 128 4 (([]:List Itm).map itC),OB.mI M L] (fun _=>.tup []) (fun i'=>[OB.var b (mkC d f [.lit (.map (some M)),.lit (i'.1.1),.lit vs,.lit vt,.lit (.int .i64 (n:Int)),.lit (.bool kn),.lit (.int .i64 y1),.lit (.int .i64 y2)]),OB.row i'.1.1 128 4 ((i'.1.2).map itC),OB.mI M L]) (fun k'=>flV k'.1.1) (fun k'=>[OB.var b (mkC d f [.lit (.map (some M)),.lit (k'.1.2.1),.lit vs,.lit vt,.lit (.int .i64 (n:Int)),.lit (.bool kn),.lit (.int .i64 y1),.lit (.int .i64 y2)]),OB.row k'.1.2.1 128 4 ((k'.1.2.2).map itC),OB.mI M L]):=by
 refine Zep (N:=142) Tryz.func72 rfl rfl (lb rfl) fun S w0 R hS hJ0 hH=>?_
 refine atw (B:=St All (SO S (OB.var b (mkR d f M vi vs vt n kn y1 y2)::OB.row vi 128 4 (([]:List Itm).map itC)::OB.mI M L::R)) w0 142 [(0,.at b 0),(1,.rd (Zb t))] (XO J S w0.heap.size (OB.var b (mkR d f M vi vs vt n kn y1 y2)::OB.row vi 128 4 (([]:List Itm).map itC)::OB.mI M L::R))) (fun h=>h) ?_
 refine lnA 1 fun hl1=>?_
 refine Zas (m:=5) ?_
 refine Y3 tb hJ [1,1000] [.ptr [.lit (.pointer (some ⟨b,0,none⟩))]] [0] [_,_] rfl ⟨fun _ _ hk hx hl _=>ZbK rfl (hl.env 0 0 _ rfl rfl) (Zq hS _ hk hx _ (Nat.le_refl _)) (jo hJ hx),trivial⟩ ?_
 refine nxA ?_
 refine Zas (m:=5) ?_
 refine ZN tb hJ [0,1,1002] [_,.bool (Qn t),_] [1] [_,_,_] rfl ⟨iFo hS hJ (Zcq hJ (l:=t) ) ZmH,trivial⟩ ?_
 refine cj 2 (fun hb1=>?_) fun hb1=>?_
 ·
  try simp at hb1
  refine Zk (ZN tb hJ [0,1,1002] [_,.int (t.length:Nat),_] [1] [_,_,_] rfl ⟨YK Zx,trivial⟩ ?_)
  refine cj 2 (fun hb2=>?_) fun hb2=>?_
  ·
   try simp at hb2
   refine Zz (Y7 (O:=[]) (R:=(OB.var b (mkR d f M vi vs vt n kn y1 y2)::OB.row vi 128 4 (([]:List Itm).map itC)::OB.mI M L::R)) (XS hJ (c:=(10:Int)) ) YT rfl rfl rfl (lb rfl) hS hJ0 Zs (fun a w h=>(Za (Rel.of_lit (Go.Value.int Go.IntKind.i64 10)) Ze)) (fun _=>?_) (fun i=>i.elim))
   refine Zli ?_
   exact fun a w h=>pnP (⟨(10,vi,([]:List Itm)),Zqx hb1 (by omega)⟩: {q:Int×Value×List Itm // YL f L t= .error q.1}) rfl a w h
  ·
   try simp at hb2
   refine Zc (nx (Zk (ZN tb hJ [1,1000,1001,1002] [_,.int (t.length:Nat),_] [1] [_,_,_,_] rfl ⟨YK Zx,trivial⟩ ?_)))
   refine Zf (lpo (ι:=Nat×(List Itm)×Value) (fun(k,ys,_)=>(k≤t.length)∧(ys=(t.take k).map (Z7 f L))) (fun(_,ys,wv)=>(OB.var b (mkR d f M wv vs vt n kn y1 y2)::OB.row wv 128 4 (ys.map itC)::OB.mI M L::R)) (fun(k,_,_)=>[(23,.int (k:Nat))]) (fun(k,_,_)=>t.length-k) [0,1,2,3] [_,_,_] (0,([]:List Itm),vi) ⟨Nat.zero_le _,rfl⟩ ?_)
   rintro⟨k,ys,wv⟩ ⟨f1_1,f1_2⟩
   refine qso tb hJ [0,1,2,3,1000] [_] [_,_,_,_,_] ?_
   refine cjS 4 (fun hb3=>?_) fun hb3=>?_
   ·
    try simp at hb3
    have e7:ys.length≤2000:=by rw[f1_2];simp;omega
    refine Zc (nx (Zk (Zf (ZN tb hJ [0,1,2,3,1002] [.ptr [.lit (.string (ge t k))],_,_] [0] [_,_,_,_,_] rfl ⟨iIx Zi,trivial⟩ ?_))))
    refine tw pm1 ?_
    refine fun a w h=>YP (OB.var b (mkR d f M wv vs vt n kn y1 y2)::OB.mI M L::R) (γ:=Value) (fun ix'=>([.at b 0,.at b 0,.at b 0,.at b 12,.lit wv,.at b 0,.str (ge t k),.agg (itC (Z7 f L (ge t k))),.rd (XE ([(Z7 f L (ge t k))])),.any,.at b 0,.at b 12,.any]:List AV).getD ix' .any) (fun _=>true) [(2,fun(g:Value)=>.ptr [.lit (.pointer (some ⟨b,0,none⟩))]),(21,fun(g:Value)=>.rd (Zb t)),(22,fun(g:Value)=>.int (t.length:Nat)),(23,fun(g:Value)=>.int (k:Nat))] (fun(j':Nat) (g:Value)=>match j' with | 0=>(OB.row wv 128 4 (ys.map itC)::OB.var b (mkR d f M wv vs vt n kn y1 y2)::OB.mI M L::R) | 1=>(OB.row g 128 4 ((ys++([(Z7 f L (ge t k))])).map itC)::OB.var b (mkR d f M wv vs vt n kn y1 y2)::OB.mI M L::R) | _=>(OB.row g 128 4 ((ys++([(Z7 f L (ge t k))])).map itC)::OB.var b (mkR d f M g vs vt n kn y1 y2)::OB.mI M L::R)) (fun(k':Nat) (g:Value)=>match k' with | 0=>g | 1=>undef | _=>undef) [9,12] 1 (.slice none 0 0) (fun _=>rfl) h hJ Yl rfl rfl rfl rfl rfl rfl (fun j' g hj p hp=>by rcases j' with _ | _ | _ | j'<;>first | exact hp | exact List.mem_cons_of_mem _ hp | exact List.mem_cons_of_mem _ (List.mem_cons_of_mem _ hp) | (exfalso;omega)) ⟨?_,⟨?_,⟨?_,⟨?_,⟨?_,⟨?_,⟨?_,⟨?_,⟨?_,⟨?_,⟨?_,⟨?_,⟨?_,trivial⟩⟩⟩⟩⟩⟩⟩⟩⟩⟩⟩⟩⟩ ⟨?e7_1_0,⟨?e7_1_1,trivial⟩⟩ ⟨.old 0 2 _ rfl rfl,⟨.old 1 21 _ rfl rfl,⟨.old 2 22 _ rfl rfl,⟨.old 3 23 _ rfl rfl,trivial⟩⟩⟩⟩ ?n7_1
    exact oX rfl fun hx hl=>ZA ZQ rfl (hl.env 0 2 _ rfl rfl) hx
    exact oX rfl fun hx hl=>ZA ZQ rfl (hl.env 0 2 _ rfl rfl) hx
    exact oX rfl fun hx hl=>Zl rfl (hl.D 1 28 rfl rfl) hx
    exact oX rfl fun hx hl=>Zo ZG rfl (hl.D 2 29 rfl rfl) hx
    exact fun _ O' hO'=>⟨rfl,fun _ _ _ hx hl _=>Zn (cs:=(mkR d f M wv vs vt n kn y1 y2)) Qe rfl (Zd hx (hO' _ (mo 0 rfl))) (hl.D 3 30 rfl rfl) rfl hx⟩
    exact oX rfl fun hx hl=>ZA ZQ rfl (hl.env 0 2 _ rfl rfl) hx
    exact oX rfl fun hx hl=>YA rfl (hl.env 4 5 _ rfl rfl) hx
    exact fun _ O' hO'=>⟨rfl,fun _ _ hk hx hl _=>Xj (Zk7 hJ (b:=b) (d:=d) (f:=f) (M:=M) (L:=L) (vi:=wv) (vs:=vs) (vt:=vt) (n:=n) (kn:=kn) (y1:=y1) (y2:=y2) (s:=(ge t k)) sfz) Zmr rfl (Zq hS _ hk hx) (hx.1) (ZH (Zd hx (hO' _ (mo 0 rfl))) (ZH (Zd hx (hO' _ (mo 1 rfl))) Zs)) (Za (hl.D 5 32 rfl rfl) (Za (hl.D 6 33 rfl rfl) Ze)) (jo hJ hx)⟩
    exact oY rfl fun hk hx hl=>Xu Yf Qg rfl rfl (hl.D 7 34 rfl rfl) (Zq hS _ hk hx _ (Nat.le_refl _)) (jo hJ hx)
    exact Zm rfl
    exact oX rfl fun hx hl=>Zl rfl (hl.D 0 27 rfl rfl) hx
    exact oX rfl fun hx hl=>Zo ZG rfl (hl.D 10 37 rfl rfl) hx
    exact Zm rfl
    case e7_1_0=>exact⟨_,rfl,rfl,rfl,rfl,fun _ _ w hk hx hl _=>Zr (YS (f:=itC) ys ([(Z7 f L (ge t k))]) (fun _=>rfl) YU hJ hJ0 rfl hk hx (hl.D 4 31 rfl rfl).lit (hl.D 8 35 rfl rfl) sfz sfz) fun v w' hp=>⟨v,rfl,fun k' hk'=>absurd hk' (Nat.not_lt_zero _),fun _=>rfl,hp⟩⟩
    case e7_1_1=>exact⟨_,rfl,rfl,rfl,rfl,fun g _ w hk hx hl hs=>Zr (XU (off:=12) (cs:=(mkR d f M wv vs vt n kn y1 y2)) (es:=(mkR d f M g vs vt n kn y1 y2)) (c:=.lit g) hJ hJ0 Y1 rfl hk hx (hl.D 11 38 rfl rfl) (by rw[(hs 0 9 _ 36 (by omega) rfl rfl rfl)];exact Rel.of_lit _ (Xz (hx.2.1 _ (mo 0 rfl)))) (lb rfl) rfl) fun v w' hp=>⟨g,rfl,fun _ _=>rfl,fun e=>(by cases e),hp⟩⟩
    clear a w h
    intro v3
    dsimp only[List.map]
    refine nx (Y3 tb hJ [0,1,2,1001] [.int (k+1:Nat),_] [0] [_,_,_,_] rfl ⟨Yw,trivial⟩ ?_)
    refine kw pm2 ?_
    refine kw pm1 ?_
    refine kw pm2 ?_
    exact XB (k+1,ys++[Z7 f L (ge t k)],v3) [0,1,2,3] ⟨by omega,by rw[Zak hb3,f1_2]⟩
   ·
    try simp at hb3
    refine ZB (nx (Zg (outAk ?_)))
    exact fun a w h=>lvP (XC  ⟨(wv,ys),by first | (rw[f1_2,ZJ (by omega)];exact Zee hb1 (by omega)) | exact Zh2 (ys:=ys) hb1 z4.2 hb4 r1_ h9 (by omega)⟩ rfl h rfl)
 ·
  try simp at hb1
  refine Zc (nxA ?_)
  refine Zas (m:=5) ?_
  refine Zz (snK 1 tb rfl ?_)
  refine Y7 (O:=[]) (R:=(OB.var b (mkR d f M vi vs vt n kn y1 y2)::OB.row vi 128 4 (([]:List Itm).map itC)::OB.mI M L::R)) (Zk6 hJ (l:=t) sfz sfz sfz) ZmG rfl rfl rfl (lb rfl) hS hJ0 Zs (fun a w h=>(Za (h.get 0 rfl) Ze)) (fun k5=>?_) fun z4=>?_
  ·
   refine Zli ?_
   exact fun a w h=>pnP (⟨(k5.1,vi,([]:List Itm)),by show YL f L t=Except.error k5.1;rw[k5.2.2];exact Zqw hb1 k5.2.1⟩: {q:Int×Value×List Itm // YL f L t= .error q.1}) rfl a w h
  refine snK 3 tb rfl ?_
  refine ZV Zft hJ rfl rfl rfl (lb rfl) fun b6=>?_
  refine ZE (b:=b6) (off:=0) (cs:=[Zb ([]:List ByteArray)]) (es:=[Zb z4.1.1]) hJ hJ0 QV rfl rfl rfl (lb rfl) rfl (fun a w h=>⟨(h.get 0 rfl),(h.get 2 rfl)⟩) ?_
  refine snK 1 tb rfl ?_
  refine kw (fun h=>Ys hS h (m:=1) (s:=6) rfl) ?_
  refine seK [0,1,3,8] [_,_,_,_] rfl ?_
  refine nxA ?_
  refine lnA 2 fun hl2=>?_
  refine Zas (m:=5) ?_
  refine Y3 tb hJ [0,1,3,1001] [.fn 91 [.ptr [.lit (.pointer (some ⟨b,0,none⟩))]],_] [0] [_,_,_,_] rfl ⟨fun _ _ _ hx hl _=>XK (caps:=[(Go.Operand.tmp 2)]) rfl (Za (hl.env 3 2 _ rfl rfl) Ze) hx,trivial⟩ ?_
  refine nxA ?_
  refine Zas (m:=5) ?_
  refine ZN tb hJ [0,1,2,1006] [_,.bool (XY z4.1.1),_,_,_,.bool (z4.1.1.any (fun s'=>f.hyps.any fun h'=>decide (h'.label=s'))),_] [1,5] [_,_,_,_] rfl ⟨iFo hS hJ (Zk3 hJ (l:=z4.1.1) ) ZmF,fun _ _ hk hx hl hc=>Xj (YB hJ (xs:=z4.1.1) (f:=91) (caps:=[.ptr [.lit (.pointer (some ⟨b,0,none⟩))]]) (Os:=[OB.var b (mkR d f M vi vs vt n kn y1 y2)]) (p:=(fun s'=>f.hyps.any fun h'=>decide (h'.label=s'))) (fun q'=>ZqF hJ b d f M vi vs vt n kn y1 y2 q') (Zrz)) ZdL rfl (Zq hS _ hk hx) (hx.1) (ZH (Zd hx (mo 0 rfl)) Zs) (Za (hl.D 3 49 rfl hc) (Za (hl.D 4 50 rfl hc) Ze)) (jo hJ hx),trivial⟩ ?_
  refine cj 3 (fun hb4=>?_) fun hb4=>?_
  ·
   refine Zz (Y7 (O:=[]) (R:=(OB.var b (mkR d f M vi vs vt n kn y1 y2)::OB.row vi 128 4 (([]:List Itm).map itC)::OB.mI M L::R)) (XS hJ (c:=(20:Int)) ) YT rfl rfl rfl (lb rfl) hS hJ0 Zs (fun a w h=>(Za (Rel.of_lit (Go.Value.int Go.IntKind.i64 20)) Ze)) (fun _=>?_) (fun i=>i.elim))
   refine Zli ?_
   exact fun a w h=>pnP (⟨(20,vi,([]:List Itm)),Znt hb1 z4.2 hb4⟩: {q:Int×Value×List Itm // YL f L t= .error q.1}) rfl a w h
  ·
   refine Zc (nxA ?_)
   refine Zas (m:=5) ?_
   refine Zz (snK 1 tb rfl ?_)
   refine sq (.at b 0) rfl rfl (lb rfl) (fun _ _ h=>Zl rfl (h.get 0 rfl) h.x) ?_
   refine sq (.at b 3) rfl rfl (lb rfl) (fun _ _ h=>Zo X4 rfl (h.get 0 rfl) h.x) ?_
   refine sq (.at b 5) rfl rfl (lb rfl) (fun _ _ h=>Zo Za7 rfl (h.get 0 rfl) h.x) ?_
   refine sq (.rd (XW f.hyps)) rfl rfl (lb rfl) (fun _ _ h=>Zn (cs:=(mkR d f M vi vs vt n kn y1 y2)) Zf0 rfl (Zd h.x (mo 0 rfl)) (h.get 0 rfl) rfl h.x) ?_
   refine sq (.int (f.hyps.length:Nat)) rfl rfl (lb rfl) (fun _ _ h=>ZbI ZO rfl (h.get 0 rfl) h.x) ?_
   refine ZV ZhN hJ rfl rfl rfl (lb rfl) fun b9=>?_
   refine ZV ZhN hJ rfl rfl rfl (lb rfl) fun b10=>?_
   refine kw pm1 ?_
   refine ZE (b:=b9) (off:=0) (cs:=[.lit (.int .i64 0)]) (es:=[.lit (.int .i64 (f.hyps.length:Int))]) hJ hJ0 QF rfl rfl rfl (lb rfl) rfl (fun a w h=>⟨(h.get 1 rfl),(h.get 2 rfl)⟩) ?_
   refine kw pm1 ?_
   refine ZE (b:=b10) (off:=0) (cs:=[.lit (.int .i64 0)]) (es:=[.lit (.int .i64 (0:Int))]) hJ hJ0 QF rfl rfl rfl (lb rfl) rfl (fun a w h=>⟨(h.get 0 rfl),(Rel.of_lit (Go.Value.int Go.IntKind.i64 0))⟩) ?_
   refine kw pm1 ?_
   refine kw (fun h=>Ys hS h (m:=1) (s:=9) rfl) ?_
   refine seK [0,1,3,8,9,10] [_,_,_,_,_,_] rfl ?_
   refine nxA ?_
   refine lnA 2 fun hl3=>?_
   refine Zsr ?_
   refine Zas (m:=5) ?_
   refine Y3 tb hJ [0,1,3,5,1001] [_,.fn 38 [.ptr [.lit (.string z4.1.2)]]] [1] [_,_,_,_,_] rfl ⟨iFo hS hJ (ZfO hJ (s:=z4.1.2) ) ZmE,trivial⟩ ?_
   refine nxA ?_
   refine ZhF ?_
   refine atw (fun h=>YN (p:=(YC f L z4.1.1 ([]:List Lt) 0=some ([]:List Itm))∧(0=tgN ([]:List Lt))∧(([]:List Itm).length=([]:List Lt).length)) (⟨rfl,rfl,rfl⟩) h) ?_
   refine Zg7 (m:=5) (κ:=Value×(List Itm)×Nat) (μ:= {q:Int×Value×List Itm // YL f L t= .error q.1}) (σ:=Empty) (Zej hJ z4.1.2 (by first | omega | (have:=Zca z4.2;omega))) ZmB hJ hS hJ0 Zs (fun pre (wv,ys,tg)=>[OB.fct ((YC f L z4.1.1 pre 0=some ys)∧(tg=tgN pre)∧(ys.length=pre.length)),OB.var b10 [.lit (.int .i64 (tg:Int))],OB.var b (mkR d f M wv vs vt n kn y1 y2),OB.row wv 128 4 (ys.map itC),OB.mI M L]) (fun q': {q:Int×Value×List Itm // YL f L t= .error q.1}=>flV q'.1.1) (fun q'=>[OB.var b (mkC d f [.lit (.map (some M)),.lit (q'.1.2.1),.lit vs,.lit vt,.lit (.int .i64 (n:Int)),.lit (.bool kn),.lit (.int .i64 y1),.lit (.int .i64 y2)]),OB.row q'.1.2.1 128 4 ((q'.1.2.2).map itC),OB.mI M L]) (fun s'=>[]) (vi,([]:List Itm),0) (fun x9=>.agg (ltC x9)) (fun x9=>[(11,.ptr (ltC x9)),(9,.ptr [.lit (.int .i64 (f.hyps.length:Int))]),(10,.at b10 0),(6,.ptr [Zb z4.1.1]),(2,.ptr [.lit (.pointer (some ⟨b,0,none⟩))])]) (lb rfl) Tryz.func72 (fun _ _ _ _=>ZkK) ?_ ?_ ?_ ?_ ?_ ?_ ?_
   · exact fun a w h=>Zg4 (h.get 4 rfl)
   ·
    rintro m9 l9 R' pre x9 ⟨wv,ys,tg⟩ K9 hK9
    refine Zz (X8 (cs:=ltC x9) ZhM rfl rfl rfl (lb rfl) rfl rfl rfl (by decide) (m:=0) rfl rfl (fun a w h=>Zq hS _ h.keep h.x _ (Nat.le_refl _)) (fun a w h w' hk'=>Yq hJ _ _ hk' h.x) ?_)
    refine seK [0,2,3,4,5] [_,_,_,_,_] rfl ?_
    exact hK9
   ·
    rintro m9 l9 R' pre x9 ⟨wv,ys,tg⟩ hpre
    refine Zkr fun hF=>?_
    obtain⟨r1_,r2_,r3_⟩:=hF
    have e0:=Zbk _ _ 0 false (Nat.le_refl _) (Int.le_refl _) x9 (Zg8 hpre).1
    have e1:=Zca z4.2
    have e2:=Zdm _ z4.1.2.data.toList 0 false (Nat.le_refl _)
    have e3:pre.length<z4.1.2.size:=Nat.lt_of_lt_of_le (Zg8 hpre).2 e2
    have e4:tg≤pre.length:=by rw[r2_];exact List.length_filter_le _ _
    refine Zf (tsq ?_)
    refine ZV Zad hJ rfl rfl rfl (lb rfl) fun b11=>?_
    refine seK [0,1,2,3,4,5] [_,_,_,_,_,_] rfl ?_
    refine nx (Zk (qso tb hJ [0,1,2,3,4,5,1002] [_,_,_] [_,_,_,_,_,_,_] ?_))
    refine Zf (qso tb hJ [0,1,2,3,4,5,6,1002] [_,_,_] [_,_,_,_,_,_,_,_] ?_)
    refine cj 7 (fun hb5=>?_) fun hb5=>?_
    ·
     try simp at hb5
     have e9:=item_0 (f:=f) (L:=L) (lb:=z4.1.1) (tg:=tg) hb5
     refine Zz (sq (.agg (itC (⟨(0:Int),[],0,false⟩:Itm))) rfl rfl (lb rfl) (fun a _ h=>Yt (ps:=[(0,a.eval (Go.Operand.const (Go.Value.int Go.IntKind.i64 0)))]) (us:=[a.eval (Go.Operand.const (Go.Value.int Go.IntKind.i64 0)),.slice none 0 0,.int .i64 0,.bool false]) X5 rfl (by simp) (ZdR (lb rfl) rfl Zew) rfl (Zj (Rel.of_lit (Go.Value.int Go.IntKind.i64 0)) (YD (.nil _ _ (Nat.zero_le _)) (YD (.lit _ True.intro) (YD (.lit _ True.intro) ZI)))) h.x) ?_)
     refine ZF (b:=b11) (off:=0) (cs:=[.lit (.int .i64 0),Zb ([]:List ByteArray),.lit (.int .i64 0),.lit (.bool false)]) (es:=[.lit (.int .i64 (0:Int)),Zb ([]:List ByteArray),.lit (.int .i64 (0:Int)),.lit (.bool false)]) (news:=[.lit (.int .i64 (0:Int)),Zb ([]:List ByteArray),.lit (.int .i64 (0:Int)),.lit (.bool false)]) hJ hJ0 Xg rfl rfl rfl (lb rfl) rfl (fun a w h=>⟨(h.get 1 rfl),(h.get 0 rfl)⟩) ?_
     refine seK [1,2,3,4,5,6] [_,_,_,_,_,_] rfl ?_
     refine nx (Zk (tsq ?_))
     refine snK 2 tb rfl ?_
     refine sq (.at b11 3) rfl rfl (lb rfl) (fun _ _ h=>Zo YR rfl (h.get 2 rfl) h.x) ?_
     refine ZE (b:=b11) (off:=3) (cs:=[.lit (.int .i64 (0:Int)),Zb ([]:List ByteArray),.lit (.int .i64 (0:Int)),.lit (.bool false)]) (es:=[.lit (.int .i64 (0:Int)),Zb ([]:List ByteArray),.lit (.int .i64 (0:Int)),.lit (.bool x9.tagged)]) hJ hJ0 Qi rfl rfl rfl (lb rfl) rfl (fun a w h=>⟨(h.get 0 rfl),(h.get 1 rfl)⟩) ?_
     refine seK [3,5,6,7,8] [_,_,_,_,_] rfl ?_
     refine nx (ZN tb hJ [0,1,2,3,4,1001] [.at b11 3,.bool x9.tagged] [0,1] [_,_,_,_,_,_] rfl ⟨fun _ _ _ hx hl _=>Zo YR rfl (hl.env 0 12 _ rfl rfl) hx,fun _ _ _ hx hl _=>Zn (cs:=[.lit (.int .i64 (0:Int)),Zb ([]:List ByteArray),.lit (.int .i64 (0:Int)),.lit (.bool x9.tagged)]) Zf1 rfl (Zd hx (mo 0 rfl)) (hl.D 0 121 rfl rfl) rfl hx,trivial⟩ ?_)
     refine cj 5 (fun hb9=>?_) fun hb9=>?_
     ·
      try simp at hb9
      refine Zz (sq (.int (tg:Nat)) rfl rfl (lb rfl) (fun _ _ h=>Zn (cs:=[.lit (.int .i64 (tg:Int))]) Zbs rfl (Zd h.x (mo 1 rfl)) (h.get 2 rfl) rfl h.x) ?_)
      refine sq (.int (tg+1:Nat)) rfl rfl (lb rfl) (fun _ _ h=>ZeO (i:=(tg:Int)) (j:=(1:Int)) rfl (h.get 0 rfl) (Rel.of_lit (Go.Value.int Go.IntKind.i64 1)) sfz sfz h.x) ?_
      refine kw pm1 ?_
      refine ZE (b:=b10) (off:=0) (cs:=[.lit (.int .i64 (tg:Int))]) (es:=[.lit (.int .i64 ((tg+1:Nat):Int))]) hJ hJ0 QF rfl rfl rfl (lb rfl) rfl (fun a w h=>⟨(h.get 4 rfl),(h.get 0 rfl)⟩) ?_
      refine seK [2,3,4,5,6] [_,_,_,_,_] rfl ?_
      refine nx (tw pm2 ?_)
      refine tw pm3 ?_
      refine fun a w h=>YP (OB.var b (mkR d f M wv vs vt n kn y1 y2)::OB.var b10 [.lit (.int .i64 ((tg+1:Nat):Int))]::OB.var b11 [.lit (.int .i64 (0:Int)),Zb ([]:List ByteArray),.lit (.int .i64 (0:Int)),.lit (.bool x9.tagged)]::OB.mI M L::R') (γ:=Value) (fun ix'=>([.at b 0,.at b 0,.at b 0,.at b 12,.lit wv,.agg (itC (⟨(0:Int),([]:List ByteArray),(0:Int),x9.tagged⟩:Itm)),.rd (XE ([(⟨(0:Int),([]:List ByteArray),(0:Int),x9.tagged⟩:Itm)])),.any,.at b 0,.at b 12,.any]:List AV).getD ix' .any) (fun _=>true) [(9,fun(g:Value)=>.ptr [.lit (.int .i64 (f.hyps.length:Int))]),(10,fun(g:Value)=>.at b10 0),(6,fun(g:Value)=>.ptr [Zb z4.1.1]),(2,fun(g:Value)=>.ptr [.lit (.pointer (some ⟨b,0,none⟩))])] (fun(j':Nat) (g:Value)=>match j' with | 0=>(OB.row wv 128 4 (ys.map itC)::OB.var b (mkR d f M wv vs vt n kn y1 y2)::OB.var b10 [.lit (.int .i64 ((tg+1:Nat):Int))]::OB.var b11 [.lit (.int .i64 (0:Int)),Zb ([]:List ByteArray),.lit (.int .i64 (0:Int)),.lit (.bool x9.tagged)]::OB.mI M L::R') | 1=>(OB.row g 128 4 ((ys++([(⟨(0:Int),([]:List ByteArray),(0:Int),x9.tagged⟩:Itm)])).map itC)::OB.var b (mkR d f M wv vs vt n kn y1 y2)::OB.var b10 [.lit (.int .i64 ((tg+1:Nat):Int))]::OB.var b11 [.lit (.int .i64 (0:Int)),Zb ([]:List ByteArray),.lit (.int .i64 (0:Int)),.lit (.bool x9.tagged)]::OB.mI M L::R') | _=>(OB.row g 128 4 ((ys++([(⟨(0:Int),([]:List ByteArray),(0:Int),x9.tagged⟩:Itm)])).map itC)::OB.var b (mkR d f M g vs vt n kn y1 y2)::OB.var b10 [.lit (.int .i64 ((tg+1:Nat):Int))]::OB.var b11 [.lit (.int .i64 (0:Int)),Zb ([]:List ByteArray),.lit (.int .i64 (0:Int)),.lit (.bool x9.tagged)]::OB.mI M L::R')) (fun(k':Nat) (g:Value)=>match k' with | 0=>g | 1=>undef | _=>undef) [7,10] 1 (.slice none 0 0) (fun _=>rfl) h hJ Yl rfl rfl rfl rfl rfl rfl (fun j' g hj p hp=>by rcases j' with _ | _ | _ | j'<;>first | exact hp | exact List.mem_cons_of_mem _ hp | exact List.mem_cons_of_mem _ (List.mem_cons_of_mem _ hp) | (exfalso;omega)) ⟨?_,⟨?_,⟨?_,⟨?_,⟨?_,⟨?_,⟨?_,⟨?_,⟨?_,⟨?_,⟨?_,trivial⟩⟩⟩⟩⟩⟩⟩⟩⟩⟩⟩ ⟨?e30_2_0,⟨?e30_2_1,trivial⟩⟩ ⟨.old 1 9 _ rfl rfl,⟨.old 2 10 _ rfl rfl,⟨.old 3 6 _ rfl rfl,⟨.old 4 2 _ rfl rfl,trivial⟩⟩⟩⟩ ?n30_2
      exact oX rfl fun hx hl=>ZA ZQ rfl (hl.env 4 2 _ rfl rfl) hx
      exact oX rfl fun hx hl=>ZA ZQ rfl (hl.env 4 2 _ rfl rfl) hx
      exact oX rfl fun hx hl=>Zl rfl (hl.D 1 126 rfl rfl) hx
      exact oX rfl fun hx hl=>Zo ZG rfl (hl.D 2 127 rfl rfl) hx
      exact fun _ O' hO'=>⟨rfl,fun _ _ _ hx hl _=>Zn (cs:=(mkR d f M wv vs vt n kn y1 y2)) Qe rfl (Zd hx (hO' _ (mo 0 rfl))) (hl.D 3 128 rfl rfl) rfl hx⟩
      exact fun _ O' hO'=>⟨rfl,fun _ _ _ hx hl _=>Yo (cs:=[.lit (.int .i64 (0:Int)),Zb ([]:List ByteArray),.lit (.int .i64 (0:Int)),.lit (.bool x9.tagged)]) (ds:=[.lit (.int .i64 (0:Int)),Zb ([]:List ByteArray),.lit (.int .i64 (0:Int)),.lit (.bool x9.tagged)]) YJ rfl (Zd hx (hO' _ (mo 2 rfl))) (hl.env 0 12 _ rfl rfl) rfl rfl hx⟩
      exact oY rfl fun hk hx hl=>Xu Yf Qg rfl rfl (hl.D 5 130 rfl rfl) (Zq hS _ hk hx _ (Nat.le_refl _)) (jo hJ hx)
      exact Zm rfl
      exact oX rfl fun hx hl=>Zl rfl (hl.D 0 125 rfl rfl) hx
      exact oX rfl fun hx hl=>Zo ZG rfl (hl.D 8 133 rfl rfl) hx
      exact Zm rfl
      case e30_2_0=>exact⟨_,rfl,rfl,rfl,rfl,fun _ _ w hk hx hl _=>Zr (YS (f:=itC) ys ([(⟨(0:Int),([]:List ByteArray),(0:Int),x9.tagged⟩:Itm)]) (fun _=>rfl) YU hJ hJ0 rfl hk hx (hl.D 4 129 rfl rfl).lit (hl.D 6 131 rfl rfl) sfz sfz) fun v w' hp=>⟨v,rfl,fun k' hk'=>absurd hk' (Nat.not_lt_zero _),fun _=>rfl,hp⟩⟩
      case e30_2_1=>exact⟨_,rfl,rfl,rfl,rfl,fun g _ w hk hx hl hs=>Zr (XU (off:=12) (cs:=(mkR d f M wv vs vt n kn y1 y2)) (es:=(mkR d f M g vs vt n kn y1 y2)) (c:=.lit g) hJ hJ0 Y1 rfl hk hx (hl.D 9 134 rfl rfl) (by rw[(hs 0 7 _ 132 (by omega) rfl rfl rfl)];exact Rel.of_lit _ (Xz (hx.2.1 _ (mo 0 rfl)))) (lb rfl) rfl) fun v w' hp=>⟨g,rfl,fun _ _=>rfl,fun e=>(by cases e),hp⟩⟩
      clear a w h
      intro v12
      dsimp only[List.map]
      refine kw pm3 ?_
      refine kw Zy ?_
      refine kw pm3 ?_
      refine kw pm1 ?_
      refine kw pm2 ?_
      refine kw pm3 ?_
      refine kw (fun h=>YN (p:=(YC f L z4.1.1 (pre++[x9]) 0=some (ys++([(⟨(0:Int),([]:List ByteArray),(0:Int),x9.tagged⟩:Itm)])))∧((tg+1)=tgN (pre++[x9]))∧((ys++([(⟨(0:Int),([]:List ByteArray),(0:Int),x9.tagged⟩:Itm)])).length=(pre++[x9]).length)) (⟨XM r1_ (by rw[←r2_];exact e9),by rw[QD,r2_];simp[hb9],by simp[r3_]⟩) h) ?_
      exact fun a w h=>⟨(v12,ys++([(⟨(0:Int),([]:List ByteArray),(0:Int),x9.tagged⟩:Itm)]),tg+1),h.keep,h.x⟩
     ·
      try simp at hb9
      refine Zc (nx (tw pm2 ?_))
      refine tw pm3 ?_
      refine fun a w h=>YP (OB.var b (mkR d f M wv vs vt n kn y1 y2)::OB.var b11 [.lit (.int .i64 (0:Int)),Zb ([]:List ByteArray),.lit (.int .i64 (0:Int)),.lit (.bool x9.tagged)]::OB.var b10 [.lit (.int .i64 (tg:Int))]::OB.mI M L::R') (γ:=Value) (fun ix'=>([.at b 0,.at b 0,.at b 0,.at b 12,.lit wv,.agg (itC (⟨(0:Int),([]:List ByteArray),(0:Int),x9.tagged⟩:Itm)),.rd (XE ([(⟨(0:Int),([]:List ByteArray),(0:Int),x9.tagged⟩:Itm)])),.any,.at b 0,.at b 12,.any]:List AV).getD ix' .any) (fun _=>true) [(9,fun(g:Value)=>.ptr [.lit (.int .i64 (f.hyps.length:Int))]),(10,fun(g:Value)=>.at b10 0),(6,fun(g:Value)=>.ptr [Zb z4.1.1]),(2,fun(g:Value)=>.ptr [.lit (.pointer (some ⟨b,0,none⟩))])] (fun(j':Nat) (g:Value)=>match j' with | 0=>(OB.row wv 128 4 (ys.map itC)::OB.var b (mkR d f M wv vs vt n kn y1 y2)::OB.var b11 [.lit (.int .i64 (0:Int)),Zb ([]:List ByteArray),.lit (.int .i64 (0:Int)),.lit (.bool x9.tagged)]::OB.var b10 [.lit (.int .i64 (tg:Int))]::OB.mI M L::R') | 1=>(OB.row g 128 4 ((ys++([(⟨(0:Int),([]:List ByteArray),(0:Int),x9.tagged⟩:Itm)])).map itC)::OB.var b (mkR d f M wv vs vt n kn y1 y2)::OB.var b11 [.lit (.int .i64 (0:Int)),Zb ([]:List ByteArray),.lit (.int .i64 (0:Int)),.lit (.bool x9.tagged)]::OB.var b10 [.lit (.int .i64 (tg:Int))]::OB.mI M L::R') | _=>(OB.row g 128 4 ((ys++([(⟨(0:Int),([]:List ByteArray),(0:Int),x9.tagged⟩:Itm)])).map itC)::OB.var b (mkR d f M g vs vt n kn y1 y2)::OB.var b11 [.lit (.int .i64 (0:Int)),Zb ([]:List ByteArray),.lit (.int .i64 (0:Int)),.lit (.bool x9.tagged)]::OB.var b10 [.lit (.int .i64 (tg:Int))]::OB.mI M L::R')) (fun(k':Nat) (g:Value)=>match k' with | 0=>g | 1=>undef | _=>undef) [7,10] 1 (.slice none 0 0) (fun _=>rfl) h hJ Yl rfl rfl rfl rfl rfl rfl (fun j' g hj p hp=>by rcases j' with _ | _ | _ | j'<;>first | exact hp | exact List.mem_cons_of_mem _ hp | exact List.mem_cons_of_mem _ (List.mem_cons_of_mem _ hp) | (exfalso;omega)) ⟨?_,⟨?_,⟨?_,⟨?_,⟨?_,⟨?_,⟨?_,⟨?_,⟨?_,⟨?_,⟨?_,trivial⟩⟩⟩⟩⟩⟩⟩⟩⟩⟩⟩ ⟨?e30_3_0,⟨?e30_3_1,trivial⟩⟩ ⟨.old 1 9 _ rfl rfl,⟨.old 2 10 _ rfl rfl,⟨.old 3 6 _ rfl rfl,⟨.old 4 2 _ rfl rfl,trivial⟩⟩⟩⟩ ?n30_3
      exact oX rfl fun hx hl=>ZA ZQ rfl (hl.env 4 2 _ rfl rfl) hx
      exact oX rfl fun hx hl=>ZA ZQ rfl (hl.env 4 2 _ rfl rfl) hx
      exact oX rfl fun hx hl=>Zl rfl (hl.D 1 126 rfl rfl) hx
      exact oX rfl fun hx hl=>Zo ZG rfl (hl.D 2 127 rfl rfl) hx
      exact fun _ O' hO'=>⟨rfl,fun _ _ _ hx hl _=>Zn (cs:=(mkR d f M wv vs vt n kn y1 y2)) Qe rfl (Zd hx (hO' _ (mo 0 rfl))) (hl.D 3 128 rfl rfl) rfl hx⟩
      exact fun _ O' hO'=>⟨rfl,fun _ _ _ hx hl _=>Yo (cs:=[.lit (.int .i64 (0:Int)),Zb ([]:List ByteArray),.lit (.int .i64 (0:Int)),.lit (.bool x9.tagged)]) (ds:=[.lit (.int .i64 (0:Int)),Zb ([]:List ByteArray),.lit (.int .i64 (0:Int)),.lit (.bool x9.tagged)]) YJ rfl (Zd hx (hO' _ (mo 1 rfl))) (hl.env 0 12 _ rfl rfl) rfl rfl hx⟩
      exact oY rfl fun hk hx hl=>Xu Yf Qg rfl rfl (hl.D 5 130 rfl rfl) (Zq hS _ hk hx _ (Nat.le_refl _)) (jo hJ hx)
      exact Zm rfl
      exact oX rfl fun hx hl=>Zl rfl (hl.D 0 125 rfl rfl) hx
      exact oX rfl fun hx hl=>Zo ZG rfl (hl.D 8 133 rfl rfl) hx
      exact Zm rfl
      case e30_3_0=>exact⟨_,rfl,rfl,rfl,rfl,fun _ _ w hk hx hl _=>Zr (YS (f:=itC) ys ([(⟨(0:Int),([]:List ByteArray),(0:Int),x9.tagged⟩:Itm)]) (fun _=>rfl) YU hJ hJ0 rfl hk hx (hl.D 4 129 rfl rfl).lit (hl.D 6 131 rfl rfl) sfz sfz) fun v w' hp=>⟨v,rfl,fun k' hk'=>absurd hk' (Nat.not_lt_zero _),fun _=>rfl,hp⟩⟩
      case e30_3_1=>exact⟨_,rfl,rfl,rfl,rfl,fun g _ w hk hx hl hs=>Zr (XU (off:=12) (cs:=(mkR d f M wv vs vt n kn y1 y2)) (es:=(mkR d f M g vs vt n kn y1 y2)) (c:=.lit g) hJ hJ0 Y1 rfl hk hx (hl.D 9 134 rfl rfl) (by rw[(hs 0 7 _ 132 (by omega) rfl rfl rfl)];exact Rel.of_lit _ (Xz (hx.2.1 _ (mo 0 rfl)))) (lb rfl) rfl) fun v w' hp=>⟨g,rfl,fun _ _=>rfl,fun e=>(by cases e),hp⟩⟩
      clear a w h
      intro v13
      dsimp only[List.map]
      refine kw pm2 ?_
      refine kw Zy ?_
      refine kw pm3 ?_
      refine kw pm1 ?_
      refine kw pm2 ?_
      refine kw pm3 ?_
      refine kw (fun h=>YN (p:=(YC f L z4.1.1 (pre++[x9]) 0=some (ys++([(⟨(0:Int),([]:List ByteArray),(0:Int),x9.tagged⟩:Itm)])))∧(tg=tgN (pre++[x9]))∧((ys++([(⟨(0:Int),([]:List ByteArray),(0:Int),x9.tagged⟩:Itm)])).length=(pre++[x9]).length)) (⟨XM r1_ (by rw[←r2_];exact e9),by rw[QD,r2_];simp[hb9],by simp[r3_]⟩) h) ?_
      exact fun a w h=>⟨(v13,ys++([(⟨(0:Int),([]:List ByteArray),(0:Int),x9.tagged⟩:Itm)]),tg),h.keep,h.x⟩
    ·
     try simp at hb5
     refine qso tb hJ [0,1,2,3,4,5,6,1003] [_,_,_,_] [_,_,_,_,_,_,_,_] ?_
     refine cj 7 (fun hb6=>?_) fun hb6=>?_
     ·
      try simp at hb6
      have e9:=item_1 (L:=L) (lb:=z4.1.1) (tg:=tg) hb5 (by omega)
      refine Zz (snK 1 tb rfl ?_)
      refine sq (.at b 0) rfl rfl (lb rfl) (fun _ _ h=>Zl rfl (h.get 0 rfl) h.x) ?_
      refine sq (.at b 3) rfl rfl (lb rfl) (fun _ _ h=>Zo X4 rfl (h.get 0 rfl) h.x) ?_
      refine sq (.at b 5) rfl rfl (lb rfl) (fun _ _ h=>Zo Za7 rfl (h.get 0 rfl) h.x) ?_
      refine sq (.rd (XW f.hyps)) rfl rfl (lb rfl) (fun _ _ h=>Zn (cs:=(mkR d f M wv vs vt n kn y1 y2)) Zf0 rfl (Zd h.x (mo 2 rfl)) (h.get 0 rfl) rfl h.x) ?_
      refine snK 1 tb rfl ?_
      refine sq (.int (x9.number-(1:Int))) rfl rfl (lb rfl) (fun _ _ h=>ZdX (i:=x9.number) (j:=(1:Int)) rfl (h.get 0 rfl) (Rel.of_lit (Go.Value.int Go.IntKind.i64 1)) sfz sfz h.x) ?_
      refine sq (.ptr (hyC (ge f.hyps (x9.number-(1:Int)).toNat))) rfl rfl (lb rfl) (fun _ _ h=>Yg (i:=x9.number-(1:Int)) ZK rfl (h.get 2 rfl) (h.get 0 rfl) sfz (ZeH (xs:=f.hyps) (i:=x9.number-(1:Int)) sfz sfz) rfl h.x) ?_
      refine snK 2 tb rfl ?_
      refine sq (.agg (itC (⟨(1:Int),(ge f.hyps (x9.number-(1:Int)).toNat).text,0,false⟩:Itm))) rfl rfl (lb rfl) (fun a _ h=>Yt (ps:=[(0,a.eval (Go.Operand.const (Go.Value.int Go.IntKind.i64 1))),(1,a.eval (Go.Operand.tmp 83))]) (us:=[a.eval (Go.Operand.const (Go.Value.int Go.IntKind.i64 1)),a.eval (Go.Operand.tmp 83),.int .i64 0,.bool false]) X5 rfl (by simp) (ZdR (lb rfl) rfl (ZdR (lb rfl) (Rel.oneC (h.get 0 rfl)) Zew)) rfl (Zj (Rel.of_lit (Go.Value.int Go.IntKind.i64 1)) (Zj (h.get 0 rfl) (YD (.lit _ True.intro) (YD (.lit _ True.intro) ZI)))) h.x) ?_
      refine ZF (b:=b11) (off:=0) (cs:=[.lit (.int .i64 0),Zb ([]:List ByteArray),.lit (.int .i64 0),.lit (.bool false)]) (es:=[.lit (.int .i64 (1:Int)),Zb ((ge f.hyps (x9.number-(1:Int)).toNat).text),.lit (.int .i64 (0:Int)),.lit (.bool false)]) (news:=[.lit (.int .i64 (1:Int)),Zb ((ge f.hyps (x9.number-(1:Int)).toNat).text),.lit (.int .i64 (0:Int)),.lit (.bool false)]) hJ hJ0 Xg rfl rfl rfl (lb rfl) rfl (fun a w h=>⟨(h.get 11 rfl),(h.get 0 rfl)⟩) ?_
      refine seK [1,11,12,13,14,15,16] [_,_,_,_,_,_,_] rfl ?_
      refine nx (ln 0 fun hl4=>?_)
      refine Zk (tsq ?_)
      refine snK 2 tb rfl ?_
      refine sq (.at b11 3) rfl rfl (lb rfl) (fun _ _ h=>Zo YR rfl (h.get 3 rfl) h.x) ?_
      refine ZE (b:=b11) (off:=3) (cs:=[.lit (.int .i64 (1:Int)),Zb ((ge f.hyps (x9.number-(1:Int)).toNat).text),.lit (.int .i64 (0:Int)),.lit (.bool false)]) (es:=[.lit (.int .i64 (1:Int)),Zb ((ge f.hyps (x9.number-(1:Int)).toNat).text),.lit (.int .i64 (0:Int)),.lit (.bool x9.tagged)]) hJ hJ0 Qi rfl rfl rfl (lb rfl) rfl (fun a w h=>⟨(h.get 0 rfl),(h.get 1 rfl)⟩) ?_
      refine seK [4,6,7,8,9] [_,_,_,_,_] rfl ?_
      refine nx (ZN tb hJ [0,1,2,3,4,1001] [.at b11 3,.bool x9.tagged] [0,1] [_,_,_,_,_,_] rfl ⟨fun _ _ _ hx hl _=>Zo YR rfl (hl.env 0 12 _ rfl rfl) hx,fun _ _ _ hx hl _=>Zn (cs:=[.lit (.int .i64 (1:Int)),Zb ((ge f.hyps (x9.number-(1:Int)).toNat).text),.lit (.int .i64 (0:Int)),.lit (.bool x9.tagged)]) Zf1 rfl (Zd hx (mo 0 rfl)) (hl.D 0 121 rfl rfl) rfl hx,trivial⟩ ?_)
      refine cj 5 (fun hb9=>?_) fun hb9=>?_
      ·
       try simp at hb9
       refine Zz (sq (.int (tg:Nat)) rfl rfl (lb rfl) (fun _ _ h=>Zn (cs:=[.lit (.int .i64 (tg:Int))]) Zbs rfl (Zd h.x (mo 1 rfl)) (h.get 2 rfl) rfl h.x) ?_)
       refine sq (.int (tg+1:Nat)) rfl rfl (lb rfl) (fun _ _ h=>ZeO (i:=(tg:Int)) (j:=(1:Int)) rfl (h.get 0 rfl) (Rel.of_lit (Go.Value.int Go.IntKind.i64 1)) sfz sfz h.x) ?_
       refine kw pm1 ?_
       refine ZE (b:=b10) (off:=0) (cs:=[.lit (.int .i64 (tg:Int))]) (es:=[.lit (.int .i64 ((tg+1:Nat):Int))]) hJ hJ0 QF rfl rfl rfl (lb rfl) rfl (fun a w h=>⟨(h.get 4 rfl),(h.get 0 rfl)⟩) ?_
       refine seK [2,3,4,5,6] [_,_,_,_,_] rfl ?_
       refine nx (tw pm2 ?_)
       refine tw pm3 ?_
       refine fun a w h=>YP (OB.var b (mkR d f M wv vs vt n kn y1 y2)::OB.var b10 [.lit (.int .i64 ((tg+1:Nat):Int))]::OB.var b11 [.lit (.int .i64 (1:Int)),Zb ((ge f.hyps (x9.number-(1:Int)).toNat).text),.lit (.int .i64 (0:Int)),.lit (.bool x9.tagged)]::OB.mI M L::R') (γ:=Value) (fun ix'=>([.at b 0,.at b 0,.at b 0,.at b 12,.lit wv,.agg (itC (⟨(1:Int),(ge f.hyps (x9.number-(1:Int)).toNat).text,(0:Int),x9.tagged⟩:Itm)),.rd (XE ([(⟨(1:Int),(ge f.hyps (x9.number-(1:Int)).toNat).text,(0:Int),x9.tagged⟩:Itm)])),.any,.at b 0,.at b 12,.any]:List AV).getD ix' .any) (fun _=>true) [(9,fun(g:Value)=>.ptr [.lit (.int .i64 (f.hyps.length:Int))]),(10,fun(g:Value)=>.at b10 0),(6,fun(g:Value)=>.ptr [Zb z4.1.1]),(2,fun(g:Value)=>.ptr [.lit (.pointer (some ⟨b,0,none⟩))])] (fun(j':Nat) (g:Value)=>match j' with | 0=>(OB.row wv 128 4 (ys.map itC)::OB.var b (mkR d f M wv vs vt n kn y1 y2)::OB.var b10 [.lit (.int .i64 ((tg+1:Nat):Int))]::OB.var b11 [.lit (.int .i64 (1:Int)),Zb ((ge f.hyps (x9.number-(1:Int)).toNat).text),.lit (.int .i64 (0:Int)),.lit (.bool x9.tagged)]::OB.mI M L::R') | 1=>(OB.row g 128 4 ((ys++([(⟨(1:Int),(ge f.hyps (x9.number-(1:Int)).toNat).text,(0:Int),x9.tagged⟩:Itm)])).map itC)::OB.var b (mkR d f M wv vs vt n kn y1 y2)::OB.var b10 [.lit (.int .i64 ((tg+1:Nat):Int))]::OB.var b11 [.lit (.int .i64 (1:Int)),Zb ((ge f.hyps (x9.number-(1:Int)).toNat).text),.lit (.int .i64 (0:Int)),.lit (.bool x9.tagged)]::OB.mI M L::R') | _=>(OB.row g 128 4 ((ys++([(⟨(1:Int),(ge f.hyps (x9.number-(1:Int)).toNat).text,(0:Int),x9.tagged⟩:Itm)])).map itC)::OB.var b (mkR d f M g vs vt n kn y1 y2)::OB.var b10 [.lit (.int .i64 ((tg+1:Nat):Int))]::OB.var b11 [.lit (.int .i64 (1:Int)),Zb ((ge f.hyps (x9.number-(1:Int)).toNat).text),.lit (.int .i64 (0:Int)),.lit (.bool x9.tagged)]::OB.mI M L::R')) (fun(k':Nat) (g:Value)=>match k' with | 0=>g | 1=>undef | _=>undef) [7,10] 1 (.slice none 0 0) (fun _=>rfl) h hJ Yl rfl rfl rfl rfl rfl rfl (fun j' g hj p hp=>by rcases j' with _ | _ | _ | j'<;>first | exact hp | exact List.mem_cons_of_mem _ hp | exact List.mem_cons_of_mem _ (List.mem_cons_of_mem _ hp) | (exfalso;omega)) ⟨?_,⟨?_,⟨?_,⟨?_,⟨?_,⟨?_,⟨?_,⟨?_,⟨?_,⟨?_,⟨?_,trivial⟩⟩⟩⟩⟩⟩⟩⟩⟩⟩⟩ ⟨?e30_4_0,⟨?e30_4_1,trivial⟩⟩ ⟨.old 1 9 _ rfl rfl,⟨.old 2 10 _ rfl rfl,⟨.old 3 6 _ rfl rfl,⟨.old 4 2 _ rfl rfl,trivial⟩⟩⟩⟩ ?n30_4
       exact oX rfl fun hx hl=>ZA ZQ rfl (hl.env 4 2 _ rfl rfl) hx
       exact oX rfl fun hx hl=>ZA ZQ rfl (hl.env 4 2 _ rfl rfl) hx
       exact oX rfl fun hx hl=>Zl rfl (hl.D 1 126 rfl rfl) hx
       exact oX rfl fun hx hl=>Zo ZG rfl (hl.D 2 127 rfl rfl) hx
       exact fun _ O' hO'=>⟨rfl,fun _ _ _ hx hl _=>Zn (cs:=(mkR d f M wv vs vt n kn y1 y2)) Qe rfl (Zd hx (hO' _ (mo 0 rfl))) (hl.D 3 128 rfl rfl) rfl hx⟩
       exact fun _ O' hO'=>⟨rfl,fun _ _ _ hx hl _=>Yo (cs:=[.lit (.int .i64 (1:Int)),Zb ((ge f.hyps (x9.number-(1:Int)).toNat).text),.lit (.int .i64 (0:Int)),.lit (.bool x9.tagged)]) (ds:=[.lit (.int .i64 (1:Int)),Zb ((ge f.hyps (x9.number-(1:Int)).toNat).text),.lit (.int .i64 (0:Int)),.lit (.bool x9.tagged)]) YJ rfl (Zd hx (hO' _ (mo 2 rfl))) (hl.env 0 12 _ rfl rfl) rfl rfl hx⟩
       exact oY rfl fun hk hx hl=>Xu Yf Qg rfl rfl (hl.D 5 130 rfl rfl) (Zq hS _ hk hx _ (Nat.le_refl _)) (jo hJ hx)
       exact Zm rfl
       exact oX rfl fun hx hl=>Zl rfl (hl.D 0 125 rfl rfl) hx
       exact oX rfl fun hx hl=>Zo ZG rfl (hl.D 8 133 rfl rfl) hx
       exact Zm rfl
       case e30_4_0=>exact⟨_,rfl,rfl,rfl,rfl,fun _ _ w hk hx hl _=>Zr (YS (f:=itC) ys ([(⟨(1:Int),(ge f.hyps (x9.number-(1:Int)).toNat).text,(0:Int),x9.tagged⟩:Itm)]) (fun _=>rfl) YU hJ hJ0 rfl hk hx (hl.D 4 129 rfl rfl).lit (hl.D 6 131 rfl rfl) sfz sfz) fun v w' hp=>⟨v,rfl,fun k' hk'=>absurd hk' (Nat.not_lt_zero _),fun _=>rfl,hp⟩⟩
       case e30_4_1=>exact⟨_,rfl,rfl,rfl,rfl,fun g _ w hk hx hl hs=>Zr (XU (off:=12) (cs:=(mkR d f M wv vs vt n kn y1 y2)) (es:=(mkR d f M g vs vt n kn y1 y2)) (c:=.lit g) hJ hJ0 Y1 rfl hk hx (hl.D 9 134 rfl rfl) (by rw[(hs 0 7 _ 132 (by omega) rfl rfl rfl)];exact Rel.of_lit _ (Xz (hx.2.1 _ (mo 0 rfl)))) (lb rfl) rfl) fun v w' hp=>⟨g,rfl,fun _ _=>rfl,fun e=>(by cases e),hp⟩⟩
       clear a w h
       intro v14
       dsimp only[List.map]
       refine kw pm3 ?_
       refine kw Zy ?_
       refine kw pm3 ?_
       refine kw pm1 ?_
       refine kw pm2 ?_
       refine kw pm3 ?_
       refine kw (fun h=>YN (p:=(YC f L z4.1.1 (pre++[x9]) 0=some (ys++([(⟨(1:Int),(ge f.hyps (x9.number-(1:Int)).toNat).text,(0:Int),x9.tagged⟩:Itm)])))∧((tg+1)=tgN (pre++[x9]))∧((ys++([(⟨(1:Int),(ge f.hyps (x9.number-(1:Int)).toNat).text,(0:Int),x9.tagged⟩:Itm)])).length=(pre++[x9]).length)) (⟨XM r1_ (by rw[←r2_];exact e9),by rw[QD,r2_];simp[hb9],by simp[r3_]⟩) h) ?_
       exact fun a w h=>⟨(v14,ys++([(⟨(1:Int),(ge f.hyps (x9.number-(1:Int)).toNat).text,(0:Int),x9.tagged⟩:Itm)]),tg+1),h.keep,h.x⟩
      ·
       try simp at hb9
       refine Zc (nx (tw pm2 ?_))
       refine tw pm3 ?_
       refine fun a w h=>YP (OB.var b (mkR d f M wv vs vt n kn y1 y2)::OB.var b11 [.lit (.int .i64 (1:Int)),Zb ((ge f.hyps (x9.number-(1:Int)).toNat).text),.lit (.int .i64 (0:Int)),.lit (.bool x9.tagged)]::OB.var b10 [.lit (.int .i64 (tg:Int))]::OB.mI M L::R') (γ:=Value) (fun ix'=>([.at b 0,.at b 0,.at b 0,.at b 12,.lit wv,.agg (itC (⟨(1:Int),(ge f.hyps (x9.number-(1:Int)).toNat).text,(0:Int),x9.tagged⟩:Itm)),.rd (XE ([(⟨(1:Int),(ge f.hyps (x9.number-(1:Int)).toNat).text,(0:Int),x9.tagged⟩:Itm)])),.any,.at b 0,.at b 12,.any]:List AV).getD ix' .any) (fun _=>true) [(9,fun(g:Value)=>.ptr [.lit (.int .i64 (f.hyps.length:Int))]),(10,fun(g:Value)=>.at b10 0),(6,fun(g:Value)=>.ptr [Zb z4.1.1]),(2,fun(g:Value)=>.ptr [.lit (.pointer (some ⟨b,0,none⟩))])] (fun(j':Nat) (g:Value)=>match j' with | 0=>(OB.row wv 128 4 (ys.map itC)::OB.var b (mkR d f M wv vs vt n kn y1 y2)::OB.var b11 [.lit (.int .i64 (1:Int)),Zb ((ge f.hyps (x9.number-(1:Int)).toNat).text),.lit (.int .i64 (0:Int)),.lit (.bool x9.tagged)]::OB.var b10 [.lit (.int .i64 (tg:Int))]::OB.mI M L::R') | 1=>(OB.row g 128 4 ((ys++([(⟨(1:Int),(ge f.hyps (x9.number-(1:Int)).toNat).text,(0:Int),x9.tagged⟩:Itm)])).map itC)::OB.var b (mkR d f M wv vs vt n kn y1 y2)::OB.var b11 [.lit (.int .i64 (1:Int)),Zb ((ge f.hyps (x9.number-(1:Int)).toNat).text),.lit (.int .i64 (0:Int)),.lit (.bool x9.tagged)]::OB.var b10 [.lit (.int .i64 (tg:Int))]::OB.mI M L::R') | _=>(OB.row g 128 4 ((ys++([(⟨(1:Int),(ge f.hyps (x9.number-(1:Int)).toNat).text,(0:Int),x9.tagged⟩:Itm)])).map itC)::OB.var b (mkR d f M g vs vt n kn y1 y2)::OB.var b11 [.lit (.int .i64 (1:Int)),Zb ((ge f.hyps (x9.number-(1:Int)).toNat).text),.lit (.int .i64 (0:Int)),.lit (.bool x9.tagged)]::OB.var b10 [.lit (.int .i64 (tg:Int))]::OB.mI M L::R')) (fun(k':Nat) (g:Value)=>match k' with | 0=>g | 1=>undef | _=>undef) [7,10] 1 (.slice none 0 0) (fun _=>rfl) h hJ Yl rfl rfl rfl rfl rfl rfl (fun j' g hj p hp=>by rcases j' with _ | _ | _ | j'<;>first | exact hp | exact List.mem_cons_of_mem _ hp | exact List.mem_cons_of_mem _ (List.mem_cons_of_mem _ hp) | (exfalso;omega)) ⟨?_,⟨?_,⟨?_,⟨?_,⟨?_,⟨?_,⟨?_,⟨?_,⟨?_,⟨?_,⟨?_,trivial⟩⟩⟩⟩⟩⟩⟩⟩⟩⟩⟩ ⟨?e30_5_0,⟨?e30_5_1,trivial⟩⟩ ⟨.old 1 9 _ rfl rfl,⟨.old 2 10 _ rfl rfl,⟨.old 3 6 _ rfl rfl,⟨.old 4 2 _ rfl rfl,trivial⟩⟩⟩⟩ ?n30_5
       exact oX rfl fun hx hl=>ZA ZQ rfl (hl.env 4 2 _ rfl rfl) hx
       exact oX rfl fun hx hl=>ZA ZQ rfl (hl.env 4 2 _ rfl rfl) hx
       exact oX rfl fun hx hl=>Zl rfl (hl.D 1 126 rfl rfl) hx
       exact oX rfl fun hx hl=>Zo ZG rfl (hl.D 2 127 rfl rfl) hx
       exact fun _ O' hO'=>⟨rfl,fun _ _ _ hx hl _=>Zn (cs:=(mkR d f M wv vs vt n kn y1 y2)) Qe rfl (Zd hx (hO' _ (mo 0 rfl))) (hl.D 3 128 rfl rfl) rfl hx⟩
       exact fun _ O' hO'=>⟨rfl,fun _ _ _ hx hl _=>Yo (cs:=[.lit (.int .i64 (1:Int)),Zb ((ge f.hyps (x9.number-(1:Int)).toNat).text),.lit (.int .i64 (0:Int)),.lit (.bool x9.tagged)]) (ds:=[.lit (.int .i64 (1:Int)),Zb ((ge f.hyps (x9.number-(1:Int)).toNat).text),.lit (.int .i64 (0:Int)),.lit (.bool x9.tagged)]) YJ rfl (Zd hx (hO' _ (mo 1 rfl))) (hl.env 0 12 _ rfl rfl) rfl rfl hx⟩
       exact oY rfl fun hk hx hl=>Xu Yf Qg rfl rfl (hl.D 5 130 rfl rfl) (Zq hS _ hk hx _ (Nat.le_refl _)) (jo hJ hx)
       exact Zm rfl
       exact oX rfl fun hx hl=>Zl rfl (hl.D 0 125 rfl rfl) hx
       exact oX rfl fun hx hl=>Zo ZG rfl (hl.D 8 133 rfl rfl) hx
       exact Zm rfl
       case e30_5_0=>exact⟨_,rfl,rfl,rfl,rfl,fun _ _ w hk hx hl _=>Zr (YS (f:=itC) ys ([(⟨(1:Int),(ge f.hyps (x9.number-(1:Int)).toNat).text,(0:Int),x9.tagged⟩:Itm)]) (fun _=>rfl) YU hJ hJ0 rfl hk hx (hl.D 4 129 rfl rfl).lit (hl.D 6 131 rfl rfl) sfz sfz) fun v w' hp=>⟨v,rfl,fun k' hk'=>absurd hk' (Nat.not_lt_zero _),fun _=>rfl,hp⟩⟩
       case e30_5_1=>exact⟨_,rfl,rfl,rfl,rfl,fun g _ w hk hx hl hs=>Zr (XU (off:=12) (cs:=(mkR d f M wv vs vt n kn y1 y2)) (es:=(mkR d f M g vs vt n kn y1 y2)) (c:=.lit g) hJ hJ0 Y1 rfl hk hx (hl.D 9 134 rfl rfl) (by rw[(hs 0 7 _ 132 (by omega) rfl rfl rfl)];exact Rel.of_lit _ (Xz (hx.2.1 _ (mo 0 rfl)))) (lb rfl) rfl) fun v w' hp=>⟨g,rfl,fun _ _=>rfl,fun e=>(by cases e),hp⟩⟩
       clear a w h
       intro v15
       dsimp only[List.map]
       refine kw pm2 ?_
       refine kw Zy ?_
       refine kw pm3 ?_
       refine kw pm1 ?_
       refine kw pm2 ?_
       refine kw pm3 ?_
       refine kw (fun h=>YN (p:=(YC f L z4.1.1 (pre++[x9]) 0=some (ys++([(⟨(1:Int),(ge f.hyps (x9.number-(1:Int)).toNat).text,(0:Int),x9.tagged⟩:Itm)])))∧(tg=tgN (pre++[x9]))∧((ys++([(⟨(1:Int),(ge f.hyps (x9.number-(1:Int)).toNat).text,(0:Int),x9.tagged⟩:Itm)])).length=(pre++[x9]).length)) (⟨XM r1_ (by rw[←r2_];exact e9),by rw[QD,r2_];simp[hb9],by simp[r3_]⟩) h) ?_
       exact fun a w h=>⟨(v15,ys++([(⟨(1:Int),(ge f.hyps (x9.number-(1:Int)).toNat).text,(0:Int),x9.tagged⟩:Itm)]),tg),h.keep,h.x⟩
     ·
      try simp at hb6
      refine ZN tb hJ [0,1,2,3,4,5,6,1006] [_,_,_,.int (z4.1.1.length:Nat),.int (f.hyps.length+z4.1.1.length:Nat),_,_] [3,4] [_,_,_,_,_,_,_,_] rfl ⟨YK Zx,Yw,trivial⟩ ?_
      refine cj 7 (fun hb7=>?_) fun hb7=>?_
      ·
       try simp at hb7
       have e9:=item_2 (f:=f) (L:=L) (lb:=z4.1.1) (tg:=tg) hb5 (by omega) (by omega)
       refine fun a w h=>YG (γ:=Unit) (fun ix'=>([.at b 0,.rd (Zb z4.1.1),.int x9.number,.int (x9.number-(1:Int)),.int (f.hyps.length:Nat),.int (x9.number-(1:Int)-(f.hyps.length:Int)),.ptr [.lit (.string (ge z4.1.1 (x9.number-(1:Int)-(f.hyps.length:Int)).toNat))],.str (ge z4.1.1 (x9.number-(1:Int)-(f.hyps.length:Int)).toNat),.agg (itC (nmE f L z4.1.1 x9)),.any]:List AV).getD ix' .any) (fun _=>true) [(12,fun(g:Unit)=>.at b11 0),(11,fun(g:Unit)=>.ptr (ltC x9)),(9,fun(g:Unit)=>.ptr [.lit (.int .i64 (f.hyps.length:Int))]),(10,fun(g:Unit)=>.at b10 0),(6,fun(g:Unit)=>.ptr [Zb z4.1.1]),(2,fun(g:Unit)=>.ptr [.lit (.pointer (some ⟨b,0,none⟩))])] (fun(j':Nat) (g:Unit)=>match j' with | 0=>(OB.var b11 [.lit (.int .i64 0),Zb ([]:List ByteArray),.lit (.int .i64 0),.lit (.bool false)]::OB.var b10 [.lit (.int .i64 (tg:Int))]::OB.var b (mkR d f M wv vs vt n kn y1 y2)::OB.row wv 128 4 (ys.map itC)::OB.mI M L::R') | _=>(OB.var b11 [.lit (.int .i64 ((nmE f L z4.1.1 x9).kind)),Zb ((nmE f L z4.1.1 x9).text),.lit (.int .i64 ((nmE f L z4.1.1 x9).number)),.lit (.bool ((nmE f L z4.1.1 x9).tagged))]::OB.var b10 [.lit (.int .i64 (tg:Int))]::OB.var b (mkR d f M wv vs vt n kn y1 y2)::OB.row wv 128 4 (ys.map itC)::OB.mI M L::R')) (fun(k':Nat) (g:Unit)=>match k' with | 0=>undef | _=>undef) [9] 0 () (fun _=>rfl) h hJ Yl rfl rfl rfl rfl rfl rfl (fun j' g hj p hp=>by rcases j' with _ | _ | _ | j'<;>first | exact hp | exact List.mem_cons_of_mem _ hp | exact List.mem_cons_of_mem _ (List.mem_cons_of_mem _ hp) | (exfalso;omega)) ⟨?_,⟨?_,⟨?_,⟨?_,⟨?_,⟨?_,⟨?_,⟨?_,⟨?_,⟨?_,trivial⟩⟩⟩⟩⟩⟩⟩⟩⟩⟩ ⟨?e24_6_0,trivial⟩ ⟨.old 0 12 _ rfl rfl,⟨.old 1 11 _ rfl rfl,⟨.old 2 9 _ rfl rfl,⟨.old 3 10 _ rfl rfl,⟨.old 4 6 _ rfl rfl,⟨.old 5 2 _ rfl rfl,trivial⟩⟩⟩⟩⟩⟩ ?n24_6
       exact oX rfl fun hx hl=>ZA ZQ rfl (hl.env 5 2 _ rfl rfl) hx
       exact oX rfl fun hx hl=>ZA YX rfl (hl.env 4 6 _ rfl rfl) hx
       exact oX rfl fun hx hl=>YA rfl (hl.env 6 13 _ rfl rfl) hx
       exact oX rfl fun hx hl=>ZdX (i:=x9.number) (j:=(1:Int)) rfl (hl.D 2 94 rfl rfl) (Rel.of_lit (Go.Value.int Go.IntKind.i64 1)) sfz sfz hx
       exact oX rfl fun hx hl=>ZA Zbs rfl (hl.env 2 9 _ rfl rfl) hx
       exact oX rfl fun hx hl=>ZdX (i:=x9.number-(1:Int)) (j:=(f.hyps.length:Int)) rfl (hl.D 3 95 rfl rfl) (hl.D 4 96 rfl rfl) sfz sfz hx
       exact oX rfl fun hx hl=>Yg (i:=x9.number-(1:Int)-(f.hyps.length:Int)) Zi rfl (hl.D 1 93 rfl rfl) (hl.D 5 97 rfl rfl) sfz (ZeH (xs:=z4.1.1) (i:=x9.number-(1:Int)-(f.hyps.length:Int)) sfz sfz) rfl hx
       exact oX rfl fun hx hl=>ZA QX rfl (hl.D 6 98 rfl rfl) hx
       exact fun _ O' hO'=>⟨rfl,fun _ _ hk hx hl _=>Xj (Zk7 hJ (b:=b) (d:=d) (f:=f) (M:=M) (L:=L) (vi:=wv) (vs:=vs) (vt:=vt) (n:=n) (kn:=kn) (y1:=y1) (y2:=y2) (s:=(ge z4.1.1 (x9.number-(1:Int)-(f.hyps.length:Int)).toNat)) sfz) Zmr rfl (Zq hS _ hk hx) (hx.1) (ZH (Zd hx (hO' _ (mo 2 rfl))) (ZH (Zd hx (hO' _ (mo 4 rfl))) Zs)) (Za (hl.D 0 92 rfl rfl) (Za (hl.D 7 99 rfl rfl) Ze)) (jo hJ hx)⟩
       exact Zm rfl
       case e24_6_0=>exact⟨_,rfl,rfl,rfl,rfl,fun g _ w hk hx hl _=>(by obtain⟨us2,hv2,hr3⟩:=Zai (cs:=[.lit (.int .i64 ((nmE f L z4.1.1 x9).kind)),Zb ((nmE f L z4.1.1 x9).text),.lit (.int .i64 ((nmE f L z4.1.1 x9).number)),.lit (.bool ((nmE f L z4.1.1 x9).tagged))]) (hl.D 8 100 rfl rfl);exact Zr (Xn (off:=0) (cs:=[.lit (.int .i64 0),Zb ([]:List ByteArray),.lit (.int .i64 0),.lit (.bool false)]) (news:=[.lit (.int .i64 ((nmE f L z4.1.1 x9).kind)),Zb ((nmE f L z4.1.1 x9).text),.lit (.int .i64 ((nmE f L z4.1.1 x9).number)),.lit (.bool ((nmE f L z4.1.1 x9).tagged))]) (es:=[.lit (.int .i64 ((nmE f L z4.1.1 x9).kind)),Zb ((nmE f L z4.1.1 x9).text),.lit (.int .i64 ((nmE f L z4.1.1 x9).number)),.lit (.bool ((nmE f L z4.1.1 x9).tagged))]) (us:=us2) hJ hJ0 Xg rfl hk hx (hl.env 0 12 _ rfl rfl) (by rw[hv2];rfl) hr3 (lb rfl) rfl) fun v w' hp=>⟨g,rfl,fun _ _=>rfl,fun e=>(by cases e),hp⟩)⟩
       clear a w h
       intro _
       dsimp only[List.map]
       refine nx (Zk (tsq ?_))
       refine snK 2 tb rfl ?_
       refine sq (.at b11 3) rfl rfl (lb rfl) (fun _ _ h=>Zo YR rfl (h.get 2 rfl) h.x) ?_
       refine ZE (b:=b11) (off:=3) (cs:=[.lit (.int .i64 ((nmE f L z4.1.1 x9).kind)),Zb ((nmE f L z4.1.1 x9).text),.lit (.int .i64 ((nmE f L z4.1.1 x9).number)),.lit (.bool ((nmE f L z4.1.1 x9).tagged))]) (es:=[.lit (.int .i64 ((nmE f L z4.1.1 x9).kind)),Zb ((nmE f L z4.1.1 x9).text),.lit (.int .i64 ((nmE f L z4.1.1 x9).number)),.lit (.bool x9.tagged)]) hJ hJ0 Qi rfl rfl rfl (lb rfl) rfl (fun a w h=>⟨(h.get 0 rfl),(h.get 1 rfl)⟩) ?_
       refine seK [3,5,6,7,8] [_,_,_,_,_] rfl ?_
       refine nx (ZN tb hJ [0,1,2,3,4,1001] [.at b11 3,.bool x9.tagged] [0,1] [_,_,_,_,_,_] rfl ⟨fun _ _ _ hx hl _=>Zo YR rfl (hl.env 0 12 _ rfl rfl) hx,fun _ _ _ hx hl _=>Zn (cs:=[.lit (.int .i64 ((nmE f L z4.1.1 x9).kind)),Zb ((nmE f L z4.1.1 x9).text),.lit (.int .i64 ((nmE f L z4.1.1 x9).number)),.lit (.bool x9.tagged)]) Zf1 rfl (Zd hx (mo 0 rfl)) (hl.D 0 121 rfl rfl) rfl hx,trivial⟩ ?_)
       refine cj 5 (fun hb9=>?_) fun hb9=>?_
       ·
        try simp at hb9
        refine Zz (sq (.int (tg:Nat)) rfl rfl (lb rfl) (fun _ _ h=>Zn (cs:=[.lit (.int .i64 (tg:Int))]) Zbs rfl (Zd h.x (mo 1 rfl)) (h.get 2 rfl) rfl h.x) ?_)
        refine sq (.int (tg+1:Nat)) rfl rfl (lb rfl) (fun _ _ h=>ZeO (i:=(tg:Int)) (j:=(1:Int)) rfl (h.get 0 rfl) (Rel.of_lit (Go.Value.int Go.IntKind.i64 1)) sfz sfz h.x) ?_
        refine kw pm1 ?_
        refine ZE (b:=b10) (off:=0) (cs:=[.lit (.int .i64 (tg:Int))]) (es:=[.lit (.int .i64 ((tg+1:Nat):Int))]) hJ hJ0 QF rfl rfl rfl (lb rfl) rfl (fun a w h=>⟨(h.get 4 rfl),(h.get 0 rfl)⟩) ?_
        refine seK [2,3,4,5,6] [_,_,_,_,_] rfl ?_
        refine nx (tw pm2 ?_)
        refine tw pm3 ?_
        refine fun a w h=>YP (OB.var b (mkR d f M wv vs vt n kn y1 y2)::OB.var b10 [.lit (.int .i64 ((tg+1:Nat):Int))]::OB.var b11 [.lit (.int .i64 ((nmE f L z4.1.1 x9).kind)),Zb ((nmE f L z4.1.1 x9).text),.lit (.int .i64 ((nmE f L z4.1.1 x9).number)),.lit (.bool x9.tagged)]::OB.mI M L::R') (γ:=Value) (fun ix'=>([.at b 0,.at b 0,.at b 0,.at b 12,.lit wv,.agg (itC (⟨(nmE f L z4.1.1 x9).kind,(nmE f L z4.1.1 x9).text,(nmE f L z4.1.1 x9).number,x9.tagged⟩:Itm)),.rd (XE ([(⟨(nmE f L z4.1.1 x9).kind,(nmE f L z4.1.1 x9).text,(nmE f L z4.1.1 x9).number,x9.tagged⟩:Itm)])),.any,.at b 0,.at b 12,.any]:List AV).getD ix' .any) (fun _=>true) [(9,fun(g:Value)=>.ptr [.lit (.int .i64 (f.hyps.length:Int))]),(10,fun(g:Value)=>.at b10 0),(6,fun(g:Value)=>.ptr [Zb z4.1.1]),(2,fun(g:Value)=>.ptr [.lit (.pointer (some ⟨b,0,none⟩))])] (fun(j':Nat) (g:Value)=>match j' with | 0=>(OB.row wv 128 4 (ys.map itC)::OB.var b (mkR d f M wv vs vt n kn y1 y2)::OB.var b10 [.lit (.int .i64 ((tg+1:Nat):Int))]::OB.var b11 [.lit (.int .i64 ((nmE f L z4.1.1 x9).kind)),Zb ((nmE f L z4.1.1 x9).text),.lit (.int .i64 ((nmE f L z4.1.1 x9).number)),.lit (.bool x9.tagged)]::OB.mI M L::R') | 1=>(OB.row g 128 4 ((ys++([(⟨(nmE f L z4.1.1 x9).kind,(nmE f L z4.1.1 x9).text,(nmE f L z4.1.1 x9).number,x9.tagged⟩:Itm)])).map itC)::OB.var b (mkR d f M wv vs vt n kn y1 y2)::OB.var b10 [.lit (.int .i64 ((tg+1:Nat):Int))]::OB.var b11 [.lit (.int .i64 ((nmE f L z4.1.1 x9).kind)),Zb ((nmE f L z4.1.1 x9).text),.lit (.int .i64 ((nmE f L z4.1.1 x9).number)),.lit (.bool x9.tagged)]::OB.mI M L::R') | _=>(OB.row g 128 4 ((ys++([(⟨(nmE f L z4.1.1 x9).kind,(nmE f L z4.1.1 x9).text,(nmE f L z4.1.1 x9).number,x9.tagged⟩:Itm)])).map itC)::OB.var b (mkR d f M g vs vt n kn y1 y2)::OB.var b10 [.lit (.int .i64 ((tg+1:Nat):Int))]::OB.var b11 [.lit (.int .i64 ((nmE f L z4.1.1 x9).kind)),Zb ((nmE f L z4.1.1 x9).text),.lit (.int .i64 ((nmE f L z4.1.1 x9).number)),.lit (.bool x9.tagged)]::OB.mI M L::R')) (fun(k':Nat) (g:Value)=>match k' with | 0=>g | 1=>undef | _=>undef) [7,10] 1 (.slice none 0 0) (fun _=>rfl) h hJ Yl rfl rfl rfl rfl rfl rfl (fun j' g hj p hp=>by rcases j' with _ | _ | _ | j'<;>first | exact hp | exact List.mem_cons_of_mem _ hp | exact List.mem_cons_of_mem _ (List.mem_cons_of_mem _ hp) | (exfalso;omega)) ⟨?_,⟨?_,⟨?_,⟨?_,⟨?_,⟨?_,⟨?_,⟨?_,⟨?_,⟨?_,⟨?_,trivial⟩⟩⟩⟩⟩⟩⟩⟩⟩⟩⟩ ⟨?e30_7_0,⟨?e30_7_1,trivial⟩⟩ ⟨.old 1 9 _ rfl rfl,⟨.old 2 10 _ rfl rfl,⟨.old 3 6 _ rfl rfl,⟨.old 4 2 _ rfl rfl,trivial⟩⟩⟩⟩ ?n30_7
        exact oX rfl fun hx hl=>ZA ZQ rfl (hl.env 4 2 _ rfl rfl) hx
        exact oX rfl fun hx hl=>ZA ZQ rfl (hl.env 4 2 _ rfl rfl) hx
        exact oX rfl fun hx hl=>Zl rfl (hl.D 1 126 rfl rfl) hx
        exact oX rfl fun hx hl=>Zo ZG rfl (hl.D 2 127 rfl rfl) hx
        exact fun _ O' hO'=>⟨rfl,fun _ _ _ hx hl _=>Zn (cs:=(mkR d f M wv vs vt n kn y1 y2)) Qe rfl (Zd hx (hO' _ (mo 0 rfl))) (hl.D 3 128 rfl rfl) rfl hx⟩
        exact fun _ O' hO'=>⟨rfl,fun _ _ _ hx hl _=>Yo (cs:=[.lit (.int .i64 ((nmE f L z4.1.1 x9).kind)),Zb ((nmE f L z4.1.1 x9).text),.lit (.int .i64 ((nmE f L z4.1.1 x9).number)),.lit (.bool x9.tagged)]) (ds:=[.lit (.int .i64 ((nmE f L z4.1.1 x9).kind)),Zb ((nmE f L z4.1.1 x9).text),.lit (.int .i64 ((nmE f L z4.1.1 x9).number)),.lit (.bool x9.tagged)]) YJ rfl (Zd hx (hO' _ (mo 2 rfl))) (hl.env 0 12 _ rfl rfl) rfl rfl hx⟩
        exact oY rfl fun hk hx hl=>Xu Yf Qg rfl rfl (hl.D 5 130 rfl rfl) (Zq hS _ hk hx _ (Nat.le_refl _)) (jo hJ hx)
        exact Zm rfl
        exact oX rfl fun hx hl=>Zl rfl (hl.D 0 125 rfl rfl) hx
        exact oX rfl fun hx hl=>Zo ZG rfl (hl.D 8 133 rfl rfl) hx
        exact Zm rfl
        case e30_7_0=>exact⟨_,rfl,rfl,rfl,rfl,fun _ _ w hk hx hl _=>Zr (YS (f:=itC) ys ([(⟨(nmE f L z4.1.1 x9).kind,(nmE f L z4.1.1 x9).text,(nmE f L z4.1.1 x9).number,x9.tagged⟩:Itm)]) (fun _=>rfl) YU hJ hJ0 rfl hk hx (hl.D 4 129 rfl rfl).lit (hl.D 6 131 rfl rfl) sfz sfz) fun v w' hp=>⟨v,rfl,fun k' hk'=>absurd hk' (Nat.not_lt_zero _),fun _=>rfl,hp⟩⟩
        case e30_7_1=>exact⟨_,rfl,rfl,rfl,rfl,fun g _ w hk hx hl hs=>Zr (XU (off:=12) (cs:=(mkR d f M wv vs vt n kn y1 y2)) (es:=(mkR d f M g vs vt n kn y1 y2)) (c:=.lit g) hJ hJ0 Y1 rfl hk hx (hl.D 9 134 rfl rfl) (by rw[(hs 0 7 _ 132 (by omega) rfl rfl rfl)];exact Rel.of_lit _ (Xz (hx.2.1 _ (mo 0 rfl)))) (lb rfl) rfl) fun v w' hp=>⟨g,rfl,fun _ _=>rfl,fun e=>(by cases e),hp⟩⟩
        clear a w h
        intro v16
        dsimp only[List.map]
        refine kw pm3 ?_
        refine kw Zy ?_
        refine kw pm3 ?_
        refine kw pm1 ?_
        refine kw pm2 ?_
        refine kw pm3 ?_
        refine kw (fun h=>YN (p:=(YC f L z4.1.1 (pre++[x9]) 0=some (ys++([(⟨(nmE f L z4.1.1 x9).kind,(nmE f L z4.1.1 x9).text,(nmE f L z4.1.1 x9).number,x9.tagged⟩:Itm)])))∧((tg+1)=tgN (pre++[x9]))∧((ys++([(⟨(nmE f L z4.1.1 x9).kind,(nmE f L z4.1.1 x9).text,(nmE f L z4.1.1 x9).number,x9.tagged⟩:Itm)])).length=(pre++[x9]).length)) (⟨XM r1_ (by rw[←r2_];exact e9),by rw[QD,r2_];simp[hb9],by simp[r3_]⟩) h) ?_
        exact fun a w h=>⟨(v16,ys++([(⟨(nmE f L z4.1.1 x9).kind,(nmE f L z4.1.1 x9).text,(nmE f L z4.1.1 x9).number,x9.tagged⟩:Itm)]),tg+1),h.keep,h.x⟩
       ·
        try simp at hb9
        refine Zc (nx (tw pm2 ?_))
        refine tw pm3 ?_
        refine fun a w h=>YP (OB.var b (mkR d f M wv vs vt n kn y1 y2)::OB.var b11 [.lit (.int .i64 ((nmE f L z4.1.1 x9).kind)),Zb ((nmE f L z4.1.1 x9).text),.lit (.int .i64 ((nmE f L z4.1.1 x9).number)),.lit (.bool x9.tagged)]::OB.var b10 [.lit (.int .i64 (tg:Int))]::OB.mI M L::R') (γ:=Value) (fun ix'=>([.at b 0,.at b 0,.at b 0,.at b 12,.lit wv,.agg (itC (⟨(nmE f L z4.1.1 x9).kind,(nmE f L z4.1.1 x9).text,(nmE f L z4.1.1 x9).number,x9.tagged⟩:Itm)),.rd (XE ([(⟨(nmE f L z4.1.1 x9).kind,(nmE f L z4.1.1 x9).text,(nmE f L z4.1.1 x9).number,x9.tagged⟩:Itm)])),.any,.at b 0,.at b 12,.any]:List AV).getD ix' .any) (fun _=>true) [(9,fun(g:Value)=>.ptr [.lit (.int .i64 (f.hyps.length:Int))]),(10,fun(g:Value)=>.at b10 0),(6,fun(g:Value)=>.ptr [Zb z4.1.1]),(2,fun(g:Value)=>.ptr [.lit (.pointer (some ⟨b,0,none⟩))])] (fun(j':Nat) (g:Value)=>match j' with | 0=>(OB.row wv 128 4 (ys.map itC)::OB.var b (mkR d f M wv vs vt n kn y1 y2)::OB.var b11 [.lit (.int .i64 ((nmE f L z4.1.1 x9).kind)),Zb ((nmE f L z4.1.1 x9).text),.lit (.int .i64 ((nmE f L z4.1.1 x9).number)),.lit (.bool x9.tagged)]::OB.var b10 [.lit (.int .i64 (tg:Int))]::OB.mI M L::R') | 1=>(OB.row g 128 4 ((ys++([(⟨(nmE f L z4.1.1 x9).kind,(nmE f L z4.1.1 x9).text,(nmE f L z4.1.1 x9).number,x9.tagged⟩:Itm)])).map itC)::OB.var b (mkR d f M wv vs vt n kn y1 y2)::OB.var b11 [.lit (.int .i64 ((nmE f L z4.1.1 x9).kind)),Zb ((nmE f L z4.1.1 x9).text),.lit (.int .i64 ((nmE f L z4.1.1 x9).number)),.lit (.bool x9.tagged)]::OB.var b10 [.lit (.int .i64 (tg:Int))]::OB.mI M L::R') | _=>(OB.row g 128 4 ((ys++([(⟨(nmE f L z4.1.1 x9).kind,(nmE f L z4.1.1 x9).text,(nmE f L z4.1.1 x9).number,x9.tagged⟩:Itm)])).map itC)::OB.var b (mkR d f M g vs vt n kn y1 y2)::OB.var b11 [.lit (.int .i64 ((nmE f L z4.1.1 x9).kind)),Zb ((nmE f L z4.1.1 x9).text),.lit (.int .i64 ((nmE f L z4.1.1 x9).number)),.lit (.bool x9.tagged)]::OB.var b10 [.lit (.int .i64 (tg:Int))]::OB.mI M L::R')) (fun(k':Nat) (g:Value)=>match k' with | 0=>g | 1=>undef | _=>undef) [7,10] 1 (.slice none 0 0) (fun _=>rfl) h hJ Yl rfl rfl rfl rfl rfl rfl (fun j' g hj p hp=>by rcases j' with _ | _ | _ | j'<;>first | exact hp | exact List.mem_cons_of_mem _ hp | exact List.mem_cons_of_mem _ (List.mem_cons_of_mem _ hp) | (exfalso;omega)) ⟨?_,⟨?_,⟨?_,⟨?_,⟨?_,⟨?_,⟨?_,⟨?_,⟨?_,⟨?_,⟨?_,trivial⟩⟩⟩⟩⟩⟩⟩⟩⟩⟩⟩ ⟨?e30_8_0,⟨?e30_8_1,trivial⟩⟩ ⟨.old 1 9 _ rfl rfl,⟨.old 2 10 _ rfl rfl,⟨.old 3 6 _ rfl rfl,⟨.old 4 2 _ rfl rfl,trivial⟩⟩⟩⟩ ?n30_8
        exact oX rfl fun hx hl=>ZA ZQ rfl (hl.env 4 2 _ rfl rfl) hx
        exact oX rfl fun hx hl=>ZA ZQ rfl (hl.env 4 2 _ rfl rfl) hx
        exact oX rfl fun hx hl=>Zl rfl (hl.D 1 126 rfl rfl) hx
        exact oX rfl fun hx hl=>Zo ZG rfl (hl.D 2 127 rfl rfl) hx
        exact fun _ O' hO'=>⟨rfl,fun _ _ _ hx hl _=>Zn (cs:=(mkR d f M wv vs vt n kn y1 y2)) Qe rfl (Zd hx (hO' _ (mo 0 rfl))) (hl.D 3 128 rfl rfl) rfl hx⟩
        exact fun _ O' hO'=>⟨rfl,fun _ _ _ hx hl _=>Yo (cs:=[.lit (.int .i64 ((nmE f L z4.1.1 x9).kind)),Zb ((nmE f L z4.1.1 x9).text),.lit (.int .i64 ((nmE f L z4.1.1 x9).number)),.lit (.bool x9.tagged)]) (ds:=[.lit (.int .i64 ((nmE f L z4.1.1 x9).kind)),Zb ((nmE f L z4.1.1 x9).text),.lit (.int .i64 ((nmE f L z4.1.1 x9).number)),.lit (.bool x9.tagged)]) YJ rfl (Zd hx (hO' _ (mo 1 rfl))) (hl.env 0 12 _ rfl rfl) rfl rfl hx⟩
        exact oY rfl fun hk hx hl=>Xu Yf Qg rfl rfl (hl.D 5 130 rfl rfl) (Zq hS _ hk hx _ (Nat.le_refl _)) (jo hJ hx)
        exact Zm rfl
        exact oX rfl fun hx hl=>Zl rfl (hl.D 0 125 rfl rfl) hx
        exact oX rfl fun hx hl=>Zo ZG rfl (hl.D 8 133 rfl rfl) hx
        exact Zm rfl
        case e30_8_0=>exact⟨_,rfl,rfl,rfl,rfl,fun _ _ w hk hx hl _=>Zr (YS (f:=itC) ys ([(⟨(nmE f L z4.1.1 x9).kind,(nmE f L z4.1.1 x9).text,(nmE f L z4.1.1 x9).number,x9.tagged⟩:Itm)]) (fun _=>rfl) YU hJ hJ0 rfl hk hx (hl.D 4 129 rfl rfl).lit (hl.D 6 131 rfl rfl) sfz sfz) fun v w' hp=>⟨v,rfl,fun k' hk'=>absurd hk' (Nat.not_lt_zero _),fun _=>rfl,hp⟩⟩
        case e30_8_1=>exact⟨_,rfl,rfl,rfl,rfl,fun g _ w hk hx hl hs=>Zr (XU (off:=12) (cs:=(mkR d f M wv vs vt n kn y1 y2)) (es:=(mkR d f M g vs vt n kn y1 y2)) (c:=.lit g) hJ hJ0 Y1 rfl hk hx (hl.D 9 134 rfl rfl) (by rw[(hs 0 7 _ 132 (by omega) rfl rfl rfl)];exact Rel.of_lit _ (Xz (hx.2.1 _ (mo 0 rfl)))) (lb rfl) rfl) fun v w' hp=>⟨g,rfl,fun _ _=>rfl,fun e=>(by cases e),hp⟩⟩
        clear a w h
        intro v17
        dsimp only[List.map]
        refine kw pm2 ?_
        refine kw Zy ?_
        refine kw pm3 ?_
        refine kw pm1 ?_
        refine kw pm2 ?_
        refine kw pm3 ?_
        refine kw (fun h=>YN (p:=(YC f L z4.1.1 (pre++[x9]) 0=some (ys++([(⟨(nmE f L z4.1.1 x9).kind,(nmE f L z4.1.1 x9).text,(nmE f L z4.1.1 x9).number,x9.tagged⟩:Itm)])))∧(tg=tgN (pre++[x9]))∧((ys++([(⟨(nmE f L z4.1.1 x9).kind,(nmE f L z4.1.1 x9).text,(nmE f L z4.1.1 x9).number,x9.tagged⟩:Itm)])).length=(pre++[x9]).length)) (⟨XM r1_ (by rw[←r2_];exact e9),by rw[QD,r2_];simp[hb9],by simp[r3_]⟩) h) ?_
        exact fun a w h=>⟨(v17,ys++([(⟨(nmE f L z4.1.1 x9).kind,(nmE f L z4.1.1 x9).text,(nmE f L z4.1.1 x9).number,x9.tagged⟩:Itm)]),tg),h.keep,h.x⟩
      ·
       try simp at hb7
       refine ZN tb hJ [0,1,2,3,4,5,6,1008] [_,_,_,.int (z4.1.1.length:Nat),.int (f.hyps.length+z4.1.1.length:Nat),.int (tg:Nat),.int (f.hyps.length+z4.1.1.length+tg:Nat),_,_] [3,4,5,6] [_,_,_,_,_,_,_,_] rfl ⟨YK Zx,Yw,fun _ _ _ hx hl _=>Zn (cs:=[.lit (.int .i64 (tg:Int))]) Zbs rfl (Zd hx (mo 1 rfl)) (hl.env 3 10 _ rfl rfl) rfl hx,Yw,trivial⟩ ?_
       refine cj 7 (fun hb8=>?_) fun hb8=>?_
       ·
        try simp at hb8
        have e9:=item_4 (f:=f) (L:=L) (lb:=z4.1.1) (tg:=tg) hb5 (by omega) (by omega) (by omega)
        refine Zz (snK 1 tb rfl ?_)
        refine sq (.int (x9.number-(1:Int))) rfl rfl (lb rfl) (fun _ _ h=>ZdX (i:=x9.number) (j:=(1:Int)) rfl (h.get 0 rfl) (Rel.of_lit (Go.Value.int Go.IntKind.i64 1)) sfz sfz h.x) ?_
        refine snK 1 tb rfl ?_
        refine sq (.int (x9.number-(1:Int)-(f.hyps.length:Int))) rfl rfl (lb rfl) (fun _ _ h=>ZdX (i:=x9.number-(1:Int)) (j:=(f.hyps.length:Int)) rfl (h.get 1 rfl) (h.get 0 rfl) sfz sfz h.x) ?_
        refine snK 1 tb rfl ?_
        refine sq (.int (z4.1.1.length:Nat)) rfl rfl (lb rfl) (fun _ _ h=>ZbI Zx rfl (h.get 0 rfl) h.x) ?_
        refine sq (.int (x9.number-(1:Int)-(f.hyps.length:Int)-(z4.1.1.length:Int))) rfl rfl (lb rfl) (fun _ _ h=>ZdX (i:=x9.number-(1:Int)-(f.hyps.length:Int)) (j:=(z4.1.1.length:Int)) rfl (h.get 2 rfl) (h.get 0 rfl) sfz sfz h.x) ?_
        refine sq (.agg (itC (⟨(4:Int),[],x9.number-(1:Int)-(f.hyps.length:Int)-(z4.1.1.length:Int),false⟩:Itm))) rfl rfl (lb rfl) (fun a _ h=>Yt (ps:=[(0,a.eval (Go.Operand.const (Go.Value.int Go.IntKind.i64 4))),(2,a.eval (Go.Operand.tmp 116))]) (us:=[a.eval (Go.Operand.const (Go.Value.int Go.IntKind.i64 4)),.slice none 0 0,a.eval (Go.Operand.tmp 116),.bool false]) X5 rfl (by simp) (ZdR (lb rfl) rfl (ZdR (lb rfl) (Rel.oneC (h.get 0 rfl)) Zew)) rfl (Zj (Rel.of_lit (Go.Value.int Go.IntKind.i64 4)) (YD (.nil _ _ (Nat.zero_le _)) (Zj (h.get 0 rfl) (YD (.lit _ True.intro) ZI)))) h.x) ?_
        refine ZF (b:=b11) (off:=0) (cs:=[.lit (.int .i64 0),Zb ([]:List ByteArray),.lit (.int .i64 0),.lit (.bool false)]) (es:=[.lit (.int .i64 (4:Int)),Zb ([]:List ByteArray),.lit (.int .i64 (x9.number-(1:Int)-(f.hyps.length:Int)-(z4.1.1.length:Int))),.lit (.bool false)]) (news:=[.lit (.int .i64 (4:Int)),Zb ([]:List ByteArray),.lit (.int .i64 (x9.number-(1:Int)-(f.hyps.length:Int)-(z4.1.1.length:Int))),.lit (.bool false)]) hJ hJ0 Xg rfl rfl rfl (lb rfl) rfl (fun a w h=>⟨(h.get 8 rfl),(h.get 0 rfl)⟩) ?_
        refine seK [8,9,10,11,12,13] [_,_,_,_,_,_] rfl ?_
        refine nx (Zk (tsq ?_))
        refine snK 2 tb rfl ?_
        refine sq (.at b11 3) rfl rfl (lb rfl) (fun _ _ h=>Zo YR rfl (h.get 2 rfl) h.x) ?_
        refine ZE (b:=b11) (off:=3) (cs:=[.lit (.int .i64 (4:Int)),Zb ([]:List ByteArray),.lit (.int .i64 (x9.number-(1:Int)-(f.hyps.length:Int)-(z4.1.1.length:Int))),.lit (.bool false)]) (es:=[.lit (.int .i64 (4:Int)),Zb ([]:List ByteArray),.lit (.int .i64 (x9.number-(1:Int)-(f.hyps.length:Int)-(z4.1.1.length:Int))),.lit (.bool x9.tagged)]) hJ hJ0 Qi rfl rfl rfl (lb rfl) rfl (fun a w h=>⟨(h.get 0 rfl),(h.get 1 rfl)⟩) ?_
        refine seK [3,5,6,7,8] [_,_,_,_,_] rfl ?_
        refine nx (ZN tb hJ [0,1,2,3,4,1001] [.at b11 3,.bool x9.tagged] [0,1] [_,_,_,_,_,_] rfl ⟨fun _ _ _ hx hl _=>Zo YR rfl (hl.env 0 12 _ rfl rfl) hx,fun _ _ _ hx hl _=>Zn (cs:=[.lit (.int .i64 (4:Int)),Zb ([]:List ByteArray),.lit (.int .i64 (x9.number-(1:Int)-(f.hyps.length:Int)-(z4.1.1.length:Int))),.lit (.bool x9.tagged)]) Zf1 rfl (Zd hx (mo 0 rfl)) (hl.D 0 121 rfl rfl) rfl hx,trivial⟩ ?_)
        refine cj 5 (fun hb9=>?_) fun hb9=>?_
        ·
         try simp at hb9
         refine Zz (sq (.int (tg:Nat)) rfl rfl (lb rfl) (fun _ _ h=>Zn (cs:=[.lit (.int .i64 (tg:Int))]) Zbs rfl (Zd h.x (mo 1 rfl)) (h.get 2 rfl) rfl h.x) ?_)
         refine sq (.int (tg+1:Nat)) rfl rfl (lb rfl) (fun _ _ h=>ZeO (i:=(tg:Int)) (j:=(1:Int)) rfl (h.get 0 rfl) (Rel.of_lit (Go.Value.int Go.IntKind.i64 1)) sfz sfz h.x) ?_
         refine kw pm1 ?_
         refine ZE (b:=b10) (off:=0) (cs:=[.lit (.int .i64 (tg:Int))]) (es:=[.lit (.int .i64 ((tg+1:Nat):Int))]) hJ hJ0 QF rfl rfl rfl (lb rfl) rfl (fun a w h=>⟨(h.get 4 rfl),(h.get 0 rfl)⟩) ?_
         refine seK [2,3,4,5,6] [_,_,_,_,_] rfl ?_
         refine nx (tw pm2 ?_)
         refine tw pm3 ?_
         refine fun a w h=>YP (OB.var b (mkR d f M wv vs vt n kn y1 y2)::OB.var b10 [.lit (.int .i64 ((tg+1:Nat):Int))]::OB.var b11 [.lit (.int .i64 (4:Int)),Zb ([]:List ByteArray),.lit (.int .i64 (x9.number-(1:Int)-(f.hyps.length:Int)-(z4.1.1.length:Int))),.lit (.bool x9.tagged)]::OB.mI M L::R') (γ:=Value) (fun ix'=>([.at b 0,.at b 0,.at b 0,.at b 12,.lit wv,.agg (itC (⟨(4:Int),([]:List ByteArray),x9.number-(1:Int)-(f.hyps.length:Int)-(z4.1.1.length:Int),x9.tagged⟩:Itm)),.rd (XE ([(⟨(4:Int),([]:List ByteArray),x9.number-(1:Int)-(f.hyps.length:Int)-(z4.1.1.length:Int),x9.tagged⟩:Itm)])),.any,.at b 0,.at b 12,.any]:List AV).getD ix' .any) (fun _=>true) [(9,fun(g:Value)=>.ptr [.lit (.int .i64 (f.hyps.length:Int))]),(10,fun(g:Value)=>.at b10 0),(6,fun(g:Value)=>.ptr [Zb z4.1.1]),(2,fun(g:Value)=>.ptr [.lit (.pointer (some ⟨b,0,none⟩))])] (fun(j':Nat) (g:Value)=>match j' with | 0=>(OB.row wv 128 4 (ys.map itC)::OB.var b (mkR d f M wv vs vt n kn y1 y2)::OB.var b10 [.lit (.int .i64 ((tg+1:Nat):Int))]::OB.var b11 [.lit (.int .i64 (4:Int)),Zb ([]:List ByteArray),.lit (.int .i64 (x9.number-(1:Int)-(f.hyps.length:Int)-(z4.1.1.length:Int))),.lit (.bool x9.tagged)]::OB.mI M L::R') | 1=>(OB.row g 128 4 ((ys++([(⟨(4:Int),([]:List ByteArray),x9.number-(1:Int)-(f.hyps.length:Int)-(z4.1.1.length:Int),x9.tagged⟩:Itm)])).map itC)::OB.var b (mkR d f M wv vs vt n kn y1 y2)::OB.var b10 [.lit (.int .i64 ((tg+1:Nat):Int))]::OB.var b11 [.lit (.int .i64 (4:Int)),Zb ([]:List ByteArray),.lit (.int .i64 (x9.number-(1:Int)-(f.hyps.length:Int)-(z4.1.1.length:Int))),.lit (.bool x9.tagged)]::OB.mI M L::R') | _=>(OB.row g 128 4 ((ys++([(⟨(4:Int),([]:List ByteArray),x9.number-(1:Int)-(f.hyps.length:Int)-(z4.1.1.length:Int),x9.tagged⟩:Itm)])).map itC)::OB.var b (mkR d f M g vs vt n kn y1 y2)::OB.var b10 [.lit (.int .i64 ((tg+1:Nat):Int))]::OB.var b11 [.lit (.int .i64 (4:Int)),Zb ([]:List ByteArray),.lit (.int .i64 (x9.number-(1:Int)-(f.hyps.length:Int)-(z4.1.1.length:Int))),.lit (.bool x9.tagged)]::OB.mI M L::R')) (fun(k':Nat) (g:Value)=>match k' with | 0=>g | 1=>undef | _=>undef) [7,10] 1 (.slice none 0 0) (fun _=>rfl) h hJ Yl rfl rfl rfl rfl rfl rfl (fun j' g hj p hp=>by rcases j' with _ | _ | _ | j'<;>first | exact hp | exact List.mem_cons_of_mem _ hp | exact List.mem_cons_of_mem _ (List.mem_cons_of_mem _ hp) | (exfalso;omega)) ⟨?_,⟨?_,⟨?_,⟨?_,⟨?_,⟨?_,⟨?_,⟨?_,⟨?_,⟨?_,⟨?_,trivial⟩⟩⟩⟩⟩⟩⟩⟩⟩⟩⟩ ⟨?e30_9_0,⟨?e30_9_1,trivial⟩⟩ ⟨.old 1 9 _ rfl rfl,⟨.old 2 10 _ rfl rfl,⟨.old 3 6 _ rfl rfl,⟨.old 4 2 _ rfl rfl,trivial⟩⟩⟩⟩ ?n30_9
         exact oX rfl fun hx hl=>ZA ZQ rfl (hl.env 4 2 _ rfl rfl) hx
         exact oX rfl fun hx hl=>ZA ZQ rfl (hl.env 4 2 _ rfl rfl) hx
         exact oX rfl fun hx hl=>Zl rfl (hl.D 1 126 rfl rfl) hx
         exact oX rfl fun hx hl=>Zo ZG rfl (hl.D 2 127 rfl rfl) hx
         exact fun _ O' hO'=>⟨rfl,fun _ _ _ hx hl _=>Zn (cs:=(mkR d f M wv vs vt n kn y1 y2)) Qe rfl (Zd hx (hO' _ (mo 0 rfl))) (hl.D 3 128 rfl rfl) rfl hx⟩
         exact fun _ O' hO'=>⟨rfl,fun _ _ _ hx hl _=>Yo (cs:=[.lit (.int .i64 (4:Int)),Zb ([]:List ByteArray),.lit (.int .i64 (x9.number-(1:Int)-(f.hyps.length:Int)-(z4.1.1.length:Int))),.lit (.bool x9.tagged)]) (ds:=[.lit (.int .i64 (4:Int)),Zb ([]:List ByteArray),.lit (.int .i64 (x9.number-(1:Int)-(f.hyps.length:Int)-(z4.1.1.length:Int))),.lit (.bool x9.tagged)]) YJ rfl (Zd hx (hO' _ (mo 2 rfl))) (hl.env 0 12 _ rfl rfl) rfl rfl hx⟩
         exact oY rfl fun hk hx hl=>Xu Yf Qg rfl rfl (hl.D 5 130 rfl rfl) (Zq hS _ hk hx _ (Nat.le_refl _)) (jo hJ hx)
         exact Zm rfl
         exact oX rfl fun hx hl=>Zl rfl (hl.D 0 125 rfl rfl) hx
         exact oX rfl fun hx hl=>Zo ZG rfl (hl.D 8 133 rfl rfl) hx
         exact Zm rfl
         case e30_9_0=>exact⟨_,rfl,rfl,rfl,rfl,fun _ _ w hk hx hl _=>Zr (YS (f:=itC) ys ([(⟨(4:Int),([]:List ByteArray),x9.number-(1:Int)-(f.hyps.length:Int)-(z4.1.1.length:Int),x9.tagged⟩:Itm)]) (fun _=>rfl) YU hJ hJ0 rfl hk hx (hl.D 4 129 rfl rfl).lit (hl.D 6 131 rfl rfl) sfz sfz) fun v w' hp=>⟨v,rfl,fun k' hk'=>absurd hk' (Nat.not_lt_zero _),fun _=>rfl,hp⟩⟩
         case e30_9_1=>exact⟨_,rfl,rfl,rfl,rfl,fun g _ w hk hx hl hs=>Zr (XU (off:=12) (cs:=(mkR d f M wv vs vt n kn y1 y2)) (es:=(mkR d f M g vs vt n kn y1 y2)) (c:=.lit g) hJ hJ0 Y1 rfl hk hx (hl.D 9 134 rfl rfl) (by rw[(hs 0 7 _ 132 (by omega) rfl rfl rfl)];exact Rel.of_lit _ (Xz (hx.2.1 _ (mo 0 rfl)))) (lb rfl) rfl) fun v w' hp=>⟨g,rfl,fun _ _=>rfl,fun e=>(by cases e),hp⟩⟩
         clear a w h
         intro v18
         dsimp only[List.map]
         refine kw pm3 ?_
         refine kw Zy ?_
         refine kw pm3 ?_
         refine kw pm1 ?_
         refine kw pm2 ?_
         refine kw pm3 ?_
         refine kw (fun h=>YN (p:=(YC f L z4.1.1 (pre++[x9]) 0=some (ys++([(⟨(4:Int),([]:List ByteArray),x9.number-(1:Int)-(f.hyps.length:Int)-(z4.1.1.length:Int),x9.tagged⟩:Itm)])))∧((tg+1)=tgN (pre++[x9]))∧((ys++([(⟨(4:Int),([]:List ByteArray),x9.number-(1:Int)-(f.hyps.length:Int)-(z4.1.1.length:Int),x9.tagged⟩:Itm)])).length=(pre++[x9]).length)) (⟨XM r1_ (by rw[←r2_];exact e9),by rw[QD,r2_];simp[hb9],by simp[r3_]⟩) h) ?_
         exact fun a w h=>⟨(v18,ys++([(⟨(4:Int),([]:List ByteArray),x9.number-(1:Int)-(f.hyps.length:Int)-(z4.1.1.length:Int),x9.tagged⟩:Itm)]),tg+1),h.keep,h.x⟩
        ·
         try simp at hb9
         refine Zc (nx (tw pm2 ?_))
         refine tw pm3 ?_
         refine fun a w h=>YP (OB.var b (mkR d f M wv vs vt n kn y1 y2)::OB.var b11 [.lit (.int .i64 (4:Int)),Zb ([]:List ByteArray),.lit (.int .i64 (x9.number-(1:Int)-(f.hyps.length:Int)-(z4.1.1.length:Int))),.lit (.bool x9.tagged)]::OB.var b10 [.lit (.int .i64 (tg:Int))]::OB.mI M L::R') (γ:=Value) (fun ix'=>([.at b 0,.at b 0,.at b 0,.at b 12,.lit wv,.agg (itC (⟨(4:Int),([]:List ByteArray),x9.number-(1:Int)-(f.hyps.length:Int)-(z4.1.1.length:Int),x9.tagged⟩:Itm)),.rd (XE ([(⟨(4:Int),([]:List ByteArray),x9.number-(1:Int)-(f.hyps.length:Int)-(z4.1.1.length:Int),x9.tagged⟩:Itm)])),.any,.at b 0,.at b 12,.any]:List AV).getD ix' .any) (fun _=>true) [(9,fun(g:Value)=>.ptr [.lit (.int .i64 (f.hyps.length:Int))]),(10,fun(g:Value)=>.at b10 0),(6,fun(g:Value)=>.ptr [Zb z4.1.1]),(2,fun(g:Value)=>.ptr [.lit (.pointer (some ⟨b,0,none⟩))])] (fun(j':Nat) (g:Value)=>match j' with | 0=>(OB.row wv 128 4 (ys.map itC)::OB.var b (mkR d f M wv vs vt n kn y1 y2)::OB.var b11 [.lit (.int .i64 (4:Int)),Zb ([]:List ByteArray),.lit (.int .i64 (x9.number-(1:Int)-(f.hyps.length:Int)-(z4.1.1.length:Int))),.lit (.bool x9.tagged)]::OB.var b10 [.lit (.int .i64 (tg:Int))]::OB.mI M L::R') | 1=>(OB.row g 128 4 ((ys++([(⟨(4:Int),([]:List ByteArray),x9.number-(1:Int)-(f.hyps.length:Int)-(z4.1.1.length:Int),x9.tagged⟩:Itm)])).map itC)::OB.var b (mkR d f M wv vs vt n kn y1 y2)::OB.var b11 [.lit (.int .i64 (4:Int)),Zb ([]:List ByteArray),.lit (.int .i64 (x9.number-(1:Int)-(f.hyps.length:Int)-(z4.1.1.length:Int))),.lit (.bool x9.tagged)]::OB.var b10 [.lit (.int .i64 (tg:Int))]::OB.mI M L::R') | _=>(OB.row g 128 4 ((ys++([(⟨(4:Int),([]:List ByteArray),x9.number-(1:Int)-(f.hyps.length:Int)-(z4.1.1.length:Int),x9.tagged⟩:Itm)])).map itC)::OB.var b (mkR d f M g vs vt n kn y1 y2)::OB.var b11 [.lit (.int .i64 (4:Int)),Zb ([]:List ByteArray),.lit (.int .i64 (x9.number-(1:Int)-(f.hyps.length:Int)-(z4.1.1.length:Int))),.lit (.bool x9.tagged)]::OB.var b10 [.lit (.int .i64 (tg:Int))]::OB.mI M L::R')) (fun(k':Nat) (g:Value)=>match k' with | 0=>g | 1=>undef | _=>undef) [7,10] 1 (.slice none 0 0) (fun _=>rfl) h hJ Yl rfl rfl rfl rfl rfl rfl (fun j' g hj p hp=>by rcases j' with _ | _ | _ | j'<;>first | exact hp | exact List.mem_cons_of_mem _ hp | exact List.mem_cons_of_mem _ (List.mem_cons_of_mem _ hp) | (exfalso;omega)) ⟨?_,⟨?_,⟨?_,⟨?_,⟨?_,⟨?_,⟨?_,⟨?_,⟨?_,⟨?_,⟨?_,trivial⟩⟩⟩⟩⟩⟩⟩⟩⟩⟩⟩ ⟨?e30_10_0,⟨?e30_10_1,trivial⟩⟩ ⟨.old 1 9 _ rfl rfl,⟨.old 2 10 _ rfl rfl,⟨.old 3 6 _ rfl rfl,⟨.old 4 2 _ rfl rfl,trivial⟩⟩⟩⟩ ?n30_10
         exact oX rfl fun hx hl=>ZA ZQ rfl (hl.env 4 2 _ rfl rfl) hx
         exact oX rfl fun hx hl=>ZA ZQ rfl (hl.env 4 2 _ rfl rfl) hx
         exact oX rfl fun hx hl=>Zl rfl (hl.D 1 126 rfl rfl) hx
         exact oX rfl fun hx hl=>Zo ZG rfl (hl.D 2 127 rfl rfl) hx
         exact fun _ O' hO'=>⟨rfl,fun _ _ _ hx hl _=>Zn (cs:=(mkR d f M wv vs vt n kn y1 y2)) Qe rfl (Zd hx (hO' _ (mo 0 rfl))) (hl.D 3 128 rfl rfl) rfl hx⟩
         exact fun _ O' hO'=>⟨rfl,fun _ _ _ hx hl _=>Yo (cs:=[.lit (.int .i64 (4:Int)),Zb ([]:List ByteArray),.lit (.int .i64 (x9.number-(1:Int)-(f.hyps.length:Int)-(z4.1.1.length:Int))),.lit (.bool x9.tagged)]) (ds:=[.lit (.int .i64 (4:Int)),Zb ([]:List ByteArray),.lit (.int .i64 (x9.number-(1:Int)-(f.hyps.length:Int)-(z4.1.1.length:Int))),.lit (.bool x9.tagged)]) YJ rfl (Zd hx (hO' _ (mo 1 rfl))) (hl.env 0 12 _ rfl rfl) rfl rfl hx⟩
         exact oY rfl fun hk hx hl=>Xu Yf Qg rfl rfl (hl.D 5 130 rfl rfl) (Zq hS _ hk hx _ (Nat.le_refl _)) (jo hJ hx)
         exact Zm rfl
         exact oX rfl fun hx hl=>Zl rfl (hl.D 0 125 rfl rfl) hx
         exact oX rfl fun hx hl=>Zo ZG rfl (hl.D 8 133 rfl rfl) hx
         exact Zm rfl
         case e30_10_0=>exact⟨_,rfl,rfl,rfl,rfl,fun _ _ w hk hx hl _=>Zr (YS (f:=itC) ys ([(⟨(4:Int),([]:List ByteArray),x9.number-(1:Int)-(f.hyps.length:Int)-(z4.1.1.length:Int),x9.tagged⟩:Itm)]) (fun _=>rfl) YU hJ hJ0 rfl hk hx (hl.D 4 129 rfl rfl).lit (hl.D 6 131 rfl rfl) sfz sfz) fun v w' hp=>⟨v,rfl,fun k' hk'=>absurd hk' (Nat.not_lt_zero _),fun _=>rfl,hp⟩⟩
         case e30_10_1=>exact⟨_,rfl,rfl,rfl,rfl,fun g _ w hk hx hl hs=>Zr (XU (off:=12) (cs:=(mkR d f M wv vs vt n kn y1 y2)) (es:=(mkR d f M g vs vt n kn y1 y2)) (c:=.lit g) hJ hJ0 Y1 rfl hk hx (hl.D 9 134 rfl rfl) (by rw[(hs 0 7 _ 132 (by omega) rfl rfl rfl)];exact Rel.of_lit _ (Xz (hx.2.1 _ (mo 0 rfl)))) (lb rfl) rfl) fun v w' hp=>⟨g,rfl,fun _ _=>rfl,fun e=>(by cases e),hp⟩⟩
         clear a w h
         intro v19
         dsimp only[List.map]
         refine kw pm2 ?_
         refine kw Zy ?_
         refine kw pm3 ?_
         refine kw pm1 ?_
         refine kw pm2 ?_
         refine kw pm3 ?_
         refine kw (fun h=>YN (p:=(YC f L z4.1.1 (pre++[x9]) 0=some (ys++([(⟨(4:Int),([]:List ByteArray),x9.number-(1:Int)-(f.hyps.length:Int)-(z4.1.1.length:Int),x9.tagged⟩:Itm)])))∧(tg=tgN (pre++[x9]))∧((ys++([(⟨(4:Int),([]:List ByteArray),x9.number-(1:Int)-(f.hyps.length:Int)-(z4.1.1.length:Int),x9.tagged⟩:Itm)])).length=(pre++[x9]).length)) (⟨XM r1_ (by rw[←r2_];exact e9),by rw[QD,r2_];simp[hb9],by simp[r3_]⟩) h) ?_
         exact fun a w h=>⟨(v19,ys++([(⟨(4:Int),([]:List ByteArray),x9.number-(1:Int)-(f.hyps.length:Int)-(z4.1.1.length:Int),x9.tagged⟩:Itm)]),tg),h.keep,h.x⟩
       ·
        try simp at hb8
        refine Zz (Y7 (O:=[]) (R:=(OB.var b11 [.lit (.int .i64 0),Zb ([]:List ByteArray),.lit (.int .i64 0),.lit (.bool false)]::OB.var b10 [.lit (.int .i64 (tg:Int))]::OB.var b (mkR d f M wv vs vt n kn y1 y2)::OB.row wv 128 4 (ys.map itC)::OB.mI M L::R')) (XS hJ (c:=(21:Int)) ) YT rfl rfl rfl (lb rfl) hS hJ0 Zs (fun a w h=>(Za (Rel.of_lit (Go.Value.int Go.IntKind.i64 21)) Ze)) (fun _=>?_) (fun i=>i.elim))
        refine kw Zy ?_
        refine kw Zy ?_
        exact fun a w h=>⟨(⟨(21,wv,ys),Znu hb1 z4.2 hb4 (ZlN hpre r1_ (by rw[←r2_];exact Zrc hb5 (by omega) (by omega) (by omega)))⟩: {q:Int×Value×List Itm // YL f L t= .error q.1}),rfl,h.defs,h.keep,h.x⟩
   ·
    rintro hfl ⟨wv,ys,tg⟩ D
    refine kw pm1 ?_
    refine Zfy fun hF=>?_
    obtain⟨r1_,r2_,r3_⟩:=hF
    have h9:(Zv z4.1.2).2=false:=by cases h8:(Zv z4.1.2).2<;>simp_all
    refine nxAD (m:=5) ?_
    refine Zma ?_
    refine ZiA ?_
    refine snK 1 tb rfl ?_
    refine sq (.at b 0) rfl rfl (lb rfl) (fun _ _ h=>Zl rfl (h.get 0 rfl) h.x) ?_
    refine sq (.at b 12) rfl rfl (lb rfl) (fun _ _ h=>Zo ZG rfl (h.get 0 rfl) h.x) ?_
    refine sq (.lit wv) rfl rfl (lb rfl) (fun _ _ h=>Zn (cs:=(mkR d f M wv vs vt n kn y1 y2)) Qe rfl (Zd h.x (mo 2 rfl)) (h.get 0 rfl) rfl h.x) ?_
    refine sq (.int (ys.length:Nat)) rfl rfl (lb rfl) (fun _ _ h=>ZbG (by rw[List.length_map]) Zck rfl (Zd h.x (mo 3 rfl)) (h.get 0 rfl) h.x) ?_
    refine snK 1 tb rfl ?_
    refine seK [0] [_] rfl ?_
    refine nxD ?_
    refine d_cj 0 (fun hb10=>?_) fun hb10=>?_
    ·
     try simp at hb10
     refine ZiA ?_
     refine Y7 (O:=[]) (R:=(OB.dfr D::OB.var b10 [.lit (.int .i64 (tg:Int))]::OB.var b (mkR d f M wv vs vt n kn y1 y2)::OB.row wv 128 4 (ys.map itC)::OB.mI M L::R)) (XS hJ (c:=(10:Int)) ) YT rfl rfl rfl (lb rfl) hS hJ0 Zs (fun a w h=>(Za (Rel.of_lit (Go.Value.int Go.IntKind.i64 10)) Ze)) (fun _=>?_) (fun i=>i.elim)
     refine Zn2 hJ hJ0 ?_
     refine kw Zy ?_
     exact fun a w h=>pnP (⟨(10,wv,ys),ZkN hb1 z4.2 hb4 r1_ h9 (by omega)⟩: {q:Int×Value×List Itm // YL f L t= .error q.1}) rfl a w h
    ·
     try simp at hb10
     refine d_skip ?_
     refine outDn hJ hJ0 ?_
     refine kw Zy ?_
     exact fun a w h=>lvP (XC  ⟨(wv,ys),by first | (rw[f1_2,ZJ (by omega)];exact Zee hb1 (by omega)) | exact Zh2 (ys:=ys) hb1 z4.2 hb4 r1_ h9 (by omega)⟩ rfl h rfl)
   · exact fun s=>s.elim
   ·
    rintro v9 hfl ⟨wv,ys,tg⟩ D
    refine kw pm1 ?_
    refine Zfy fun hF=>?_
    obtain⟨r1_,r2_,r3_⟩:=hF
    obtain⟨h9,rfl⟩:(Zv z4.1.2).2=true∧flV 21=v9:=by cases h8:(Zv z4.1.2).2<;>simp_all
    refine Zn2 hJ hJ0 ?_
    refine kw Zy ?_
    exact fun a w h=>pnP (⟨(21,wv,ys),ZkO hb1 z4.2 hb4 r1_ h9⟩: {q:Int×Value×List Itm // YL f L t= .error q.1}) rfl a w h
   ·
    rintro q' D
    refine Zn2 hJ hJ0 ?_
    exact fun a w h=>pnP q' rfl a w h
theorem Zjr {J:World→Prop} (hJ:Stab J) (bm:Nat) (bt:Nat) (b:Nat) (d:Db) (f:Fr) (M:Nat) (L:List (ByteArray×Int)) (vi:Value) (vs:Value) (vt:Value) (n:Nat) (kn:Bool) (y1:Int) (y2:Int) (t:List ByteArray) (ht:∀ h∈f.hyps++f.dummies,h.text.length≤2000) (hh:f.hyps.length≤2000) (hn:t.length≤100000) (hs:Zaf t≤1000000000):FnP (ι:= {q':Value×List Itm // YL f L t= .ok q'.2}) (κ:= {q:Int×Value×List Itm // YL f L t= .error q.1}) Tryz.prog J 71 [] [.at bm 0,.at bt 0] [OB.var bm [.lit (.pointer (some ⟨b,0,none⟩))],OB.var bt [Zb t],OB.var b (mkR d f M vi vs vt n kn y1 y2),OB.row vi 128 4 (([]:List Itm).map itC),OB.mI M L] (fun _=>.tup []) (fun i'=>[OB.var bm [.lit (.pointer (some ⟨b,0,none⟩))],OB.var bt [Zb t],OB.var b (mkC d f [.lit (.map (some M)),.lit (i'.1.1),.lit vs,.lit vt,.lit (.int .i64 (n:Int)),.lit (.bool kn),.lit (.int .i64 y1),.lit (.int .i64 y2)]),OB.row i'.1.1 128 4 ((i'.1.2).map itC),OB.mI M L]) (fun k'=>flV k'.1.1) (fun k'=>[OB.var bm [.lit (.pointer (some ⟨b,0,none⟩))],OB.var bt [Zb t],OB.var b (mkC d f [.lit (.map (some M)),.lit (k'.1.2.1),.lit vs,.lit vt,.lit (.int .i64 (n:Int)),.lit (.bool kn),.lit (.int .i64 y1),.lit (.int .i64 y2)]),OB.row k'.1.2.1 128 4 ((k'.1.2.2).map itC),OB.mI M L]):=by
 refine Xw (N:=5) Tryz.func71 rfl rfl (lb rfl) fun S w0 R hS hJ0 hH=>?_
 refine Z8 (B:=St All (SO S (OB.var bm [.lit (.pointer (some ⟨b,0,none⟩))]::OB.var bt [Zb t]::OB.var b (mkR d f M vi vs vt n kn y1 y2)::OB.row vi 128 4 (([]:List Itm).map itC)::OB.mI M L::R)) w0 5 [(0,.at bm 0),(1,.at bt 0)] (XO J S w0.heap.size (OB.var bm [.lit (.pointer (some ⟨b,0,none⟩))]::OB.var bt [Zb t]::OB.var b (mkR d f M vi vs vt n kn y1 y2)::OB.row vi 128 4 (([]:List Itm).map itC)::OB.mI M L::R))) ?_ fun a w h=>h
 refine Zz (sq (.at b 0) rfl rfl (lb rfl) (fun _ _ h=>Zn (cs:=[.lit (.pointer (some ⟨b,0,none⟩))]) ZQ rfl (Zd h.x (mo 0 rfl)) (h.get 0 rfl) rfl h.x) ?_)
 refine sq (.rd (Zb t)) rfl rfl (lb rfl) (fun _ _ h=>Zn (cs:=[Zb t]) YX rfl (Zd h.x (mo 1 rfl)) (h.get 2 rfl) rfl h.x) ?_
 refine kw pm1 ?_
 refine kw pm1 ?_
 refine kw pm4 ?_
 refine kw pm4 ?_
 refine kw pm4 ?_
 refine Y7 (O:=[OB.var b (mkR d f M vi vs vt n kn y1 y2),OB.row vi 128 4 (([]:List Itm).map itC),OB.mI M L]) (R:=(OB.var bm [.lit (.pointer (some ⟨b,0,none⟩))]::OB.var bt [Zb t]::R)) (p_read hJ (b:=b) (d:=d) (f:=f) (M:=M) (L:=L) (vi:=vi) (vs:=vs) (vt:=vt) (n:=n) (kn:=kn) (y1:=y1) (y2:=y2) (t:=t) sfz sfz sfz sfz) ZrK rfl rfl rfl (lb rfl) hS hJ0 Zs (fun a w h=>(Za (h.get 1 rfl) (Za (h.get 0 rfl) Ze))) (fun k2=>?_) fun z1=>?_
 refine kw pm2 ?_
 refine kw pm2 ?_
 refine kw pm2 ?_
 refine kw pm4 ?_
 refine kw pm4 ?_
 exact fun a w h=>pnP (⟨(k2.1.1,k2.1.2.1,k2.1.2.2),k2.2⟩: {q:Int×Value×List Itm // YL f L t= .error q.1}) rfl a w h
 refine seK [1] [_] rfl ?_
 refine kw pm2 ?_
 refine kw pm2 ?_
 refine kw pm2 ?_
 refine kw pm4 ?_
 refine kw pm4 ?_
 exact fun a w h=>lvP (XC  ⟨(z1.1.1,z1.1.2),z1.2⟩ rfl h rfl)
abbrev GR (f:Fr) (L:List (ByteArray×Int)) (t:List ByteArray):Type:= {q:Int×Value×List Itm // (q.1=0∧YL f L t= .ok q.2.2)∨(q.1≠0∧YL f L t= .error q.1)}
theorem Znv {f:Fr} {L:List (ByteArray×Int)} {t:List ByteArray} {c:Int} (h:YL f L t= .error c):c≠0:=by
 unfold YL at h
 split at h
 · split at h
   · injection h with h;omega
   · cases h
 split at h
 · injection h with h;omega
 split at h
 · injection h with h;omega
 split at h
 · injection h with h;omega
 split at h
 · injection h with h;omega
 split at h
 · injection h with h;omega
 · cases h
theorem ZqM {J:World→Prop} (hJ:Stab J) (bm bt:Nat) (b:Nat) (d:Db) (f:Fr) (M:Nat) (L:List (ByteArray×Int)) (vi:Value) (vs:Value) (vt:Value) (n:Nat) (kn:Bool) (y1:Int) (y2:Int) (t:List ByteArray) (ht:∀ h∈f.hyps++f.dummies,h.text.length≤2000) (hh:f.hyps.length≤2000) (hn:t.length≤100000) (hs:Zaf t≤1000000000):
 FnM (ι:=(GR f L t)) Tryz.prog J 16 [] [.lit (.func (.func 71) #[] #[.pointer (some ⟨bm,0,none⟩),.pointer (some ⟨bt,0,none⟩)])] [OB.var bm [.lit (.pointer (some ⟨b,0,none⟩))],OB.var bt [Zb t],OB.var b (mkR d f M vi vs vt n kn y1 y2),OB.row vi 128 4 (([]:List Itm).map itC),OB.mI M L] (fun i'=>.int i'.1.1) (fun i'=>[OB.var bm [.lit (.pointer (some ⟨b,0,none⟩))],OB.var bt [Zb t],OB.var b (mkC d f [.lit (.map (some M)),.lit (i'.1.2.1),.lit vs,.lit vt,.lit (.int .i64 (n:Int)),.lit (.bool kn),.lit (.int .i64 y1),.lit (.int .i64 y2)]),OB.row i'.1.2.1 128 4 ((i'.1.2.2).map itC),OB.mI M L]):=by
 have h4:=Zdf (F:=71) (caps:=[.pointer (some ⟨bm,0,none⟩),.pointer (some ⟨bt,0,none⟩)]) (pc:=fun k: {q:Int×Value×List Itm // YL f L t= .error q.1}=>k.1.1) hJ (Zjr hJ bm bt b d f M L vi vs vt n kn y1 y2 t ht hh hn hs) (Zt Tryz.func71 rfl rfl) (by intro v hv;simp at hv;rcases hv with rfl | rfl<;>exact True.intro)
 refine(h4.map (ι':=(GR f L t)) (fun r=>match r with | .inl i=>⟨(0,i.1),.inl ⟨rfl,i.2⟩⟩ | .inr k=>⟨k.1,.inr ⟨Znv k.2,k.2⟩⟩) ?_ ?_)
 · rintro(i | k)<;>rfl
 · rintro(i | k)<;>rfl
def Zp1 (P:Program) (t:TypeId):Prop:=∀(x1 x2 x3 y1 y2 y3 y4 y5 y6 y7 y8:Value) (m:Nat),P.built t [(0,.agg #[x1,x2,x3]),(1,.agg #[y1,y2,y3,y4,y5,y6,y7,y8]),(2,.map (some m))]=
 some #[x1,x2,x3,y1,y2,y3,y4,y5,y6,y7,y8,.map (some m),.slice none 0 0,.slice none 0 0,.slice none 0 0,.int .i64 0,.bool false,.int .i64 0,.int .i64 0]
abbrev mzC (m:Nat):List CD:=[.lit (.map (some m)),.lit (.slice none 0 0),.lit (.slice none 0 0),.lit (.slice none 0 0),.lit (.int .i64 0),.lit (.bool false),.lit (.int .i64 0),.lit (.int .i64 0)]
theorem ZnF {P:Program} {n:Rn} {S:Nat→Prop} {X:World→Prop} {o:Oper} {a:Act} {w:World} {t:TypeId} {x y z:Operand} {d:Db} {f:Fr} {m:Nat} (ht:Zp1 P t) (hop:o.op= .build t #[(0,x),(1,y),(2,z)]) (h:Rel S w (.agg (dbC d)) (a.eval x)) (h2:Rel S w (.agg (frC f)) (a.eval y)) (hz:a.eval z= .map (some m)) (hx:X w):
 Z4 n P o a w (Yp S X (.agg (dbC d++(frC f++mzC m))) w):=by
 simp only[Rel]at h h2
 obtain⟨us,hv,hr⟩:=h
 obtain⟨vs,hw,hq⟩:=h2
 match us,hr,vs,hq with
 | [u1,u2,u3],hr,[y1,y2,y3,y4,y5,y6,y7,y8],hq=>
  refine Zu (v:=.agg (([u1,u2,u3]:List Value)++(([y1,y2,y3,y4,y5,y6,y7,y8]:List Value)++[Value.map (some m),.slice none 0 0,.slice none 0 0,.slice none 0 0,.int .i64 0,.bool false,.int .i64 0,.int .i64 0])).toArray) ?_ (by simp only[Rel];exact⟨_,rfl,hr.append (hq.append (ds:=mzC m) ⟨.lit _ True.intro,.lit _ True.intro,.lit _ True.intro,.lit _ True.intro,.lit _ True.intro,.lit _ True.intro,.lit _ True.intro,.lit _ True.intro,trivial⟩)⟩) hx
  have hrun:=run_build (P:=P) w t #[(0,a.eval x),(1,a.eval y),(2,a.eval z)] #[u1,u2,u3,y1,y2,y3,y4,y5,y6,y7,y8,.map (some m),.slice none 0 0,.slice none 0 0,.slice none 0 0,.int .i64 0,.bool false,.int .i64 0,.int .i64 0] (by rw[hv,hw,hz];exact ht u1 u2 u3 y1 y2 y3 y4 y5 y6 y7 y8 m)
  rw[execOp,hop]
  simp only[List.map_toArray,List.map_cons,List.map_nil,Sem.run_bind,hrun]
  rfl
theorem d_map {κ α:Type} [DecidableEq κ] {n:Rn} {P:Program} {J:World→Prop} {S:Nat→Prop} {O:List OB} {w0 w:World} {o:Oper} {a:Act} {t:TypeId} (Kd:Keyed κ) (f:α→AV) (hJ:Stab J) (hop:o.op= .makeMap t none) (hk0:Keeps All w0 w) (hx:XO J S w0.heap.size O w):
 Z4 n P o a w fun v w'=>∃ M:Nat,v= .map (some M)∧Zat J S w0 O w (OB.map Kd f M []::O) w':=by
 have hk:Keeps All w (w.alloc (.map #[] 0)):=(Keeps.refl _ _).alloc _
 refine ZP (v:=.map (some w.heap.size)) (w':=w.alloc (.map #[] 0)) ?_ ⟨w.heap.size,rfl,XP hJ hk0 hx hk (fun b hb=>Nat.le_of_eq hb.symm) ⟨hk0.size,[],IsMap.new w,trivial⟩⟩
 simp[execOp,hop,Instr.makeMap,newObj,Sem.run]
theorem perm_3 {a b c:OB} {l:List OB}:(a::b::c::l).Perm (c::a::b::l):=List.perm_middle (l₁:=[a,b]) (l₂:=l) (a:=c)
section
variable {n:Rn} {P:Program} {l:List Oper} {Q:Exit→Act→World→Prop}
variable {N:Nat} {J:World→Prop} {S:Nat→Prop} {O:List OB} {w0:World} {env:List (Nat×AV)} {avs:Nat→AV} {conds:Nat→Bool} {T:Array Value} {γ:Type}
def Zjg (D:Nat→Bool) (k:Nat):Nat→Bool:=fun j=>if j=k then true else D j
def EffR (n:Rn) (P:Program) (J:World→Prop) (S:Nat→Prop) (w0:World) (env:List (Nat×AV)) (l:List Oper) (avs:Nat→AV) (conds:Nat→Bool) (Stg:(Nat→Bool)→γ→List OB) (sv:Nat→γ→Value) (ch:List Nat) (k i:Nat):Prop:=
 ∃ o,l[i]?=some o∧o.guard=none∧conds i=true∧
  ∀ D g a w,D k=false→(∀ k' i',ch[k']?=some i'→Zau l l.length i i'=true→D k'=true)→(∀ k1 k2 i1 i2,ch[k1]?=some i1→ch[k2]?=some i2→D k1=true→Zau l l.length i1 i2=true→D k2=true)→
   Keeps All w0 w→XO J S w0.heap.size (Stg D g) w→Look (SO S (Stg D g)) w env l avs conds i a→(∀(k' i':Nat) (o':Oper) (d:Nat),D k'=true→ch[k']?=some i'→l[i']?=some o'→o'.dst=some d→a.eval (.tmp d)=sv k' g)→
   Z4 n P o a w fun v w'=>∃ g',(∀ k',D k'=true→sv k' g'=sv k' g)∧(o.dst.isSome=true→v=sv k g')∧Rel (SO S (Stg (Zjg D k) g')) w' (avs i) v∧Zat J S w0 (Stg D g) w (Stg (Zjg D k) g') w'
structure DInv (J:World→Prop) (S:Nat→Prop) (w0:World) (N:Nat) (env:List (Nat×AV)) (l:List Oper) (avs:Nat→AV) (conds:Nat→Bool) (T:Array Value) (Stg:(Nat→Bool)→γ→List OB) (sv:Nat→γ→Value) (ch:List Nat) (D:Nat→Bool) (g:γ) (b:Nat→Bool) (a:Act) (w:World):Prop where
 inv:RInv All (SO S (Stg D g)) (SO S (Stg D g)) w0 N env (XO J S w0.heap.size (Stg D g)) l avs conds T b a w
 done:∀(k i:Nat),ch[k]?=some i→b i=D k
 out:∀ k,ch.length≤k→D k=false
 slot:∀(k i:Nat) (o:Oper) (d:Nat),D k=true→ch[k]?=some i→l[i]?=some o→o.dst=some d→a.tmps.getD d undef=sv k g
theorem Znr (Or:List OB) {id:Nat} {draw:Bool} {a:Act} {w:World} (avs:Nat→AV) (conds:Nat→Bool) (env':List (Nat×(γ→AV))) (Stg:(Nat→Bool)→γ→List OB) (sv:Nat→γ→Value) (ch:List Nat) (g0:γ) (h0:∀ g,Stg (fun _=>false) g=O)
 (h:St All (SO S O) w0 N env (XO J S w0.heap.size O) a w) (hJ:Stab J) (hm:P.follows .mixedOrders=true) (hu:YQ l=true) (hN:Zao l N=true) (hback:Zbh l=true) (hnd:Zii ch=true)
 (hsub:∀ D g p,p∈Or→p∈Stg D g) (ob:Obs (ObP n P J S Or w0 env l avs conds ch) 0 l) (eff:Effs (EffR n P J S w0 env l avs conds Stg sv ch) 0 ch) (hf:FromGs env l avs conds sv ch env')
 (hq:∀ g a w,St All (SO S (Stg (fun k=>decide (k<ch.length)) g)) w0 N (env'.map fun p=>(p.1,p.2 g)) (XO J S w0.heap.size (Stg (fun k=>decide (k<ch.length)) g)) a w→Q .normal a w):(Code.region id l.toArray draw).wpIn n.F n.d P Q a w:=by
 have start:∀ w',Keeps All w w'→DInv J S w0 N env l avs conds a.tmps Stg sv ch (fun _=>false) g0 (fun _=>false) a w':=fun w' hk=>
  ⟨by
   rw[h0]
   exact⟨h.defs,h.size,h.keep.trans hk,Yq hJ _ _ hk h.x,fun _ _=>rfl,fun _ _ _ _ _ e _=>(by cases e),fun _ _ _ _ _ e _=>(by cases e),fun _ _ _ e=>(by cases e),fun _ h=>h,fun p hp=>⟨(h.env p hp).1,(h.env p hp).2.on hk⟩⟩,
   fun _ _ _=>rfl,fun _ _=>rfl,fun _ _ _ _ hk=>by cases hk⟩
 have hnodup:∀(k k' i:Nat),ch[k]?=some i→ch[k']?=some i→k=k':=fun k k' i h1 h2=>by
  have g1:=List.all_eq_true.1 hnd (i,k) (by rw[List.mem_zipIdx_iff_getElem?];simpa using h1)
  have g2:=List.all_eq_true.1 g1 (i,k') (by rw[List.mem_zipIdx_iff_getElem?];simpa using h2)
  simpa using g2
 refine ZeK (I:=fun b a' w'=>∃ D g,DInv J S w0 N env l avs conds a.tmps Stg sv ch D g b a' w') hm hback ?_ ?_ ⟨_,g0,start w (Keeps.refl _ _)⟩ ⟨_,g0,start _ (Keeps.refl _ _).drew⟩
 · rintro Q b a1 w1 i o rest hi hb hd ⟨D,g,hg⟩ hK
   by_cases hin:∃ k:Nat,ch[k]?=some i
   · obtain⟨k,hk⟩:=hin
     obtain⟨o',ho',hgd,hc,hob⟩:=eff.get k i hk
     rw[hi]at ho';cases ho'
     simp only[Nat.zero_add]at hob
     refine wpListIn_plain hgd fun K' hKr=>?_
     refine hob D g a1 w1 (by rw[←hg.done k i hk];exact hb) (fun k' i' hk' hun=>?_) (fun k1 k2 i1 i2 h1 h2 hD hun=>?_) hg.inv.keep hg.inv.x (hg.inv.look hi hb hd) (fun k' i' o' d hk' hi' hl' hd'=>hg.slot k' i' o' d hk' hi' hl' hd') K' Q fun u w2 ⟨g',e2,e3,e4,hs⟩=>?_
     · rw[←hg.done k' i' hk']
       exact XI hg.inv.closed _ i _ o hi hd hun
     · rw[←hg.done k2 i2 h2]
       rw[←hg.done k1 i1 h1]at hD
       cases hl:l[i1]? with
       | none=>
        have:∀ f,Zau l f i1 i2=false:=fun f=>by cases f<;>simp[Zau,hl]
        rw[this]at hun;cases hun
       | some p=>exact XI hg.inv.closed _ _ _ p hl (hg.inv.closed _ p hl hD) hun
     refine hKr _ _ (hK _ _ ⟨Zjg D k,g',hg.inv.step3 hu hN hi hd u hs.1 hs.2.2 hs.2.1 hc e4,fun k' i' hk'=>?_,fun k' hk'=>?_,fun k' i' o' d hk' hi' hl' hd'=>?_⟩)
     · by_cases e:i'=i
       · subst e
         have:=hnodup k' k i' hk' hk
         subst this
         simp[Z1,Zjg]
       · simp only[Z1,if_neg e]
         rw[hg.done k' i' hk']
         have:k'≠k:=fun e'=>by subst e';rw[hk]at hk';cases hk';exact e rfl
         simp[Zjg,this]
     · have hkl:k<ch.length:=(List.getElem?_eq_some_iff.1 hk).1
       have:k'≠k:=by omega
       simp[Zjg,this,hg.out k' hk']
     · by_cases e:k'=k
       · subst e
         rw[hk]at hi';cases hi'
         rw[hi]at hl';cases hl'
         rw[hd',Xl _ _ _ (by rw[hg.inv.size];exact Z2 hN hi hd')]
         exact e3 (by simp[hd'])
       · have hne:i'≠i:=fun e'=>e (by subst e';exact hnodup k' k i' hi' hk)
         have hk'':D k'=true:=by simpa [Zjg,e]using hk'
         rw[Yk _ _ _ _ (fun e'=>hne (Z3 hu hl' hi hd' e'))]
         rw[hg.slot k' i' o' d hk'' hi' hl' hd',e2 k' hk'']
   · have hnin:ch.contains i=false:=by
      simp only[List.contains_eq_mem,decide_eq_false_iff_not]
      intro hmem
      obtain⟨k,hk,he⟩:=List.getElem_of_mem hmem
      exact hin ⟨k,by rw[List.getElem?_eq_getElem hk,he]⟩
     have hobi:=ZaL l 0 ob i o hi
     rw[Nat.zero_add]at hobi
     refine hg.inv.does2 hu hN hi hb hd (hobi hnin _ (hsub D g)) fun a' w' h' hsl=>hK _ _ ⟨D,g,h',fun k' i' hk'=>?_,hg.out,fun k' i' o' d hk' hi' hl' hd'=>?_⟩
     · have:i'≠i:=fun e=>hin ⟨k',e▸hk'⟩
       simp only[Z1,if_neg this]
       exact hg.done k' i' hk'
     · have hne:i'≠i:=fun e=>hin ⟨k',e▸hi'⟩
       rw[hsl d (fun e'=>hne (Z3 hu hl' hi hd' e'))]
       exact hg.slot k' i' o' d hk' hi' hl' hd'
 · rintro a1 w1 ⟨D,g,hg⟩
   have hall:∀ k,k<ch.length→D k=true:=fun k hk=>by
    have hget:ch[k]?=some (ch[k]'hk):=List.getElem?_eq_getElem _
    obtain⟨o',ho',_⟩:=eff.get k _ hget
    have hb:=hg.done k _ hget
    have hlt2:ch[k]<l.length:=(List.getElem?_eq_some_iff.1 ho').1
    simpa [hlt2]using hb.symm
   have hD:D=fun k=>decide (k<ch.length):=by
    funext k
    by_cases hk:k<ch.length
    · rw[hall k hk];simp[hk]
    · rw[hg.out k (by omega)];simp[hk]
   subst hD
   refine hq g a1 w1 ⟨hg.inv.defs,hg.inv.size,hg.inv.keep,hg.inv.x,fun p hp=>?_⟩
   obtain⟨q,hq',rfl⟩:=List.mem_map.1 hp
   cases hf.mem q hq' with
   | old m s av he hn=>
    have h1:=hg.inv.env (s,av) (List.mem_of_getElem? he)
    refine⟨h1.1,?_⟩
    show Rel _ w1 av (a1.tmps.getD s undef)
    rw[hg.inv.old s fun i o hi ho=>by
     have:=List.all_eq_true.1 hn o (List.mem_of_getElem? hi)
     simp[ho]at this]
    exact h1.2
   | new i s av hs hc he=>
    cases hi:l[i]? with
    | none=>rw[hi]at hs;cases hs
    | some o=>
     rw[hi]at hs
     have hs':o.dst=some s:=hs
     have hlt:i<l.length:=(List.getElem?_eq_some_iff.1 hi).1
     refine⟨Z2 hN hi hs',?_⟩
     have hr:=hg.inv.new i o s hi hs' (by simpa using hlt) hc
     rw[he]at hr
     exact hr
   | eff k i s f hk hs hf ho=>
    cases hi:l[i]? with
    | none=>rw[hi]at hs;cases hs
    | some o=>
     rw[hi]at hs
     have hs':o.dst=some s:=hs
     refine⟨Z2 hN hi hs',?_⟩
     have hr:=hg.slot k i o s (by simpa using(List.getElem?_eq_some_iff.1 hk).1) hk hi hs'
     simp only
     rw[hr,hf]
     exact Rel.of_lit _ (ho g)
def EffD (n:Rn) (P:Program) (J:World→Prop) (S:Nat→Prop) (w0:World) (env:List (Nat×AV)) (l:List Oper) (avs:Nat→AV) (conds:Nat→Bool) (Stg:(Nat→Bool)→γ→List OB) (sv:Nat→γ→Value) (ch:List Nat) (k i:Nat):Prop:=
 ∃ o,l[i]?=some o∧o.guard=none∧avs i= .any∧conds i=true∧
  ∀ D g a w,D k=false→(∀ k' i',ch[k']?=some i'→Zau l l.length i i'=true→D k'=true)→(∀ k1 k2 i1 i2,ch[k1]?=some i1→ch[k2]?=some i2→D k1=true→Zau l l.length i1 i2=true→D k2=true)→
   Keeps All w0 w→XO J S w0.heap.size (Stg D g) w→Look (SO S (Stg D g)) w env l avs conds i a→(∀(k' i':Nat) (o':Oper) (d:Nat),D k'=true→ch[k']?=some i'→l[i']?=some o'→o'.dst=some d→a.eval (.tmp d)=sv k' g)→
   Z4 n P o a w fun v w'=>∃ g',(∀ k',D k'=true→sv k' g'=sv k' g)∧(o.dst.isSome=true→v=sv k g')∧Zat J S w0 (Stg D g) w (Stg (Zjg D k) g') w'
theorem ZpO {Stg:(Nat→Bool)→γ→List OB} {sv:Nat→γ→Value} {ch:List Nat}:∀ {k:Nat} {l':List Nat},Effs (EffD n P J S w0 env l avs conds Stg sv ch) k l'→Effs (EffR n P J S w0 env l avs conds Stg sv ch) k l'
 | _,[],_=>trivial
 | _,_::_,⟨⟨o,h1,h2,h3,h4,h5⟩,hr⟩=>⟨⟨o,h1,h2,h4,fun D g a w q1 q2 q3 q4 q5 q6 q7=>Zr (h5 D g a w q1 q2 q3 q4 q5 q6 q7) fun _ _ ⟨g',e1,e2,e3⟩=>⟨g',e1,e2,by rw[h3];simp only[Rel],e3⟩⟩,ZpO hr⟩
theorem Zns {id:Nat} {draw:Bool} {a:Act} {w:World} (avs:Nat→AV) (conds:Nat→Bool) (env':List (Nat×(γ→AV))) (Stg:(Nat→Bool)→γ→List OB) (sv:Nat→γ→Value) (ch:List Nat) (g0:γ) (h0:∀ g,Stg (fun _=>false) g=O)
 (h:St All (SO S O) w0 N env (XO J S w0.heap.size O) a w) (hJ:Stab J) (hm:P.follows .mixedOrders=true) (hu:YQ l=true) (hN:Zao l N=true) (hback:Zbh l=true) (hnd:Zii ch=true)
 (hsub:∀ D g p,p∈O→p∈Stg D g) (ob:Obs (ObP n P J S O w0 env l avs conds ch) 0 l) (eff:Effs (EffD n P J S w0 env l avs conds Stg sv ch) 0 ch) (hf:FromGs env l avs conds sv ch env')
 (hq:∀ g a w,St All (SO S (Stg (fun k=>decide (k<ch.length)) g)) w0 N (env'.map fun p=>(p.1,p.2 g)) (XO J S w0.heap.size (Stg (fun k=>decide (k<ch.length)) g)) a w→Q .normal a w):(Code.region id l.toArray draw).wpIn n.F n.d P Q a w:=
 Znr O avs conds env' Stg sv ch g0 h0 h hJ hm hu hN hback hnd hsub ob (ZpO eff) hf hq
end
theorem Zj3:Zp1 Tryz.prog 106:=fun x1 x2 x3 y1 y2 y3 y4 y5 y6 y7 y8 m=>by kernel_rfl
theorem Zk8 {J:World→Prop} (hJ:Stab J) (d:Db) (n:Nat) (t:List ByteArray) (hn:n<d.frames.length) (hfl:d.frames.length≤400) (ht:∀ h∈(ge d.frames n).hyps++(ge d.frames n).dummies,h.text.length≤2000) (hh:(ge d.frames n).hyps.length≤2000) (hl:t.length≤100000) (hs:Zaf t≤1000000000):FnM (ι:=Nat×Value×Value×Value) Tryz.prog J 49 [] [.agg (dbC d),.int (n:Nat),.rd (Zb t)] [] (fun i'=>.at (i'.1) 0) (fun i'=>[OB.var (i'.1) (mkC d (ge d.frames n) [.lit (i'.2.1),XE (Q0 d n t),.lit (i'.2.2.1),.lit (i'.2.2.2),.lit (.int .i64 (((Zax d n t).n:Nat):Int)),.lit (.bool ((Zax d n t).kn)),.lit (.int .i64 ((Zax d n t).v.1)),.lit (.int .i64 ((Zax d n t).v.2))]),OB.row i'.2.2.1 22 1 (((Zax d n t).sk).map Zh),OB.row i'.2.2.2 22 1 (((Zax d n t).tg).map Zh)]):=by
 refine Ya (N:=49) Tryz.func49 rfl rfl (lb rfl) fun S w0 R hS hJ0 hH=>?_
 refine Z8 (B:=St All (SO S (R)) w0 49 [(0,.agg (dbC d)),(1,.int (n:Nat)),(2,.rd (Zb t))] (XO J S w0.heap.size (R))) ?_ fun a w h=>h
 refine ln 2 fun hl1=>?_
 obtain⟨ui,hui⟩:∃ v,v=Value.slice none 0 0:=⟨_,rfl⟩
 obtain⟨us,hus⟩:∃ v,v=Value.slice none 0 0:=⟨_,rfl⟩
 obtain⟨ut,hut⟩:∃ v,v=Value.slice none 0 0:=⟨_,rfl⟩
 refine tsq ?_
 refine sq (.ptr (dbC d)) rfl rfl (lb rfl) (fun _ _ h=>Xb rfl (h.get 0 rfl) (Zq hS _ h.keep h.x _ (Nat.le_refl _)) (jo hJ h.x)) ?_
 refine ZeF (c:=Zb t) hJ rfl rfl rfl (lb rfl) (fun a w h=>(h.get 3 rfl)) fun b1=>?_
 refine snK 1 tb rfl ?_
 refine seK [1,2,4] [_,_,_] rfl ?_
 refine nx (Zk (fun a w h=>Zns (γ:=Nat×Value×Nat×Nat) (fun ix'=>([.agg (dbC d),.ptr [Zgm d.frames],.rd (Zgm d.frames),.int (n:Nat),.ptr (frC (ge d.frames n)),.agg (frC (ge d.frames n)),.any,.any,.any,.any,.any]:List AV).getD ix' .any) (fun _=>true) [(5,fun(g:Nat×Value×Nat×Nat)=>.at b1 0),(3,fun(g:Nat×Value×Nat×Nat)=>.ptr (dbC d)),(1,fun(g:Nat×Value×Nat×Nat)=>.int (n:Nat)),(7,fun(g:Nat×Value×Nat×Nat)=>.at g.2.2.2 0)] (fun(D:Nat→Bool) (g:Nat×Value×Nat×Nat)=>(if D 2 then [OB.var g.2.2.1 (mkC d (ge d.frames n) [.lit (.map (some g.1)),.lit (.slice none 0 0),.lit (.slice none 0 0),.lit (.slice none 0 0),.lit (.int .i64 (0:Int)),.lit (.bool false),.lit (.int .i64 (0:Int)),.lit (.int .i64 (0:Int))])]else if D 1 then [Zp6 (mkC d (ge d.frames n) [.lit (.map (some g.1)),.lit (.slice none 0 0),.lit (.slice none 0 0),.lit (.slice none 0 0),.lit (.int .i64 (0:Int)),.lit (.bool false),.lit (.int .i64 (0:Int)),.lit (.int .i64 (0:Int))]) g.2.1]else [])++((if D 0 then [OB.mI g.1 []]else [])++((if D 4 then [OB.var g.2.2.2 [.lit (.pointer (some ⟨g.2.2.1,0,none⟩))]]else if D 3 then [OB.var g.2.2.2 [.lit (.pointer none)]]else [])++(OB.var b1 [Zb t]::R)))) (fun(k':Nat) (g:Nat×Value×Nat×Nat)=>match k' with | 0=>.map (some g.1) | 1=>g.2.1 | 2=>.pointer (some ⟨g.2.2.1,0,none⟩) | 3=>.pointer (some ⟨g.2.2.2,0,none⟩) | _=>undef) [6,7,8,9,10] (0,undef,0,0) (fun _=>rfl) h hJ Yl rfl rfl rfl rfl (fun D g p hp=>List.mem_append_right _ (List.mem_append_right _ (List.mem_append_right _ hp))) ⟨?o0,⟨?o1,⟨?o2,⟨?o3,⟨?o4,⟨?o5,⟨?o6,⟨?o7,⟨?o8,⟨?o9,⟨?o10,trivial⟩⟩⟩⟩⟩⟩⟩⟩⟩⟩⟩ ⟨?e0,⟨?e1,⟨?e2,⟨?e3,⟨?e4,trivial⟩⟩⟩⟩⟩ ⟨.old 0 5 _ rfl rfl,⟨.old 1 3 _ rfl rfl,⟨.old 2 1 _ rfl rfl,⟨.eff 3 9 7 (fun(g:Nat×Value×Nat×Nat)=>.pointer (some ⟨g.2.2.2,0,none⟩)) rfl rfl (fun _=>rfl) (fun _=>True.intro),trivial⟩⟩⟩⟩ ?n1))
 exact oX rfl fun hx hl=>Zbp Zfn rfl (hl.env 1 3 _ rfl rfl) (Nat.le_refl _) hx
 exact oX rfl fun hx hl=>ZX Za9 rfl (hl.env 1 3 _ rfl rfl) hx
 exact oX rfl fun hx hl=>ZA Zih rfl (hl.D 1 11 rfl rfl) hx
 exact oX rfl fun hx hl=>YA rfl (hl.env 2 1 _ rfl rfl) hx
 exact oX rfl fun hx hl=>Yg (i:=(n:Int)) Xf rfl (hl.D 2 12 rfl rfl) (hl.D 3 13 rfl rfl) (Int.natCast_nonneg _) (Yu (xs:=d.frames) (k:=n) sfz) rfl hx
 exact oX rfl fun hx hl=>Zbp ZiS rfl (hl.D 4 14 rfl rfl) (Nat.le_refl _) hx
 exact Zm rfl
 exact Zm rfl
 exact Zm rfl
 exact Zm rfl
 exact Zm rfl
 case e0=>
  refine⟨_,rfl,rfl,rfl,rfl,fun D g a w hD hpre hcl hk hx hl hs=>?_⟩
  have d0:=hD
  have d1:D 1=false:=by cases hq:D 1 with | false=>rfl | true=>exact absurd (hcl 1 0 7 6 rfl rfl hq (by decide)) (by simp[d0])
  have d2:D 2=false:=by cases hq:D 2 with | false=>rfl | true=>exact absurd (hcl 2 1 8 7 rfl rfl hq (by decide)) (by simp[d1])
  have d4:D 4=false:=by cases hq:D 4 with | false=>rfl | true=>exact absurd (hcl 4 2 10 8 rfl rfl hq (by decide)) (by simp[d2])
  simp only[Zjg,d0,d1,d2,d4,if_true,if_false,Bool.false_eq_true,List.nil_append,Nat.reduceEqDiff,List.cons_append]at hx hl ⊢
  exact Zr (d_map keyS (fun z':Int=>AV.int z') hJ rfl hk hx) fun v w' ⟨M',hv,hp⟩=>⟨(M',g.2),(fun k' hk'=>by rcases k' with _ | _ | _ | _ | k'<;>first | rfl | simp_all),fun _=>hv,hp⟩
 case e1=>
  refine⟨_,rfl,rfl,rfl,rfl,fun D g a w hD hpre hcl hk hx hl hs=>?_⟩
  have d1:=hD
  have d0:D 0=true:=hpre 0 6 rfl (by decide)
  have d2:D 2=false:=by cases hq:D 2 with | false=>rfl | true=>exact absurd (hcl 2 1 8 7 rfl rfl hq (by decide)) (by simp[d1])
  have d4:D 4=false:=by cases hq:D 4 with | false=>rfl | true=>exact absurd (hcl 4 2 10 8 rfl rfl hq (by decide)) (by simp[d2])
  simp only[Zjg,d0,d1,d2,d4,if_true,if_false,Bool.false_eq_true,List.nil_append,Nat.reduceEqDiff,List.cons_append]at hx hl ⊢
  exact Zr (Zoz (cs:=(mkC d (ge d.frames n) [.lit (.map (some g.1)),.lit (.slice none 0 0),.lit (.slice none 0 0),.lit (.slice none 0 0),.lit (.int .i64 (0:Int)),.lit (.bool false),.lit (.int .i64 (0:Int)),.lit (.int .i64 (0:Int))])) hk (ZnF (d:=d) (f:=(ge d.frames n)) (m:=g.1) Zj3 rfl (hl.D 0 10 rfl rfl) (hl.D 5 15 rfl rfl) (hs 0 6 _ 16 d0 rfl rfl rfl) hx)) fun v w' hp=>⟨(g.1,v,g.2.2),(fun k' hk'=>by rcases k' with _ | _ | _ | _ | k'<;>first | rfl | simp_all),fun _=>rfl,hp⟩
 case e2=>
  refine⟨_,rfl,rfl,rfl,rfl,fun D g a w hD hpre hcl hk hx hl hs=>?_⟩
  have d2:=hD
  have d1:D 1=true:=hpre 1 7 rfl (by decide)
  have d0:D 0=true:=hpre 0 6 rfl (by decide)
  have d4:D 4=false:=by cases hq:D 4 with | false=>rfl | true=>exact absurd (hcl 4 2 10 8 rfl rfl hq (by decide)) (by simp[d2])
  simp only[Zjg,d0,d1,d2,d4,if_true,if_false,Bool.false_eq_true,List.nil_append,Nat.reduceEqDiff,List.cons_append]at hx hl ⊢
  exact Zr (d_boxW (cs:=(mkC d (ge d.frames n) [.lit (.map (some g.1)),.lit (.slice none 0 0),.lit (.slice none 0 0),.lit (.slice none 0 0),.lit (.int .i64 (0:Int)),.lit (.bool false),.lit (.int .i64 (0:Int)),.lit (.int .i64 (0:Int))])) hJ rfl (hs 1 7 _ 17 d1 rfl rfl rfl) hk hx) fun v w' ⟨b',hv,hp⟩=>⟨(g.1,g.2.1,b',g.2.2.2),(fun k' hk'=>by rcases k' with _ | _ | _ | _ | k'<;>first | rfl | simp_all),fun _=>hv,hp⟩
 case e3=>
  refine⟨_,rfl,rfl,rfl,rfl,fun D g a w hD hpre hcl hk hx hl hs=>?_⟩
  have d3:=hD
  have d4:D 4=false:=by cases hq:D 4 with | false=>rfl | true=>exact absurd (hcl 4 3 10 9 rfl rfl hq (by decide)) (by simp[d3])
  simp only[Zjg,d3,d4,if_true,if_false,Bool.false_eq_true,List.nil_append,Nat.reduceEqDiff,List.cons_append]at hx hl ⊢
  simp only[←List.append_assoc]at hx ⊢
  exact Zr (Zbw Zi0 hJ rfl hk hx) fun v w' ⟨b',hv,hp⟩=>⟨(g.1,g.2.1,g.2.2.1,b'),(fun k' hk'=>by rcases k' with _ | _ | _ | _ | k'<;>first | rfl | simp_all),fun _=>hv,Zc7 (.refl _) perm_mid.symm hp⟩
 case e4=>
  refine⟨_,rfl,rfl,rfl,rfl,fun D g a w hD hpre hcl hk hx hl hs=>?_⟩
  have d4:=hD
  have d3:D 3=true:=hpre 3 9 rfl (by decide)
  have d2:D 2=true:=hpre 2 8 rfl (by decide)
  have d1:D 1=true:=hpre 1 7 rfl (by decide)
  have d0:D 0=true:=hpre 0 6 rfl (by decide)
  simp only[Zjg,d0,d1,d2,d3,d4,if_true,if_false,Bool.false_eq_true,List.nil_append,Nat.reduceEqDiff,List.cons_append]at hx hl ⊢
  refine Zr (Xn (S':=S) (off:=0) (cs:=[.lit (.pointer none)]) (news:=[.lit (.pointer (some ⟨g.2.2.1,0,none⟩))]) (es:=[.lit (.pointer (some ⟨g.2.2.1,0,none⟩))]) (us:=[.pointer (some ⟨g.2.2.1,0,none⟩)]) hJ hJ0 Zjf rfl hk (Ym perm_3 hx) (Zdc (hs 3 9 _ 7 d3 rfl rfl rfl)) (by rw[hs 2 8 _ 18 d2 rfl rfl rfl];rfl) ⟨.lit _ True.intro,trivial⟩ (lb rfl) rfl) fun v w' hp=>⟨g,fun _ _=>rfl,fun e=>(by cases e),Zc7 perm_3.symm perm_3.symm hp⟩
 clear a w h
 rintro⟨m3,x5,b2,b4⟩
 dsimp only[List.map]
 refine kw (ob0 (show OB.var b2 (mkC d (ge d.frames n) [.lit (.map (some m3)),.lit (.slice none 0 0),.lit (.slice none 0 0),.lit (.slice none 0 0),.lit (.int .i64 (0:Int)),.lit (.bool false),.lit (.int .i64 (0:Int)),.lit (.int .i64 (0:Int))])=OB.var b2 (mkC d (ge d.frames n) [.lit (.map (some m3)),.lit ui,.lit us,.lit ut,.lit (.int .i64 (0:Int)),.lit (.bool false),.lit (.int .i64 (0:Int)),.lit (.int .i64 (0:Int))])from by rw[hui,hus,hut])) ?_
 refine kw (Yy 128 4 hJ) ?_
 refine kw (ob0 (show OB.row (.slice none 0 0) 128 4 []=OB.row ui 128 4 (([]:List Itm).map itC)from by rw[hui];rfl)) ?_
 refine kw (Yy 22 1 hJ) ?_
 refine kw (ob0 (show OB.row (.slice none 0 0) 22 1 []=OB.row us 22 1 (([]:List (List ByteArray)).map Zh)from by rw[hus];rfl)) ?_
 refine kw (Yy 22 1 hJ) ?_
 refine kw (ob0 (show OB.row (.slice none 0 0) 22 1 []=OB.row ut 22 1 (([]:List (List ByteArray)).map Zh)from by rw[hut];rfl)) ?_
 refine nx (Zk (qso tb hJ [0,1,3,1000,1001] [_,_] [_,_,_,_,_] ?_))
 refine Zf (lpo (ι:=Nat×(List (ByteArray×Int))) (fun(k,L)=>(k≤n)∧(L=Zbf (d.frames.take k))) (fun(_,L)=>(OB.row ut 22 1 (([]:List (List ByteArray)).map Zh)::OB.row us 22 1 (([]:List (List ByteArray)).map Zh)::OB.row ui 128 4 (([]:List Itm).map itC)::OB.var b2 (mkC d (ge d.frames n) [.lit (.map (some m3)),.lit ui,.lit us,.lit ut,.lit (.int .i64 (0:Int)),.lit (.bool false),.lit (.int .i64 (0:Int)),.lit (.int .i64 (0:Int))])::OB.mI m3 L::OB.var b4 [.lit (.pointer (some ⟨b2,0,none⟩))]::OB.var b1 [Zb t]::R)) (fun(k,_)=>[(20,.int (k:Nat))]) (fun(k,_)=>n-k) [0,1,2,3,4] [_,_,_,_] (0,([]:List (ByteArray×Int))) ⟨Nat.zero_le _,namL_nil.symm⟩ ?_)
 rintro⟨k,L⟩ ⟨f1_1,f1_2⟩
 refine qso tb hJ [0,1,2,3,4,1000] [_] [_,_,_,_,_,_] ?_
 refine cjS 5 (fun hb1=>?_) fun hb1=>?_
 ·
  try simp at hb1
  refine Zc (nx (Zk (Zf (qso tb hJ [0,1,2,3,4,1001] [_,_] [_,_,_,_,_,_] ?_))))
  refine tw pm4 ?_
  refine fun a w h=>YG (γ:=Unit) (fun ix'=>([.at b2 0,.at b2 0,.at b2 11,.lit (.map (some m3)),.ptr [Zgm d.frames],.rd (Zgm d.frames),.int (k:Nat),.ptr (frC (ge d.frames k)),.ptr (frC (ge d.frames k)),.str ((ge d.frames k).label),.int (k:Nat),.any]:List AV).getD ix' .any) (fun _=>true) [(5,fun(g:Unit)=>.at b1 0),(3,fun(g:Unit)=>.ptr (dbC d)),(7,fun(g:Unit)=>.at b4 0),(19,fun(g:Unit)=>.int (n:Nat)),(20,fun(g:Unit)=>.int (k:Nat))] (fun(j':Nat) (g:Unit)=>match j' with | 0=>(OB.mI m3 L::OB.row ut 22 1 (([]:List (List ByteArray)).map Zh)::OB.row us 22 1 (([]:List (List ByteArray)).map Zh)::OB.row ui 128 4 (([]:List Itm).map itC)::OB.var b2 (mkC d (ge d.frames n) [.lit (.map (some m3)),.lit ui,.lit us,.lit ut,.lit (.int .i64 (0:Int)),.lit (.bool false),.lit (.int .i64 (0:Int)),.lit (.int .i64 (0:Int))])::OB.var b4 [.lit (.pointer (some ⟨b2,0,none⟩))]::OB.var b1 [Zb t]::R) | _=>(OB.mI m3 (QY L ((ge d.frames k).label) (k:Int))::OB.row ut 22 1 (([]:List (List ByteArray)).map Zh)::OB.row us 22 1 (([]:List (List ByteArray)).map Zh)::OB.row ui 128 4 (([]:List Itm).map itC)::OB.var b2 (mkC d (ge d.frames n) [.lit (.map (some m3)),.lit ui,.lit us,.lit ut,.lit (.int .i64 (0:Int)),.lit (.bool false),.lit (.int .i64 (0:Int)),.lit (.int .i64 (0:Int))])::OB.var b4 [.lit (.pointer (some ⟨b2,0,none⟩))]::OB.var b1 [Zb t]::R)) (fun(k':Nat) (g:Unit)=>match k' with | 0=>undef | _=>undef) [11] 0 () (fun _=>rfl) h hJ Yl rfl rfl rfl rfl rfl rfl (fun j' g hj p hp=>by rcases j' with _ | _ | _ | j'<;>first | exact hp | exact List.mem_cons_of_mem _ hp | exact List.mem_cons_of_mem _ (List.mem_cons_of_mem _ hp) | (exfalso;omega)) ⟨?_,⟨?_,⟨?_,⟨?_,⟨?_,⟨?_,⟨?_,⟨?_,⟨?_,⟨?_,⟨?_,⟨?_,trivial⟩⟩⟩⟩⟩⟩⟩⟩⟩⟩⟩⟩ ⟨?e5_1_0,trivial⟩ ⟨.old 0 5 _ rfl rfl,⟨.old 1 3 _ rfl rfl,⟨.old 2 7 _ rfl rfl,⟨.old 3 19 _ rfl rfl,⟨.old 4 20 _ rfl rfl,trivial⟩⟩⟩⟩⟩ ?n5_1
  exact fun _ O' hO'=>⟨rfl,fun _ _ _ hx hl _=>Zn (cs:=[.lit (.pointer (some ⟨b2,0,none⟩))]) ZQ rfl (Zd hx (hO' _ (mo 5 rfl))) (hl.env 2 7 _ rfl rfl) rfl hx⟩
  exact oX rfl fun hx hl=>Zl rfl (hl.D 0 23 rfl rfl) hx
  exact oX rfl fun hx hl=>Zo Zcx rfl (hl.D 1 24 rfl rfl) hx
  exact fun _ O' hO'=>⟨rfl,fun _ _ _ hx hl _=>Zn (cs:=(mkC d (ge d.frames n) [.lit (.map (some m3)),.lit ui,.lit us,.lit ut,.lit (.int .i64 (0:Int)),.lit (.bool false),.lit (.int .i64 (0:Int)),.lit (.int .i64 (0:Int))])) Zlo rfl (Zd hx (hO' _ (mo 4 rfl))) (hl.D 2 25 rfl rfl) rfl hx⟩
  exact oX rfl fun hx hl=>ZX Za9 rfl (hl.env 1 3 _ rfl rfl) hx
  exact oX rfl fun hx hl=>ZA Zih rfl (hl.D 4 27 rfl rfl) hx
  exact oX rfl fun hx hl=>YA rfl (hl.env 5 8 _ rfl rfl) hx
  exact oX rfl fun hx hl=>Yg (i:=(k:Int)) Xf rfl (hl.D 5 28 rfl rfl) (hl.D 6 29 rfl rfl) (Int.natCast_nonneg _) (Yu (xs:=d.frames) (k:=k) sfz) rfl hx
  exact oX rfl fun hx hl=>ZX Zcf rfl (hl.D 7 30 rfl rfl) hx
  exact oX rfl fun hx hl=>ZA QX rfl (hl.D 8 31 rfl rfl) hx
  exact oX rfl fun hx hl=>YA rfl (hl.env 5 8 _ rfl rfl) hx
  exact Zm rfl
  case e5_1_0=>exact⟨_,rfl,rfl,rfl,rfl,fun g _ w hk hx hl _=>Zr (Zmc (f:=(fun z':Int=>AV.int z')) Zcs hJ hJ0 ((ge d.frames k).label) (k:Int) (.inl rfl) hk hx (hl.D 3 26 rfl rfl) (hl.D 9 32 rfl rfl) (hl.D 10 33 rfl rfl)) fun v w' ⟨_,hp⟩=>⟨g,rfl,fun _ _=>rfl,fun e=>(by cases e),hp⟩⟩
  clear a w h
  intro _
  dsimp only[List.map]
  refine nx (Y3 tb hJ [0,1,2,3,1001] [.int (k+1:Nat),_] [0] [_,_,_,_,_] rfl ⟨Yw,trivial⟩ ?_)
  refine kw pm6 ?_
  refine kw pm6 ?_
  refine kw pm2 ?_
  refine kw pm6 ?_
  refine kw pm6 ?_
  refine kw pm6 ?_
  refine kw pm6 ?_
  exact XB (k+1,QY L ((ge d.frames k).label) (k:Int)) [0,1,2,3,4] ⟨by omega,by rw[f1_2];exact(Zf3 (by omega)).symm⟩
 ·
  try simp at hb1
  have hL:L=Zbf (d.frames.take n):=by rw[f1_2,show k=n by omega]
  refine ZB (nx (Zk (tsq ?_)))
  refine sq (.lit (.func (.func 71) #[] #[.pointer (some ⟨b4,0,none⟩),.pointer (some ⟨b1,0,none⟩)])) rfl rfl (lb rfl) (fun _ _ h=>Zdd (caps:=[(Go.Operand.tmp 7),(Go.Operand.tmp 5)]) rfl (map_cons (h.get 2 rfl).lit (map_cons (h.get 0 rfl).lit map_nil)) h.x) ?_
  refine kw pm1 ?_
  refine kw pm1 ?_
  refine kw pm4 ?_
  refine kw pm3 ?_
  refine kw pm4 ?_
  refine kw pm6 ?_
  refine kw pm6 ?_
  refine Xt (O:=[OB.var b4 [.lit (.pointer (some ⟨b2,0,none⟩))],OB.var b1 [Zb t],OB.var b2 (mkC d (ge d.frames n) [.lit (.map (some m3)),.lit ui,.lit us,.lit ut,.lit (.int .i64 (0:Int)),.lit (.bool false),.lit (.int .i64 (0:Int)),.lit (.int .i64 (0:Int))]),OB.row ui 128 4 (([]:List Itm).map itC),OB.mI m3 L]) (R:=(OB.row ut 22 1 (([]:List (List ByteArray)).map Zh)::OB.row us 22 1 (([]:List (List ByteArray)).map Zh)::R)) (ZqM hJ (bm:=b4) (bt:=b1) (b:=b2) (d:=d) (f:=(ge d.frames n)) (M:=m3) (L:=L) (vi:=ui) (vs:=us) (vt:=ut) (n:=0) (kn:=false) (y1:=(0:Int)) (y2:=(0:Int)) (t:=t) (by exact ht) (by exact hh) (by exact hl) (by exact hs)) Zhw rfl rfl rfl (lb rfl) hS hJ0 Zs (fun a w h=>(Za (h.get 0 rfl) Ze)) fun z6=>?_
  refine snK 1 tb rfl ?_
  refine seK [0,5] [_,_] rfl ?_
  refine nx (qso tb hJ [0,1,1001] [_,_] [_,_,_] ?_)
  refine cj 2 (fun hb2=>?_) fun hb2=>?_
  ·
   try simp at hb2
   have e5:=Zq1 (d:=d) (n:=n) (t:=t) (c:=z6.1.1) (by rcases z6.2 with h9 | h9;exact absurd h9.1 hb2;rw[←hL];exact h9.2)
   refine tsq ?_
   refine sq (.at b2 0) rfl rfl (lb rfl) (fun _ _ h=>Zn (cs:=[.lit (.pointer (some ⟨b2,0,none⟩))]) ZQ rfl (Zd h.x (mo 0 rfl)) (h.get 1 rfl) rfl h.x) ?_
   refine sq (.at b2 0) rfl rfl (lb rfl) (fun _ _ h=>Zl rfl (h.get 0 rfl) h.x) ?_
   refine sq (.at b2 12) rfl rfl (lb rfl) (fun _ _ h=>Zo ZG rfl (h.get 0 rfl) h.x) ?_
   refine kw pm2 ?_
   refine ZE (b:=b2) (off:=12) (cs:=(mkC d (ge d.frames n) [.lit (.map (some m3)),.lit z6.1.2.1,.lit us,.lit ut,.lit (.int .i64 ((0:Nat):Int)),.lit (.bool false),.lit (.int .i64 (0:Int)),.lit (.int .i64 (0:Int))])) (es:=(mkC d (ge d.frames n) [.lit (.map (some m3)),XE ([]:List Itm),.lit us,.lit ut,.lit (.int .i64 ((0:Nat):Int)),.lit (.bool false),.lit (.int .i64 (0:Int)),.lit (.int .i64 (0:Int))])) hJ hJ0 Y1 rfl rfl rfl (lb rfl) rfl (fun a w h=>⟨(h.get 0 rfl),(Za5 (Rel.of_lit (Go.Value.slice none 0 0)))⟩) ?_
   refine seK [3,4] [_,_] rfl ?_
   refine nx (tsq ?_)
   refine sq (.at b2 0) rfl rfl (lb rfl) (fun _ _ h=>Zn (cs:=[.lit (.pointer (some ⟨b2,0,none⟩))]) ZQ rfl (Zd h.x (mo 1 rfl)) (h.get 1 rfl) rfl h.x) ?_
   refine snK 1 tb rfl ?_
   refine Xt (O:=[OB.var b2 (mkC d (ge d.frames n) [.lit (.map (some m3)),XE ([]:List Itm),.lit us,.lit ut,.lit (.int .i64 ((0:Nat):Int)),.lit (.bool false),.lit (.int .i64 (0:Int)),.lit (.int .i64 (0:Int))])]) (R:=(OB.var b4 [.lit (.pointer (some ⟨b2,0,none⟩))]::OB.var b1 [Zb t]::OB.row z6.1.2.1 128 4 (z6.1.2.2.map itC)::OB.mI m3 L::OB.row ut 22 1 (([]:List (List ByteArray)).map Zh)::OB.row us 22 1 (([]:List (List ByteArray)).map Zh)::R)) (ZfP hJ (b:=b2) (d:=d) (f:=(ge d.frames n)) (nm:=(.map (some m3))) (xs:=([]:List Itm)) (n:=0) (vs:=us) (vt:=ut) (kn:=false) (y1:=(0:Int)) (y2:=(0:Int)) (e:=z6.1.1) (p:=(0:Int)) ) ZdK rfl rfl rfl (lb rfl) hS hJ0 Zs (fun a w h=>(Za (h.get 1 rfl) (Za (h.get 0 rfl) (Za (Rel.of_lit (Go.Value.int Go.IntKind.i64 0)) Ze)))) fun _=>?_
   refine seK [4] [_] rfl ?_
   refine nx (ZN tb hJ [1001] [.at b2 0,_] [0] [_] rfl ⟨fun _ _ _ hx hl _=>Zn (cs:=[.lit (.pointer (some ⟨b2,0,none⟩))]) ZQ rfl (Zd hx (mo 1 rfl)) (hl.env 0 7 _ rfl rfl) rfl hx,trivial⟩ ?_)
   refine tw pm1 ?_
   refine tw Zy ?_
   refine tw pm1 ?_
   refine tw Zy ?_
   refine tw pm1 ?_
   refine tw Zy ?_
   refine tw pm1 ?_
   refine tw Zy ?_
   refine tw pm1 ?_
   refine tw pm2 ?_
   refine tw pm2 ?_
   refine tw (ob0 (show OB.var b2 (mkC d (ge d.frames n) [.lit (.map (some m3)),XE ([]:List Itm),.lit us,.lit ut,.lit (.int .i64 ((0:Nat):Int)),.lit (.bool true),.lit (.int .i64 z6.1.1),.lit (.int .i64 (0:Int))])=OB.var b2 (mkC d (ge d.frames n) [.lit (.map (some m3)),XE (Q0 d n t),.lit us,.lit ut,.lit (.int .i64 (((Zax d n t).n:Nat):Int)),.lit (.bool ((Zax d n t).kn)),.lit (.int .i64 ((Zax d n t).v.1)),.lit (.int .i64 ((Zax d n t).v.2))])from by first | (rw[e5.1,e5.2.2.2.1,e5.2.2.2.2.1,e5.2.2.2.2.2.1,e5.2.2.2.2.2.2];done) | (rw[e5.1,e5.2.2.2.1,e5.2.2.2.2.1,e5.2.2.2.2.2.1,e5.2.2.2.2.2.2];rfl) | (rw[e5.2.1]) | (rw[e5.2.2.1]))) ?_
   refine tw (ob1 (congrArg (fun z'=>OB.row us 22 1 ((z').map Zh)) (show([]:List (List ByteArray))=((Zax d n t).sk)from by first | (rw[e5.1,e5.2.2.2.1,e5.2.2.2.2.1,e5.2.2.2.2.2.1,e5.2.2.2.2.2.2];done) | (rw[e5.1,e5.2.2.2.1,e5.2.2.2.2.1,e5.2.2.2.2.2.1,e5.2.2.2.2.2.2];rfl) | (rw[e5.2.1]) | (rw[e5.2.2.1])))) ?_
   refine tw (ob2 (congrArg (fun z'=>OB.row ut 22 1 ((z').map Zh)) (show([]:List (List ByteArray))=((Zax d n t).tg)from by first | (rw[e5.1,e5.2.2.2.1,e5.2.2.2.2.1,e5.2.2.2.2.2.1,e5.2.2.2.2.2.2];done) | (rw[e5.1,e5.2.2.2.1,e5.2.2.2.2.1,e5.2.2.2.2.2.1,e5.2.2.2.2.2.2];rfl) | (rw[e5.2.1]) | (rw[e5.2.2.1])))) ?_
   exact Zg (fun a w h=>ZS  (m:=0) (b2,(.map (some m3)),us,ut) rfl h rfl rfl)
  ·
   try simp at hb2
   have e5:=mch_ok (d:=d) (n:=n) (t:=t) (xs:=z6.1.2.2) (by rcases z6.2 with h9 | h9;rw[←hL];exact h9.2;exact absurd hb2 h9.1)
   refine Zc (nx (tw pm2 ?_))
   refine tw pm3 ?_
   refine tw (fun h=>ZeC (j:=12) (cs':=(mkC d (ge d.frames n) [.lit (.map (some m3)),XE z6.1.2.2,.lit us,.lit ut,.lit (.int .i64 ((0:Nat):Int)),.lit (.bool false),.lit (.int .i64 (0:Int)),.lit (.int .i64 (0:Int))])) hS rfl rfl h) ?_
   refine tsq ?_
   refine sq (.at b2 0) rfl rfl (lb rfl) (fun _ _ h=>Zn (cs:=[.lit (.pointer (some ⟨b2,0,none⟩))]) ZQ rfl (Zd h.x (mo 1 rfl)) (h.get 1 rfl) rfl h.x) ?_
   refine kw pm4 ?_
   refine kw pm4 ?_
   refine kw pm4 ?_
   refine kw pm4 ?_
   refine kw pm5 ?_
   refine kw pm5 ?_
   refine Xt (O:=[OB.var b2 (mkC d (ge d.frames n) [.lit (.map (some m3)),XE z6.1.2.2,.lit us,.lit ut,.lit (.int .i64 ((0:Nat):Int)),.lit (.bool false),.lit (.int .i64 (0:Int)),.lit (.int .i64 (0:Int))]),OB.row us 22 1 (([]:List (List ByteArray)).map Zh)]) (R:=(OB.var b4 [.lit (.pointer (some ⟨b2,0,none⟩))]::OB.var b1 [Zb t]::OB.mI m3 L::OB.row ut 22 1 (([]:List (List ByteArray)).map Zh)::R)) (ZqO hJ (b:=b2) (d:=d) (f:=(ge d.frames n)) (nm:=(.map (some m3))) (xs:=z6.1.2.2) (vs:=us) (vt:=ut) (n:=0) (kn:=false) (y1:=(0:Int)) (y2:=(0:Int)) (sk:=([]:List (List ByteArray))) ) Zhu rfl rfl rfl (lb rfl) hS hJ0 Zs (fun a w h=>(Za (h.get 0 rfl) Ze)) fun _=>?_
   refine seK [3] [_] rfl ?_
   refine nx (ZN tb hJ [1001] [.at b2 0,_] [0] [_] rfl ⟨fun _ _ _ hx hl _=>Zn (cs:=[.lit (.pointer (some ⟨b2,0,none⟩))]) ZQ rfl (Zd hx (mo 2 rfl)) (hl.env 0 7 _ rfl rfl) rfl hx,trivial⟩ ?_)
   refine tw pm2 ?_
   refine tw Zy ?_
   refine tw pm2 ?_
   refine tw Zy ?_
   refine tw pm2 ?_
   refine tw Zy ?_
   refine tw (ob0 (show OB.var b2 (mkC d (ge d.frames n) [.lit (.map (some m3)),XE z6.1.2.2,.lit us,.lit ut,.lit (.int .i64 ((0:Nat):Int)),.lit (.bool (false|| !decide (0<z6.1.2.2.length))),.lit (.int .i64 (if 0<z6.1.2.2.length then(0:Int)else(ZdQ (ge d.frames n) ([]:List (List ByteArray)) 0).1)),.lit (.int .i64 (if 0<z6.1.2.2.length then(0:Int)else(ZdQ (ge d.frames n) ([]:List (List ByteArray)) 0).2))])=OB.var b2 (mkC d (ge d.frames n) [.lit (.map (some m3)),XE (Q0 d n t),.lit us,.lit ut,.lit (.int .i64 (((Zax d n t).n:Nat):Int)),.lit (.bool ((Zax d n t).kn)),.lit (.int .i64 ((Zax d n t).v.1)),.lit (.int .i64 ((Zax d n t).v.2))])from by first | (rw[e5.1,e5.2.2.2.1,e5.2.2.2.2.1,e5.2.2.2.2.2.1,e5.2.2.2.2.2.2];done) | (rw[e5.1,e5.2.2.2.1,e5.2.2.2.2.1,e5.2.2.2.2.2.1,e5.2.2.2.2.2.2];rfl) | (rw[e5.2.1]) | (rw[e5.2.2.1]))) ?_
   refine tw (ob1 (congrArg (fun z'=>OB.row us 22 1 ((z').map Zh)) (show([]:List (List ByteArray))=((Zax d n t).sk)from by first | (rw[e5.1,e5.2.2.2.1,e5.2.2.2.2.1,e5.2.2.2.2.2.1,e5.2.2.2.2.2.2];done) | (rw[e5.1,e5.2.2.2.1,e5.2.2.2.2.1,e5.2.2.2.2.2.1,e5.2.2.2.2.2.2];rfl) | (rw[e5.2.1]) | (rw[e5.2.2.1])))) ?_
   refine tw (ob2 (congrArg (fun z'=>OB.row ut 22 1 ((z').map Zh)) (show([]:List (List ByteArray))=((Zax d n t).tg)from by first | (rw[e5.1,e5.2.2.2.1,e5.2.2.2.2.1,e5.2.2.2.2.2.1,e5.2.2.2.2.2.2];done) | (rw[e5.1,e5.2.2.2.1,e5.2.2.2.2.1,e5.2.2.2.2.2.1,e5.2.2.2.2.2.2];rfl) | (rw[e5.2.1]) | (rw[e5.2.2.1])))) ?_
   exact Zg (fun a w h=>ZS  (m:=0) (b2,(.map (some m3)),us,ut) rfl h rfl rfl)
theorem Zk2 {J:World→Prop} (hJ:Stab J) (d:Db) (n:Nat) (t:List ByteArray) (hn:n<d.frames.length) (hfl:d.frames.length≤400) (hfr:∀ g∈d.frames,okF g∧okT g) (hM:Ze1 (Zbf (d.frames.take n)) d.frames.length) (hf:Zgl (ge d.frames n)) (hw:∀ g∈d.frames,g.wide.length*32≤140737488351232) (hl:t.length≤100000) (hs:Zaf t≤1000000000):Fn Tryz.prog J 41 [.agg (dbC d),.int (n:Nat),.rd (Zb t)] (.agg (vdC (Zfp d.frames d.vars (ge d.frames n) (Zbf (d.frames.take n)) t))):=by
 refine Zw (N:=19) Tryz.func41 rfl rfl (lb rfl) fun S w0 hS hJ0=>?_
 refine tw Yn ?_
 refine ln 2 fun hl1=>?_
 obtain⟨h0,h00⟩:=startV (t:=t) hM hf
 refine tsq ?_
 refine sq (.ptr (dbC d)) rfl rfl (lb rfl) (fun _ _ h=>Xb rfl (h.get 0 rfl) (Zq hS _ h.keep h.x _ (Nat.le_refl _)) (jo hJ h.x)) ?_
 refine ZV Zb0 hJ rfl rfl rfl (lb rfl) fun b1=>?_
 refine seK [0,1,3,4] [_,_,_,_] rfl ?_
 refine nx (ZhP (tsq ?_))
 refine snK 3 tb rfl ?_
 refine Xt (O:=[]) (R:=[OB.var b1 [.lit (.int .i64 0),.lit (.int .i64 0)]]) (Zk8 hJ (d:=d) (n:=n) (t:=t) sfz sfz (by exact fun h hh=>(hf h hh).2) (by exact(hfr _ (ZM hn)).1.1) (by exact hl) (by exact hs)) ZrY rfl rfl rfl (lb rfl) hS hJ0 Zs (fun a w h=>(Za (h.get 2 rfl) (Za (h.get 1 rfl) (Za (h.get 0 rfl) Ze)))) fun z2=>?_
 refine snK 1 tb rfl ?_
 refine seK [0,5] [_,_] rfl ?_
 refine nx (Zk (ZhQ (nx (Zk (Zf (lpo (ι:=Ms×Value×Value) (fun(m9,_,_)=>(InvM (Q0 d n t) m9)∧((ZkH d.frames d.vars (ge d.frames n) (Q0 d n t) ((Q0 d n t).length+1) (Zax d n t)).v=(ZkH d.frames d.vars (ge d.frames n) (Q0 d n t) ((Q0 d n t).length+1-m9.n) m9).v)) (fun(m9,vs,vt)=>[OB.var z2.1 (mkC d (ge d.frames n) [.lit z2.2.1,XE (Q0 d n t),.lit vs,.lit vt,.lit (.int .i64 (m9.n:Int)),.lit (.bool m9.kn),.lit (.int .i64 m9.v.1),.lit (.int .i64 m9.v.2)]),OB.row vs 22 1 (m9.sk.map Zh),OB.row vt 22 1 (m9.tg.map Zh),OB.var b1 [.lit (.int .i64 0),.lit (.int .i64 0)]]) (fun(_,_,_)=>[]) (fun(m9,_,_)=>(Q0 d n t).length-m9.n) [0,1] [_,_] ((Zax d n t),z2.2.2.1,z2.2.2.2) ⟨h00,by rw[show(Zax d n t).n=0 from Zql];rfl⟩ ?_))))))
 rintro⟨m9,vs,vt⟩ ⟨f1_1,f1_2⟩
 refine Zf (tsq ?_)
 refine snK 1 tb rfl ?_
 refine Xt (O:=[OB.var z2.1 (mkC d (ge d.frames n) [.lit z2.2.1,XE (Q0 d n t),.lit vs,.lit vt,.lit (.int .i64 (m9.n:Int)),.lit (.bool m9.kn),.lit (.int .i64 m9.v.1),.lit (.int .i64 m9.v.2)]),OB.row vs 22 1 (m9.sk.map Zh),OB.row vt 22 1 (m9.tg.map Zh)]) (R:=[OB.var b1 [.lit (.int .i64 0),.lit (.int .i64 0)]]) (p_step hJ (b:=z2.1) (d:=d) (f:=(ge d.frames n)) (nm:=z2.2.1) (xs:=(Q0 d n t)) (vs:=vs) (vt:=vt) (n:=m9.n) (kn:=m9.kn) (y1:=m9.v.1) (y2:=m9.v.2) (sk:=m9.sk) (tg:=m9.tg) (by exact inv_i h0 f1_1) (by exact f1_1.sk) (by exact(Zre h0 f1_1).1) (by exact(Zre h0 f1_1).2.1) (by exact(Zre h0 f1_1).2.2) (by exact fun g hg=>(hfr g hg).1) (by exact hw _ (ZM hn))) ZrX rfl rfl rfl (lb rfl) hS hJ0 Zs (fun a w h=>(Za (h.get 0 rfl) Ze)) fun z3=>?_
 refine snK 1 tb rfl ?_
 refine seK [0,3,4] [_,_,_] rfl ?_
 refine nx (cj 0 (fun hb1=>?_) fun hb1=>?_)
 try simp at hb1
 have e5:=f1_2.trans (Zno (fs:=d.frames) (vars:=d.vars) (f:=ge d.frames n) f1_1 (by rw[←ZhT];exact hb1))
 refine ZB (nx (tsq ?_))
 refine snK 1 tb rfl ?_
 refine sq (.at z2.1 0) rfl rfl (lb rfl) (fun _ _ h=>Zl rfl (h.get 0 rfl) h.x) ?_
 refine sq (.at z2.1 17) rfl rfl (lb rfl) (fun _ _ h=>Zo Zcv rfl (h.get 0 rfl) h.x) ?_
 refine sq (.agg [.lit (.int .i64 ((ZW d.frames d.vars (ge d.frames n) (Q0 d n t) ⟨m9.sk,m9.tg,m9.n,m9.kn,(m9.v.1,m9.v.2),false⟩).v.1)),.lit (.int .i64 ((ZW d.frames d.vars (ge d.frames n) (Q0 d n t) ⟨m9.sk,m9.tg,m9.n,m9.kn,(m9.v.1,m9.v.2),false⟩).v.2))]) rfl rfl (lb rfl) (fun _ _ h=>Yo (cs:=(mkC d (ge d.frames n) [.lit z2.2.1,XE (Q0 d n t),.lit z3.1,.lit z3.2,.lit (.int .i64 (((ZW d.frames d.vars (ge d.frames n) (Q0 d n t) ⟨m9.sk,m9.tg,m9.n,m9.kn,(m9.v.1,m9.v.2),false⟩).n:Nat):Int)),.lit (.bool ((ZW d.frames d.vars (ge d.frames n) (Q0 d n t) ⟨m9.sk,m9.tg,m9.n,m9.kn,(m9.v.1,m9.v.2),false⟩).kn)),.lit (.int .i64 ((ZW d.frames d.vars (ge d.frames n) (Q0 d n t) ⟨m9.sk,m9.tg,m9.n,m9.kn,(m9.v.1,m9.v.2),false⟩).v.1)),.lit (.int .i64 ((ZW d.frames d.vars (ge d.frames n) (Q0 d n t) ⟨m9.sk,m9.tg,m9.n,m9.kn,(m9.v.1,m9.v.2),false⟩).v.2))])) (ds:=[.lit (.int .i64 ((ZW d.frames d.vars (ge d.frames n) (Q0 d n t) ⟨m9.sk,m9.tg,m9.n,m9.kn,(m9.v.1,m9.v.2),false⟩).v.1)),.lit (.int .i64 ((ZW d.frames d.vars (ge d.frames n) (Q0 d n t) ⟨m9.sk,m9.tg,m9.n,m9.kn,(m9.v.1,m9.v.2),false⟩).v.2))]) Zbc rfl (Zd h.x (mo 0 rfl)) (h.get 0 rfl) rfl rfl h.x) ?_
 refine kw pm3 ?_
 refine ZF (b:=b1) (off:=0) (cs:=[.lit (.int .i64 0),.lit (.int .i64 0)]) (es:=[.lit (.int .i64 ((ZW d.frames d.vars (ge d.frames n) (Q0 d n t) ⟨m9.sk,m9.tg,m9.n,m9.kn,(m9.v.1,m9.v.2),false⟩).v.1)),.lit (.int .i64 ((ZW d.frames d.vars (ge d.frames n) (Q0 d n t) ⟨m9.sk,m9.tg,m9.n,m9.kn,(m9.v.1,m9.v.2),false⟩).v.2))]) (news:=[.lit (.int .i64 ((ZW d.frames d.vars (ge d.frames n) (Q0 d n t) ⟨m9.sk,m9.tg,m9.n,m9.kn,(m9.v.1,m9.v.2),false⟩).v.1)),.lit (.int .i64 ((ZW d.frames d.vars (ge d.frames n) (Q0 d n t) ⟨m9.sk,m9.tg,m9.n,m9.kn,(m9.v.1,m9.v.2),false⟩).v.2))]) hJ hJ0 QU rfl rfl rfl (lb rfl) rfl (fun a w h=>⟨(h.get 6 rfl),(h.get 0 rfl)⟩) ?_
 refine seK [6] [_] rfl ?_
 exact nx (Zg (fun a w h=>Zar (cs:=[.lit (.int .i64 ((ZW d.frames d.vars (ge d.frames n) (Q0 d n t) ⟨m9.sk,m9.tg,m9.n,m9.kn,(m9.v.1,m9.v.2),false⟩).v.1)),.lit (.int .i64 ((ZW d.frames d.vars (ge d.frames n) (Q0 d n t) ⟨m9.sk,m9.tg,m9.n,m9.kn,(m9.v.1,m9.v.2),false⟩).v.2))]) (m:=0) rfl Zbc h rfl rfl (show([.lit (.int .i64 ((ZW d.frames d.vars (ge d.frames n) (Q0 d n t) ⟨m9.sk,m9.tg,m9.n,m9.kn,(m9.v.1,m9.v.2),false⟩).v.1)),.lit (.int .i64 ((ZW d.frames d.vars (ge d.frames n) (Q0 d n t) ⟨m9.sk,m9.tg,m9.n,m9.kn,(m9.v.1,m9.v.2),false⟩).v.2))]:List CD)=[.lit (.int .i64 ((Zfp d.frames d.vars (ge d.frames n) (Zbf (d.frames.take n)) t).1)),.lit (.int .i64 ((Zfp d.frames d.vars (ge d.frames n) (Zbf (d.frames.take n)) t).2))]from by rw[verV,e5];rfl)))
 try simp at hb1
 have e6:=Znn (fs:=d.frames) (vars:=d.vars) (f:=ge d.frames n) f1_1 (by rw[←ZhT];exact hb1)
 exact Zc (XB ((ZW d.frames d.vars (ge d.frames n) (Q0 d n t) m9),z3.1,z3.2) [1,2] ⟨Znl (fun g hg=>(hfr g hg).2) h0 f1_1,f1_2.trans e6.1⟩ (hm:=(show(Q0 d n t).length-(ZW d.frames d.vars (ge d.frames n) (Q0 d n t) m9).n< (Q0 d n t).length-m9.n from by rw[e6.2.1];omega)))
end Go.Proofs.YtdgbcfloaenhbaaGreatDoor
