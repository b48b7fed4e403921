/-
  DERIVED: the shelf's contracts at this dump, in plain words.
  CONTRACTS of the program: a proof's brackets.
  CONTRACT of the program: the letters of a compressed proof.
  CONTRACTS of the program: a label among the hypotheses'.
  CONTRACT of the program: what is checked ahead.
  WHAT IS READ, ITEM BY ITEM (plain).
  CONTRACT of the program: a proof's words are read.
  CONTRACTS of the program: the machine's reading, guarded.
  CONTRACT of the program: the machine of a proof.
  CONTRACT of the program: a verdict.
  CONTRACTS of the program: verdicts of theorems, of other proofs.
  CONTRACTS of the law of verdicts: its bounds, its sample, awake.
  THE LAW DependRemoves returns true.
-/
import Derived.Test.YtapelgeodldlcaaGreatDoorXAB
namespace Go.Proofs
open Go.Shelf
def Tryz.lays156_ren:Go.Shelf.Ren:=⟨fun | 156=>135 | 165=>149 | 166=>150 | 169=>151 | 240=>165 | 241=>166 | 276=>176 | 277=>177 | n=>n,fun | 31=>22 | 9=>9 | 3=>3 | 4=>4 | 0=>0 | 20=>20 | 72=>214 | 76=>217 | 70=>212 | 37=>26 | 75=>216 | 127=>234 | 164=>241 | 5=>5 | 80=>219 | n=>n,fun | n=>n⟩
theorem Tryz.lays156:Go.Proofs.Lays.n156 Tryz.prog Tryz.lays156_ren:= {
 mixed:=by kernel_rfl
 f156:=Tryz.func135.trans (congrArg some (by kernel_rfl))
 f165:=Tryz.func149.trans (congrArg some (by kernel_rfl))
 f166:=Tryz.func150.trans (congrArg some (by kernel_rfl))
 f169:=Tryz.func151.trans (congrArg some (by kernel_rfl))
 f240:=Tryz.func165.trans (congrArg some (by kernel_rfl))
 f241:=Tryz.func166.trans (congrArg some (by kernel_rfl))
 f276:=Tryz.func176.trans (congrArg some (by kernel_rfl))
 f277:=Tryz.func177.trans (congrArg some (by kernel_rfl))
 t0:=Tryz.underlying0
 a0:=Tryz.isAgg0
 z0:=Tryz.sizeOf0
 v0:=Tryz.zeroValue0
 t3:=Tryz.underlying3
 a3:=Tryz.isAgg3
 z3:=Tryz.sizeOf3
 v3:=Tryz.zeroValue3
 t4:=Tryz.underlying4
 a4:=Tryz.isAgg4
 z4:=Tryz.sizeOf4
 v4:=Tryz.zeroValue4
 t9:=Tryz.underlying9
 a9:=Tryz.isAgg9
 z9:=Tryz.sizeOf9
 v9:=Tryz.zeroValue9
 t20:=Tryz.underlying20
 a20:=Tryz.isAgg20
 z20:=Tryz.sizeOf20
 v20:=Tryz.zeroValue20
 t31:=Tryz.underlying22
 a31:=Tryz.isAgg22
 z31:=Tryz.sizeOf22
 v31:=Tryz.zeroValue22
 t37:=Tryz.underlying26
 a37:=Tryz.isAgg26
 z37:=Tryz.sizeOf26
 v37:=Tryz.zeroValue26
 t70:=Tryz.underlying212
 a70:=Tryz.isAgg212
 z70:=Tryz.sizeOf212
 v70:=Tryz.zeroValue212
 t72:=Tryz.underlying214
 a72:=Tryz.isAgg214
 z72:=Tryz.sizeOf214
 v72:=Tryz.zeroValue214
 t75:=Tryz.underlying216
 a75:=Tryz.isAgg216
 z75:=Tryz.sizeOf216
 v75:=Tryz.zeroValue216
 t76:=Tryz.underlying217
 a76:=Tryz.isAgg217
 z76:=Tryz.sizeOf217
 v76:=Tryz.zeroValue217
 t127:=Tryz.underlying234
 a127:=Tryz.isAgg234
 z127:=Tryz.sizeOf234
 v127:=Tryz.zeroValue234
 t164:=Tryz.underlying241
 a164:=Tryz.isAgg241
 z164:=Tryz.sizeOf241
 v164:=Tryz.zeroValue241 }
theorem Tryz.Builder_Extra_156:Builder.Extra Tryz.prog Tryz.lays156_ren:= {
 sizeBuilder:=by kernel_rfl
 liesBuilder:=by kernel_rfl
 t5:=Tryz.underlying5
 a5:=Tryz.isAgg5
 z5:=Tryz.sizeOf5
 v5:=Tryz.zeroValue5
 infoByte:=by kernel_rfl
 cellsByte:=by kernel_rfl
 sizeByte:=by kernel_rfl
 neB5:=by decide }
open Go.RowKit in
theorem Tryz.strings_Join_none (a:Option Addr) (c:Nat) (sep:ByteArray) (w:World):
 Calls Tryz.prog 135 #[.slice a 0 c,.string sep] w fun e w'=>e= .returned (.string ⟨#[]⟩)∧w'=w:=Any.strings_Join_none Tryz.lays156 Tryz.Builder_Extra_156 a c sep w
open Go.RowKit in
theorem Tryz.strings_Join (bk o c:Nat) (xs:List ByteArray) (sep:ByteArray) (w:World) (hcells:∀(j:Nat) x,xs[j]?=some x→w.cell? ⟨bk,o+j,none⟩=some (.string x)) (hbk:bk<w.heap.size) (hN:xs.length≤140737488355328) (hcap:xs.length≤c) (hlen:(Lib.join (xs.map (·.data.toList)) sep.data.toList).length≤140737488355328):
 Calls Tryz.prog 135 #[.slice (some ⟨bk,o,none⟩) xs.length c,.string sep] w fun e w'=>e= .returned (.string ⟨(Lib.join (xs.map (·.data.toList)) sep.data.toList).toArray⟩)∧Below w.heap.size w w':=Any.strings_Join Tryz.lays156 Tryz.Builder_Extra_156 bk o c xs sep w hcells hbk hN hcap hlen
end Go.Proofs
set_option maxHeartbeats 8000000
set_option maxRecDepth 100000
namespace Go.Proofs.YtapelgeodldlcaaGreatDoor
open Go.RowKit
theorem Zpx {J:World→Prop} (hJ:Stab J) (xs:List ByteArray) (s:ByteArray)  :Fn Tryz.prog J 56 [.rd (Zb xs),.str s] (.int (Yz (isV s) xs)):=by
 refine Zu (N:=19) Tryz.func56 rfl rfl (lb rfl) fun S w0 hS hJ0=>?_
 clear hJ0
 refine ln 0 fun hl1=>?_
 refine qs tb hJ [0,1] [_] [_,_] ?_
 refine Zj (hqs tb hJ [0,1,1001,1002] [_,.int (xs.length:Nat),_] [1] [_,_,_,_] rfl ⟨YG Zv,trivial⟩ ?_)
 refine Zf (lp (ι:=Nat) (fun k=>(k≤xs.length)∧(∀ j,j<k→isV s (ge xs j)=false)) (fun k=>[(8,.int (k:Nat))]) (fun k=>xs.length-k) [0,1,2,3] [_,_,_] 0 ⟨Nat.zero_le _,fun j hj=>by omega⟩ ?_)
 rintro k ⟨f1_1,f1_2⟩
 refine qs tb hJ [0,1,2,3,1000] [_] [_,_,_,_,_] ?_
 refine cjS 4 (fun hb1=>?_) fun hb1=>?_
 try simp at hb1
 refine Zc (nx (Zj (Zf (qs tb hJ [0,1,2,3,1001] [_,_] [_,_,_,_,_] ?_))))
 refine hqs tb hJ [0,1,2,3,4,1005] [_,_,_,.ptr [.lit (.string (ge xs k))],_,_] [3] [_,_,_,_,_,_] rfl ⟨iIx Zn,trivial⟩ ?_
 refine cj 5 (fun hb2=>?_) fun hb2=>?_
 try simp at hb2
 refine qs tb hJ [1001] [_,_] [_] ?_
 exact Zg (rtn (m:=0) rfl rfl (eI (by first | exact(YJ hb1 (by simpa [isV]using hb2) f1_2).symm | exact(Ys fun j hj=>f1_2 j (by omega)).symm)))
 try simp at hb2
 refine Zc (nx (hqp tb hJ [0,1,2,1001] [.int (k+1:Nat),_] [0] [_,_,_,_] rfl ⟨Yv,trivial⟩ ?_))
 exact lpE (k+1) [0,1,2,3] ⟨by omega,ZZ f1_2 (by simpa [isV]using hb2)⟩
 try simp at hb1
 refine Zx (nx (qs tb hJ [1000] [_] [_] ?_))
 exact Zg (rtn (m:=0) rfl rfl (eI (by first | exact(YJ hb1 (by simpa [isV]using hb2) f1_2).symm | exact(Ys fun j hj=>f1_2 j (by omega)).symm)))
theorem Zki {S:Nat→Prop} {w:World} {xs:List ByteArray} {v:Value} (h:Rd S w (Zb xs) v):(xs=[]∧∃ a c,v= .slice a 0 c)∨ ∃ b off cap,v= .slice (some ⟨b,off,none⟩) xs.length cap∧xs.length≤cap∧b<w.heap.size∧∀(j:Nat) (x:ByteArray),xs[j]?=some x→w.cell? ⟨b,off+j,none⟩=some (.string x):=by
 unfold Zb at h
 generalize hr:xs.map Q5=rows at h
 cases h with
 | nil a cap hm=>exact .inl ⟨by simpa using hr,a,cap,rfl⟩
 | sl b off cap n rows vs hl hm hb hS hn hc hrd=>
  subst hr
  refine .inr ⟨b,off,cap,by rw[List.length_map],by simpa using hl,hb,fun j x hj=>?_⟩
  have hjl:j<xs.length:=(List.getElem?_eq_some_iff.1 hj).1
  have hrow:(xs.map Q5)[j]?=some (Q5 x):=by rw[List.getElem?_map,hj];rfl
  have hn1:n=1:=(hn _ (List.mem_of_getElem? hrow)).symm
  subst hn1
  have h1:=hc j 0 (by simpa using hjl) (by omega)
  have h2:=(hrd j 0 _ _ hrow (show(Q5 x)[0]?=some (.lit (.string x))from rfl)).of_lit
  rw[h2]at h1
  simpa using h1
theorem p_Join {J:World→Prop} (hJ:Stab J) (xs:List ByteArray) (s:ByteArray) (hn:xs.length≤140737488355328) (hl:(Lib.join (xs.map (·.data.toList)) s.data.toList).length≤140737488355328):Fn Tryz.prog J 135 [.rd (Zb xs),.str s] (.str (Zey xs s)):=by
 intro S w vs hS hJ0 h
 simp only[RelL]at h
 obtain⟨u,_,rfl,h1,u2,_,rfl,h2,rfl⟩:=h
 rw[h2.lit]
 have hok:okLit (.string (Zey xs s)):=by
  show(Zey xs s).size≤maxLen
  simp only[Zey,ByteArray.size,List.size_toArray,maxLen]
  omega
 simp only[Rel]at h1
 rcases Zki h1 with⟨rfl,a,c,rfl⟩ | ⟨b,off,cap,rfl,hcap,hb,hc⟩
 · exact Calls.mono (Tryz.strings_Join_none a c s w) fun e w' ⟨he,hw⟩=>⟨_,he,Rel.of_lit _ hok,hw▸Keeps.refl _ _,hw▸hJ0⟩
 · refine Calls.mono (Tryz.strings_Join b off cap xs s w hc hb hn hcap hl) fun e w' ⟨he,hw⟩=>?_
   have hk:Keeps All w w':=⟨hw.os,hw.tape,hw.output,hw.size,fun k hk _=>hw.block k hk⟩
   exact⟨_,he,Rel.of_lit _ hok,hk,hJ _ _ hk hJ0⟩
theorem Zgt {J:World→Prop} (hJ:Stab J) (l:List ByteArray)  :Fn Tryz.prog J 104 [.rd (Zb l)] (.bool (ZaJ l)):=by
 refine Zu (N:=12) Tryz.func104 rfl rfl (lb rfl) fun S w0 hS hJ0=>?_
 clear hJ0
 refine ln 0 fun hl1=>?_
 refine qs tb hJ [0] [_] [_] ?_
 refine hqs tb hJ [1009] [_,.int (l.length:Nat),_,_,_,.ptr [.lit (.string (ge l 0))],_,_,_,_] [1,5] [_] rfl ⟨YG Zv,gIx (k:=0) Zn (hk:=fun(hc':((decide ((0:Int)< (l.length:Int)))==true)=true)=>by(try simp at hc');first | omega | (simp;omega) | grind[ZF]),trivial⟩ ?_
 exact Zg (rtn (m:=0) rfl rfl (eB (by unfold ZaJ;by_cases h9:0<l.length<;>simp[h9])))
theorem Zpl {J:World→Prop} (hJ:Stab J) (s:ByteArray)  :Fn Tryz.prog J 134 [.str s] (.bool (!Zc3 s)):=by
 refine Zu (N:=6) Tryz.func134 rfl rfl (lb rfl) fun S w0 hS hJ0=>?_
 clear hJ0
 refine qs tb hJ [0] [_] [_] ?_
 refine hqs tb hJ [1003] [_,.bool (Zc3 s),_,_] [1] [_] rfl ⟨iFn hS hJ (Zb7 hJ (s:=s) ) ZfI,trivial⟩ ?_
 exact Zg (rtn (m:=0) rfl rfl (eB (by first | rfl | grind[ZF])))
theorem ZsP {J:World→Prop} (hJ:Stab J) (l:List ByteArray) (h0:ZaJ l=true) (hn:l.length≤100000) (hs:ZcZ l≤140737488355328):FnP (ι:= {q':List ByteArray×ByteArray // XZ l=some q'}) (κ:= {c:Int // XZ l=none∧c=20}) Tryz.prog J 107 [] [.rd (Zb l)] [] (fun i'=>.tup [.rd (Zb (i'.1.1)),.str (i'.1.2)]) (fun _=>[]) (fun k'=>flV k'.1) (fun _=>[]):=by
 refine Qn (N:=24) Tryz.func107 rfl rfl (lb rfl) fun S w0 R hS hJ0 hH=>?_
 refine Z6 (B:=St All (SO S (R)) w0 24 [(0,.rd (Zb l))] (XO J S w0.heap.size (R))) ?_ fun a w h=>h
 refine ln 0 fun hl1=>?_
 refine qso tb hJ [0] [_,_] [_] ?_
 refine ZI tb hJ [0,1002] [_,.int (Yz (isV (⟨#[41]⟩:ByteArray)) l),_] [1] [_,_] rfl ⟨iFo hS hJ (Zpx hJ (xs:=l) (s:=(⟨#[41]⟩:ByteArray)) ) Zn0,trivial⟩ ?_
 refine Zj (qso tb hJ [0,1,1001] [_,_] [_,_,_] ?_)
 refine cj 2 (fun hb1=>?_) fun hb1=>?_
 try simp at hb1
 refine Zw (XX (O:=[]) (R:=(R)) (Qj hJ (c:=(20:Int)) ) YT rfl rfl rfl (lb rfl) hS hJ0 Zq (fun a w h=>(Za (Rel.of_lit (Go.Value.int Go.IntKind.i64 20)) Ze)) (fun _=>?_) (fun i=>i.elim))
 exact fun a w h=>pnP (⟨20,⟨Zpi hb1,rfl⟩⟩: {c:Int // XZ l=none∧c=20}) rfl a w h
 try simp at hb1
 have e1:¬ Yz (isV ⟨#[41]⟩) l<0:=by simpa using hb1
 have e2:=ZrG h0 e1
 refine Zc (nx (tw (sa 1 rfl (congrArg AV.int (show Yz (isV (⟨#[41]⟩:ByteArray)) l=(((Yz (isV ⟨#[41]⟩) l).toNat:Nat):Int)from by omega))) ?_))
 refine tsq ?_
 refine snK 2 tb rfl ?_
 refine sq (.rd (Zb ((l.take ((Yz (isV ⟨#[41]⟩) l).toNat)).drop 1))) rfl rfl (lb rfl) (fun _ _ h=>Zbe (ys:=(l.take ((Yz (isV ⟨#[41]⟩) l).toNat)).drop 1) (lo:=1) (hi:=(Yz (isV ⟨#[41]⟩) l).toNat) rfl Zn (fun _=>rfl) rfl (h.get 1 rfl) (Rel.of_lit (Go.Value.int Go.IntKind.i64 1)) (h.get 0 rfl) sfz sfz h.x) ?_
 refine Y7 (O:=[]) (R:=(R)) (Zjd hJ (xs:=((l.take ((Yz (isV ⟨#[41]⟩) l).toNat)).drop 1)) sfz) ZnW rfl rfl rfl (lb rfl) hS hJ0 Zq (fun a w h=>(Za (h.get 0 rfl) Ze)) fun z3=>?_
 refine snK 1 tb rfl ?_
 refine seK [0,2,5,6] [_,_,_,_] rfl ?_
 refine nx (ln 1 fun hl2=>?_)
 refine Zj (ZrI tb hJ [0,2,3,1001] [_,.bool (((l.take ((Yz (isV ⟨#[41]⟩) l).toNat)).drop 1).any (fun s=>!Zc3 s))] [1] [_,_,_,_] rfl ⟨fun _ _ hk hx hl _=>Y9 (YZ hJ (xs:=((l.take ((Yz (isV ⟨#[41]⟩) l).toNat)).drop 1)) (f:=134) (caps:=[]) (Os:=[]) (p:=(fun s=>!Zc3 s)) (fun q'=>(Zpl hJ q').r) (ZqD)) ZcD rfl (nm hS hk) (hx.1) Zq (Za (QR hS hx (mo 0 rfl) (hl.D 0 15 rfl rfl)) (Za (QQ 134) Ze)) (jo hJ hx),trivial⟩ ?_)
 refine cj 3 (fun hb2=>?_) fun hb2=>?_
 try simp at hb2
 refine Zw (XX (O:=[]) (R:=(OB.row z3 9 1 (((l.take ((Yz (isV ⟨#[41]⟩) l).toNat)).drop 1).map Q5)::R)) (Qj hJ (c:=(20:Int)) ) YT rfl rfl rfl (lb rfl) hS hJ0 Zq (fun a w h=>(Za (Rel.of_lit (Go.Value.int Go.IntKind.i64 20)) Ze)) (fun _=>?_) (fun i=>i.elim))
 refine kw Zy ?_
 exact fun a w h=>pnP (⟨20,⟨Zms e1 (by simpa using hb2),rfl⟩⟩: {c:Int // XZ l=none∧c=20}) rfl a w h
 try simp at hb2
 refine Zc (nx (tw (sa 2 rfl (congrArg AV.int (show(((Yz (isV ⟨#[41]⟩) l).toNat:Nat):Int)=(((Yz (isV ⟨#[41]⟩) l).toNat:Nat):Int)from by omega))) ?_))
 refine ZI tb hJ [1004,1006,1007] [_,_,_,.int ((Yz (isV ⟨#[41]⟩) l).toNat+1:Nat),.rd (Zb (l.drop ((Yz (isV ⟨#[41]⟩) l).toNat+1))),.str (Zey (l.drop ((Yz (isV ⟨#[41]⟩) l).toNat+1)) (⟨#[]⟩:ByteArray)),_,_] [3,4,5] [_,_,_] rfl ⟨Yv,fun _ _ _ hx hl _=>Zbe (ys:=l.drop ((Yz (isV ⟨#[41]⟩) l).toNat+1)) (lo:=(Yz (isV ⟨#[41]⟩) l).toNat+1) (hi:=l.length) (by rw[List.take_length]) Zn (fun _=>rfl) rfl (hl.D 1 19 rfl rfl) (hl.D 3 21 rfl rfl) rfl sfz sfz hx,iFo hS hJ (p_Join hJ (xs:=(l.drop ((Yz (isV ⟨#[41]⟩) l).toNat+1))) (s:=(⟨#[]⟩:ByteArray)) (by simp;omega) (by exact Nat.le_trans (ZgR l _) hs)) ZqC,trivial⟩ ?_
 refine ln 0 fun hl3=>?_
 refine tw (fun h=>Yq hS h (m:=1) (s:=2) rfl) ?_
 exact Zg (fun a w h=>lvP (Zh3  (m:=0) (k:=2) ⟨((l.take (Yz (isV ⟨#[41]⟩) l).toNat).drop 1,Zey (l.drop ((Yz (isV ⟨#[41]⟩) l).toNat+1)) ⟨#[]⟩),Zph e1 (by simpa using hb2)⟩ rfl h rfl rfl (tup2 (congrArg (fun z=>AV.rd (Zb z)) (show((l.take ((Yz (isV ⟨#[41]⟩) l).toNat)).drop 1)=((l.take (Yz (isV ⟨#[41]⟩) l).toNat).drop 1)from by first | rfl | grind[ZF])) (eS (by first | rfl | grind[ZF])))))
theorem Zfa:Zem Tryz.prog 174 [.int .i64 0,.bool false]:=⟨fun i=>(#[(0,1),(1,1)]:Array (Nat×Nat))[i]?,fun j hj=>by rcases j with _ | _ | j<;>first | rfl | (simp at hj;omega),fun parts=>by kernel_rfl⟩
theorem ZkC {J:World→Prop} (hJ:Stab J) (s:ByteArray) (hs:s.size≤1000000000):SeqE Tryz.prog J 136 [] [.ptr [.lit (.string s)]] ZuQ ((YB s).1) (if(YB s).2 then some (flV 21)else none):=by
 refine Zg0 (N:=86) Tryz.func136 rfl rfl (lb rfl) fun S w0 R l κ μ σ I pv O3 O4 k0 hS hJ0 hH hY=>?_
 refine Z6 (B:=St All (SO S (I ([]) k0++R)) w0 86 [(0,.rd (.lit (.func (.yield l) #[] #[]))),(1,.ptr [.lit (.string s)])] (XO J S w0.heap.size (I ([]) k0++R))) ?_ fun a w h=>h
 refine qso tb hJ [0,1,1000,1001] [_,_] [_,_,_,_] ?_
 refine Zj (qso tb hJ [0,1,2,3,1000] [_] [_,_,_,_,_] ?_)
 refine Zf (lpo (ι:=Nat×Int×Bool×(List Lt)×κ) (fun(p,m,ins,pre,_)=>(p≤s.size)∧(0≤m∧m≤1000000)∧(YB s=(pre++(lettersD (s.data.toList.drop p) m ins).1,(lettersD (s.data.toList.drop p) m ins).2))) (fun(_,_,_,pre,kk)=>(I pre kk++R)) (fun(p,m,ins,_,_)=>[(5,.int (p:Nat)),(3,.int m),(4,.bool ins)]) (fun(p,_,_,_,_)=>s.size-p) [0,1,4,2,3] [_,_] (0,0,false,[],k0) ⟨Nat.zero_le _,⟨by omega,by omega⟩,rfl⟩ ?_)
 rintro⟨p,m,ins,pre,kk⟩ ⟨f1_1,f1_2,f1_3⟩
 refine Zj (ZI tb hJ [0,1,2,3,4,1003] [_,_,.int (s.size:Nat),_] [2] [_,_,_,_,_,_] rfl ⟨iLeS Xn,trivial⟩ ?_)
 refine cj 5 (fun hb1=>?_) fun hb1=>?_
 try simp at hb1
 have e1:p<s.data.toList.length:=hb1
 refine Zc (nx (Zj (Zf (ZI tb hJ [0,1,2,3,4,1003] [_,_,.rd (.lit (.int .u8 ((ge s.data.toList p).toNat:Int))),_] [2] [_,_,_,_,_,_] rfl ⟨fun _ _ _ hx hl _=>Zmb (i:=(p:Int)) Xn rfl (hl.D 0 14 rfl rfl) (hl.D 1 15 rfl rfl) (Int.natCast_nonneg _) (ZfN (s:=s) (k:=p) sfz) hx,trivial⟩ ?_))))
 refine Zf (qso tb hJ [0,1,2,3,4,5,1006] [_,_,_,_,_,_,_] [_,_,_,_,_,_,_] ?_)
 refine cj 6 (fun hb2=>?_) fun hb2=>?_
 try simp at hb2
 have e2:85≤(ge s.data.toList p).toNat∧(ge s.data.toList p).toNat≤89:=by omega
 refine Zj (ZI tb hJ [0,1,2,1007] [_,.int ((5:Int)*m),_,.rd (.lit (.int .u8 (((ge s.data.toList p).toNat:Int)-(85:Int)))),.int (((ge s.data.toList p).toNat:Int)-(85:Int)),.int ((5:Int)*m+(((ge s.data.toList p).toNat:Int)-(85:Int))),.int ((5:Int)*m+(((ge s.data.toList p).toNat:Int)-(85:Int))+(1:Int)),_] [1,3,4,5,6] [_,_,_,_] rfl ⟨fun _ _ _ hx hl _=>r_mul (i:=(5:Int)) (j:=m) rfl (Rel.of_lit (Go.Value.int Go.IntKind.i64 5)) (hl.D 0 25 rfl rfl) sfz sfz hx,fun _ _ _ hx hl _=>Zrk (i:=((ge s.data.toList p).toNat:Int)) (j:=(85:Int)) rfl (hl.D 2 27 rfl rfl) (Rel.of_lit (Go.Value.int Go.IntKind.u8 85)) sfz sfz hx,fun _ _ _ hx hl _=>Zi4 (i:=((ge s.data.toList p).toNat:Int)-(85:Int)) ZbT X9 rfl (hl.D 3 28 rfl rfl) sfz sfz hx,Yv,Yv,trivial⟩ ?_)
 refine qso tb hJ [0,1,2,3,1001] [_,_] [_,_,_,_,_] ?_
 refine cj 4 (fun hb3=>?_) fun hb3=>?_
 try simp at hb3
 have e7:=let_U (n:=m) (ins:=ins) e1 e2
 rw[if_pos (by omega)]at e7
 refine Zw (XX (O:=[]) (R:=(I pre kk++R)) (Qj hJ (c:=(21:Int)) ) YT rfl rfl rfl (lb rfl) hS hJ0 Zq (fun a w h=>(Za (Rel.of_lit (Go.Value.int Go.IntKind.i64 21)) Ze)) (fun _=>?_) (fun i=>i.elim))
 exact Zju (by rw[f1_3,e7];rfl) (by rw[f1_3,e7];simp) kk
 try simp at hb3
 have e7:=let_U (n:=m) (ins:=ins) e1 e2
 rw[if_neg (by omega)]at e7
 refine Zc (nx (qpo tb hJ [0,1,2,3,1000] [_] [_,_,_,_,_] ?_))
 refine nx (YQ tb hJ [0,1,3,4,1002] [_,.int (p+1:Nat),_] [1] [_,_,_,_,_] rfl ⟨Yv,trivial⟩ ?_)
 exact Xi (p+1,(5:Int)*m+(((ge s.data.toList p).toNat:Int)-(85:Int))+(1:Int),true,pre,kk) [0,1,4,2,3] ⟨by omega,⟨by omega,by omega⟩,by rw[f1_3,e7]⟩
 try simp at hb2
 have e2:¬ (85≤(ge s.data.toList p).toNat∧(ge s.data.toList p).toNat≤89):=by omega
 refine qso tb hJ [0,1,2,3,4,5,1006] [_,_,_,_,_,_,_] [_,_,_,_,_,_,_] ?_
 refine cj 6 (fun hb4=>?_) fun hb4=>?_
 try simp at hb4
 have e4:65≤(ge s.data.toList p).toNat∧(ge s.data.toList p).toNat≤84:=by omega
 refine Zj (ZI tb hJ [0,1,2,1007] [_,.int ((20:Int)*m),_,.rd (.lit (.int .u8 (((ge s.data.toList p).toNat:Int)-(65:Int)))),.int (((ge s.data.toList p).toNat:Int)-(65:Int)),.int ((20:Int)*m+(((ge s.data.toList p).toNat:Int)-(65:Int))),.int ((20:Int)*m+(((ge s.data.toList p).toNat:Int)-(65:Int))+(1:Int)),_] [1,3,4,5,6] [_,_,_,_] rfl ⟨fun _ _ _ hx hl _=>r_mul (i:=(20:Int)) (j:=m) rfl (Rel.of_lit (Go.Value.int Go.IntKind.i64 20)) (hl.D 0 42 rfl rfl) sfz sfz hx,fun _ _ _ hx hl _=>Zrk (i:=((ge s.data.toList p).toNat:Int)) (j:=(65:Int)) rfl (hl.D 2 44 rfl rfl) (Rel.of_lit (Go.Value.int Go.IntKind.u8 65)) sfz sfz hx,fun _ _ _ hx hl _=>Zi4 (i:=((ge s.data.toList p).toNat:Int)-(65:Int)) ZbT X9 rfl (hl.D 3 45 rfl rfl) sfz sfz hx,Yv,Yv,trivial⟩ ?_)
 refine qso tb hJ [0,1,2,3,1001] [_,_] [_,_,_,_,_] ?_
 refine cj 4 (fun hb5=>?_) fun hb5=>?_
 try simp at hb5
 have e7:=Zth (n:=m) (ins:=ins) e1 e2 e4 (by omega)
 refine Zw (XX (O:=[]) (R:=(I pre kk++R)) (Qj hJ (c:=(21:Int)) ) YT rfl rfl rfl (lb rfl) hS hJ0 Zq (fun a w h=>(Za (Rel.of_lit (Go.Value.int Go.IntKind.i64 21)) Ze)) (fun _=>?_) (fun i=>i.elim))
 exact Zju (by rw[f1_3,e7];rfl) (by rw[f1_3,e7];simp) kk
 try simp at hb5
 refine Zc (nx (tsq ?_))
 refine snK 1 tb rfl ?_
 refine sq (.agg (ltC (⟨(20:Int)*m+(((ge s.data.toList p).toNat:Int)-(65:Int))+(1:Int),false⟩:Lt))) rfl rfl (lb rfl) (fun a _ h=>Xk (ps:=[(0,a.eval (Go.Operand.tmp 52))]) (us:=[a.eval (Go.Operand.tmp 52),.bool false]) Zfa rfl (by simp) (ZjY (lb rfl) (Rel.oneC (h.get 0 rfl)) ZjZ) rfl (Zz (h.get 0 rfl) (XU (.lit _ True.intro) Yb)) h.x) ?_
 refine ZP Zht hJ rfl rfl rfl (lb rfl) fun b5=>?_
 refine ZE (b:=b5) (off:=0) (cs:=[.lit (.int .i64 0),.lit (.bool false)]) (es:=[.lit (.int .i64 ((⟨(20:Int)*m+(((ge s.data.toList p).toNat:Int)-(65:Int))+(1:Int),false⟩:Lt).number)),.lit (.bool ((⟨(20:Int)*m+(((ge s.data.toList p).toNat:Int)-(65:Int))+(1:Int),false⟩:Lt).tagged))]) (news:=[.lit (.int .i64 ((⟨(20:Int)*m+(((ge s.data.toList p).toNat:Int)-(65:Int))+(1:Int),false⟩:Lt).number)),.lit (.bool ((⟨(20:Int)*m+(((ge s.data.toList p).toNat:Int)-(65:Int))+(1:Int),false⟩:Lt).tagged))]) hJ hJ0 Zkk rfl rfl rfl (lb rfl) rfl (fun a w h=>⟨(h.get 0 rfl),(h.get 1 rfl)⟩) ?_
 refine seK [0,3,4,5] [_,_,_,_] rfl ?_
 refine nx (Zj (ZI tb hJ [0,1,2,3,1011] [_,.int (p+1:Nat),_,.int (s.size:Nat),_,_,_,_,.int (p+1:Nat),.rd (.lit (.int .u8 ((ge s.data.toList (p+1)).toNat:Int))),_,_] [1,3,8,9] [_,_,_,_,_] rfl ⟨Yv,iLeS Xn,fun _ _ _ hx hl hc=>Zgm (i:=(p:Int)) (j:=(1:Int)) rfl (hl.D 7 61 rfl hc) (Rel.of_lit (Go.Value.int Go.IntKind.i64 1)) (by have hc':((decide (((p+1:Nat):Int)< (s.size:Int)))==true)=true:=hc;(try simp at hc');(first | omega | (simp;omega) | grind[ZF])) (by have hc':((decide (((p+1:Nat):Int)< (s.size:Int)))==true)=true:=hc;(try simp at hc');(first | omega | (simp;omega) | grind[ZF])) hx,fun _ _ _ hx hl hc=>Zmb (i:=((p+1:Nat):Int)) Xn rfl (hl.D 6 60 rfl hc) (hl.D 8 62 rfl hc) (Int.natCast_nonneg _) (ZfN (s:=s) (k:=p+1) (by have hc':((decide (((p+1:Nat):Int)< (s.size:Int)))==true)=true:=hc;(try simp at hc');(first | omega | (simp;omega) | grind[ZF]))) hx,trivial⟩ ?_))
 refine cj 4 (fun hb6=>?_) fun hb6=>?_
 try simp at hb6
 have e0:s.data.toList.length=s.size:=rfl
 have e6:p+1<s.data.toList.length∧(ge s.data.toList (p+1)).toNat=90:=⟨by omega,by omega⟩
 have e7:=let_Z (n:=m) (ins:=ins) e1 e2 e4 (by omega) e6.1 e6.2
 refine tsq ?_
 refine sq (.at b5 1) rfl rfl (lb rfl) (fun _ _ h=>Zm Zia rfl (h.get 0 rfl) h.x) ?_
 refine ZJ (b:=b5) (off:=1) (cs:=[.lit (.int .i64 ((⟨(20:Int)*m+(((ge s.data.toList p).toNat:Int)-(65:Int))+(1:Int),false⟩:Lt).number)),.lit (.bool ((⟨(20:Int)*m+(((ge s.data.toList p).toNat:Int)-(65:Int))+(1:Int),false⟩:Lt).tagged))]) (es:=[.lit (.int .i64 ((⟨(20:Int)*m+(((ge s.data.toList p).toNat:Int)-(65:Int))+(1:Int),false⟩:Lt).number)),.lit (.bool true)]) hJ hJ0 QO rfl rfl rfl (lb rfl) rfl (fun a w h=>⟨(h.get 0 rfl),(Rel.of_lit (Go.Value.bool true))⟩) ?_
 refine seK [1,2,3,4] [_,_,_,_] rfl ?_
 refine nx (YQ tb hJ [0,1,2,1002] [_,.int (p+1:Nat),_] [1] [_,_,_,_] rfl ⟨Yv,trivial⟩ ?_)
 refine nx (qso tb hJ [0,1,2,3,1000,1001] [_,_] [_,_,_,_,_,_] ?_)
 refine tsq ?_
 refine snK 1 tb rfl ?_
 refine sq (.agg [.lit (.int .i64 ((⟨(20:Int)*m+(((ge s.data.toList p).toNat:Int)-(65:Int))+(1:Int),false⟩:Lt).number)),.lit (.bool true)]) rfl rfl (lb rfl) (fun _ _ h=>YI (cs:=[.lit (.int .i64 ((⟨(20:Int)*m+(((ge s.data.toList p).toNat:Int)-(65:Int))+(1:Int),false⟩:Lt).number)),.lit (.bool true)]) (ds:=[.lit (.int .i64 ((⟨(20:Int)*m+(((ge s.data.toList p).toNat:Int)-(65:Int))+(1:Int),false⟩:Lt).number)),.lit (.bool true)]) Zhm rfl (Zd h.x (mo 0 rfl)) (h.get 1 rfl) rfl rfl h.x) ?_
 refine kw (ZlL [OB.var b5 [.lit (.int .i64 ((⟨(20:Int)*m+(((ge s.data.toList p).toNat:Int)-(65:Int))+(1:Int),false⟩:Lt).number)),.lit (.bool true)]]) ?_
 refine Zc9 (O:=I pre kk) (R:=([OB.var b5 [.lit (.int .i64 ((⟨(20:Int)*m+(((ge s.data.toList p).toNat:Int)-(65:Int))+(1:Int),false⟩:Lt).number)),.lit (.bool true)]]++R)) (v:=ZuQ (⟨(⟨(20:Int)*m+(((ge s.data.toList p).toNat:Int)-(65:Int))+(1:Int),false⟩:Lt).number,true⟩:Lt)) rfl rfl rfl rfl (lb rfl) (fun a w h=>(h.get 1 rfl).lit) (fun a w h=>Zl2 (x:=(⟨(⟨(20:Int)*m+(((ge s.data.toList p).toNat:Int)-(65:Int))+(1:Int),false⟩:Lt).number,true⟩:Lt)) (h.get 0 rfl)) (fun m' R' w1 hk hx=>hY m' R' pre (⟨(⟨(20:Int)*m+(((ge s.data.toList p).toNat:Int)-(65:Int))+(1:Int),false⟩:Lt).number,true⟩:Lt) kk w1 (by rw[f1_3,e7];exact pfx) hk hx) (fun q=>Znk [OB.var b5 [.lit (.int .i64 ((⟨(20:Int)*m+(((ge s.data.toList p).toNat:Int)-(65:Int))+(1:Int),false⟩:Lt).number)),.lit (.bool true)]] q) (fun s6=>?_) (fun z7=>?_)
 refine kw (Zdz [OB.var b5 [.lit (.int .i64 ((⟨(20:Int)*m+(((ge s.data.toList p).toNat:Int)-(65:Int))+(1:Int),false⟩:Lt).number)),.lit (.bool true)]]) ?_
 refine snK 1 tb rfl ?_
 refine seK [0,5,6,7,8,9] [_,_,_,_,_,_] rfl ?_
 refine nx (cj 0 (fun hb7=>?_) fun hb7=>?_)
 try simp at hb7
 refine tw Zy ?_
 exact Zg (fun a w h=>Zjt s6 rfl h)
 exact False.elim (by simp at hb7)
 refine kw (Zdz [OB.var b5 [.lit (.int .i64 ((⟨(20:Int)*m+(((ge s.data.toList p).toNat:Int)-(65:Int))+(1:Int),false⟩:Lt).number)),.lit (.bool true)]]) ?_
 refine snK 1 tb rfl ?_
 refine seK [0,5,6,7,8,9] [_,_,_,_,_,_] rfl ?_
 refine nx (cj 0 (fun hb7=>?_) fun hb7=>?_)
 exact False.elim (by simp at hb7)
 try simp at hb7
 refine Zc (nx (YQ tb hJ [1,2,4,5,1002] [_,.int (p+1+1:Nat),_] [1] [_,_,_,_,_] rfl ⟨Yv,trivial⟩ ?_))
 refine kw Zy ?_
 exact Xi (p+1+1,0,false,(pre++[(⟨(⟨(20:Int)*m+(((ge s.data.toList p).toNat:Int)-(65:Int))+(1:Int),false⟩:Lt).number,true⟩:Lt)]),z7) [0,1,4,2,3] ⟨by omega,⟨by omega,by omega⟩,by rw[f1_3,e7];simp⟩
 try simp at hb6
 have e0:s.data.toList.length=s.size:=rfl
 have e6:¬ (p+1<s.data.toList.length∧(ge s.data.toList (p+1)).toNat=90):=by omega
 have e7:=let_N (n:=m) (ins:=ins) e1 e2 e4 (by omega) e6
 refine Zc (nx (qso tb hJ [0,1,2,3,1000,1001] [_,_] [_,_,_,_,_,_] ?_))
 refine tsq ?_
 refine snK 1 tb rfl ?_
 refine sq (.agg (ltC (⟨(20:Int)*m+(((ge s.data.toList p).toNat:Int)-(65:Int))+(1:Int),false⟩:Lt))) rfl rfl (lb rfl) (fun _ _ h=>YI (cs:=[.lit (.int .i64 ((⟨(20:Int)*m+(((ge s.data.toList p).toNat:Int)-(65:Int))+(1:Int),false⟩:Lt).number)),.lit (.bool ((⟨(20:Int)*m+(((ge s.data.toList p).toNat:Int)-(65:Int))+(1:Int),false⟩:Lt).tagged))]) (ds:=[.lit (.int .i64 ((⟨(20:Int)*m+(((ge s.data.toList p).toNat:Int)-(65:Int))+(1:Int),false⟩:Lt).number)),.lit (.bool ((⟨(20:Int)*m+(((ge s.data.toList p).toNat:Int)-(65:Int))+(1:Int),false⟩:Lt).tagged))]) Zhm rfl (Zd h.x (mo 0 rfl)) (h.get 1 rfl) rfl rfl h.x) ?_
 refine kw (ZlL [OB.var b5 [.lit (.int .i64 ((⟨(20:Int)*m+(((ge s.data.toList p).toNat:Int)-(65:Int))+(1:Int),false⟩:Lt).number)),.lit (.bool ((⟨(20:Int)*m+(((ge s.data.toList p).toNat:Int)-(65:Int))+(1:Int),false⟩:Lt).tagged))]]) ?_
 refine Zc9 (O:=I pre kk) (R:=([OB.var b5 [.lit (.int .i64 ((⟨(20:Int)*m+(((ge s.data.toList p).toNat:Int)-(65:Int))+(1:Int),false⟩:Lt).number)),.lit (.bool ((⟨(20:Int)*m+(((ge s.data.toList p).toNat:Int)-(65:Int))+(1:Int),false⟩:Lt).tagged))]]++R)) (v:=ZuQ (⟨(20:Int)*m+(((ge s.data.toList p).toNat:Int)-(65:Int))+(1:Int),false⟩:Lt)) rfl rfl rfl rfl (lb rfl) (fun a w h=>(h.get 1 rfl).lit) (fun a w h=>Zl2 (x:=(⟨(20:Int)*m+(((ge s.data.toList p).toNat:Int)-(65:Int))+(1:Int),false⟩:Lt)) (h.get 0 rfl)) (fun m' R' w1 hk hx=>hY m' R' pre (⟨(20:Int)*m+(((ge s.data.toList p).toNat:Int)-(65:Int))+(1:Int),false⟩:Lt) kk w1 (by rw[f1_3,e7];exact pfx) hk hx) (fun q=>Znk [OB.var b5 [.lit (.int .i64 ((⟨(20:Int)*m+(((ge s.data.toList p).toNat:Int)-(65:Int))+(1:Int),false⟩:Lt).number)),.lit (.bool ((⟨(20:Int)*m+(((ge s.data.toList p).toNat:Int)-(65:Int))+(1:Int),false⟩:Lt).tagged))]] q) (fun s8=>?_) (fun z9=>?_)
 refine kw (Zdz [OB.var b5 [.lit (.int .i64 ((⟨(20:Int)*m+(((ge s.data.toList p).toNat:Int)-(65:Int))+(1:Int),false⟩:Lt).number)),.lit (.bool ((⟨(20:Int)*m+(((ge s.data.toList p).toNat:Int)-(65:Int))+(1:Int),false⟩:Lt).tagged))]]) ?_
 refine snK 1 tb rfl ?_
 refine seK [0,5,6,7,8,9] [_,_,_,_,_,_] rfl ?_
 refine nx (cj 0 (fun hb7=>?_) fun hb7=>?_)
 try simp at hb7
 refine tw Zy ?_
 exact Zg (fun a w h=>Zjt s8 rfl h)
 exact False.elim (by simp at hb7)
 refine kw (Zdz [OB.var b5 [.lit (.int .i64 ((⟨(20:Int)*m+(((ge s.data.toList p).toNat:Int)-(65:Int))+(1:Int),false⟩:Lt).number)),.lit (.bool ((⟨(20:Int)*m+(((ge s.data.toList p).toNat:Int)-(65:Int))+(1:Int),false⟩:Lt).tagged))]]) ?_
 refine snK 1 tb rfl ?_
 refine seK [0,5,6,7,8,9] [_,_,_,_,_,_] rfl ?_
 refine nx (cj 0 (fun hb7=>?_) fun hb7=>?_)
 exact False.elim (by simp at hb7)
 try simp at hb7
 refine Zc (nx (YQ tb hJ [1,2,4,5,1002] [_,.int (p+1:Nat),_] [1] [_,_,_,_,_] rfl ⟨Yv,trivial⟩ ?_))
 refine kw Zy ?_
 exact Xi (p+1,0,false,(pre++[(⟨(20:Int)*m+(((ge s.data.toList p).toNat:Int)-(65:Int))+(1:Int),false⟩:Lt)]),z9) [0,1,4,2,3] ⟨by omega,⟨by omega,by omega⟩,by rw[f1_3,e7];simp⟩
 try simp at hb4
 have e4:¬ (65≤(ge s.data.toList p).toNat∧(ge s.data.toList p).toNat≤84):=by omega
 refine qso tb hJ [0,1,2,3,4,1006] [_,_,_,_,_,_,_] [_,_,_,_,_,_] ?_
 refine cj 5 (fun hb8=>?_) fun hb8=>?_
 try simp at hb8
 have e7:=let_Q (n:=m) e1 e2 e4 (by omega) hb8.2
 refine tsq ?_
 refine snK 1 tb rfl ?_
 refine sq (.agg (ltC (⟨0,false⟩:Lt))) rfl rfl (lb rfl) (fun _ _ h=>Xk (ps:=[]) (us:=[.int .i64 0,.bool false]) Zfa rfl (by simp) ZjZ rfl (XU (.lit _ True.intro) (XU (.lit _ True.intro) Yb)) h.x) ?_
 refine Zc9 (O:=I pre kk) (R:=R) (v:=ZuQ (⟨0,false⟩:Lt)) rfl rfl rfl rfl (lb rfl) (fun a w h=>(h.get 1 rfl).lit) (fun a w h=>Zl2 (x:=(⟨0,false⟩:Lt)) (h.get 0 rfl)) (fun m' R' w1 hk hx=>hY m' R' pre (⟨0,false⟩:Lt) kk w1 (by rw[f1_3,e7];exact pfx) hk hx) (fun q=>itPan q) (fun s10=>?_) (fun z11=>?_)
 refine snK 1 tb rfl ?_
 refine seK [0,4,5,6,7,8] [_,_,_,_,_,_] rfl ?_
 refine nx (cj 0 (fun hb9=>?_) fun hb9=>?_)
 try simp at hb9
 exact Zg (fun a w h=>Zjt s10 rfl h)
 exact False.elim (by simp at hb9)
 refine snK 1 tb rfl ?_
 refine seK [0,4,5,6,7,8] [_,_,_,_,_,_] rfl ?_
 refine nx (cj 0 (fun hb9=>?_) fun hb9=>?_)
 exact False.elim (by simp at hb9)
 try simp at hb9
 refine Zc (nx (YQ tb hJ [1,2,4,5,1002] [_,.int (p+1:Nat),_] [1] [_,_,_,_,_] rfl ⟨Yv,trivial⟩ ?_))
 exact Xi (p+1,m,ins,(pre++[(⟨0,false⟩:Lt)]),z11) [0,1,4,2,3] ⟨by omega,⟨by omega,by omega⟩,by rw[f1_3,e7];simp⟩
 try simp at hb8
 have e7:=Zti (n:=m) (ins:=ins) e1 e2 e4 (by grind)
 refine Zw (XX (O:=[]) (R:=(I pre kk++R)) (Qj hJ (c:=(21:Int)) ) YT rfl rfl rfl (lb rfl) hS hJ0 Zq (fun a w h=>(Za (Rel.of_lit (Go.Value.int Go.IntKind.i64 21)) Ze)) (fun _=>?_) (fun i=>i.elim))
 exact Zju (by rw[f1_3,e7];rfl) (by rw[f1_3,e7];simp) kk
 try simp at hb1
 have e1:¬ p<s.data.toList.length:=by have h9:s.size=s.data.toList.length:=rfl;omega
 refine Zx (nx (qso tb hJ [1000] [_] [_] ?_))
 refine cj 0 (fun hb10=>?_) fun hb10=>?_
 try simp at hb10
 have e7:=Zm9 (n:=m) (ins:=ins) e1
 refine Zw (XX (O:=[]) (R:=(I pre kk++R)) (Qj hJ (c:=(21:Int)) ) YT rfl rfl rfl (lb rfl) hS hJ0 Zq (fun a w h=>(Za (Rel.of_lit (Go.Value.int Go.IntKind.i64 21)) Ze)) (fun _=>?_) (fun i=>i.elim))
 exact Zju (by rw[f1_3,e7,hb10];rfl) (by rw[f1_3,e7];simp) kk
 try simp at hb10
 have e7:=Zm9 (n:=m) (ins:=ins) e1
 exact Zc (fun a w h=>ZrF (by rw[f1_3,e7,hb10];rfl) (by rw[f1_3,e7];simp) kk rfl h)
theorem ZmD {J:World→Prop} (hJ:Stab J) (s:ByteArray)  :Fn Tryz.prog J 111 [.str s] (.fn 136 [.ptr [.lit (.string s)]]):=by
 refine Zu (N:=4) Tryz.func111 rfl rfl (lb rfl) fun S w0 hS hJ0=>?_
 clear hJ0
 refine hqs tb hJ [1000] [.ptr [.lit (.string s)],_] [0] [_] rfl ⟨fun _ _ hk hx hl _=>ZbA rfl (hl.env 0 0 _ rfl rfl) (hS _ hk.size) (js hJ hx),trivial⟩ ?_
 refine hqs tb hJ [1001] [.fn 136 [.ptr [.lit (.string s)]],_] [0] [_] rfl ⟨fun _ _ _ hx hl _=>Xy (caps:=[(Go.Operand.tmp 1)]) rfl (Za (hl.env 0 1 _ rfl rfl) Ze) hx,trivial⟩ ?_
 exact Zg (rtn (m:=0) rfl rfl rfl)
theorem Zpk {J:World→Prop} (hJ:Stab J) (h:Hy) (s:ByteArray)  :Fn Tryz.prog J 109 [.agg (hyC h),.ptr [.lit (.string s)]] (.bool (decide (h.label=s))):=by
 refine Zu (N:=8) Tryz.func109 rfl rfl (lb rfl) fun S w0 hS hJ0=>?_
 clear hJ0
 refine hqs tb hJ [1,1000] [.ptr (hyC h),_] [0] [_,_] rfl ⟨fun _ _ hk hx hl _=>YP rfl (hl.env 0 0 _ rfl rfl) (hS _ hk.size) (js hJ hx),trivial⟩ ?_
 refine qs tb hJ [1004] [_,_,_,_,_] [_] ?_
 exact Zg (rtn (m:=0) rfl rfl rfl)
theorem ZsN {J:World→Prop} (hJ:Stab J) (b:Nat) (d:Db) (f:Fr) (M:Nat) (vi:Value) (vs:Value) (vt:Value) (n:Nat) (kn:Bool) (y1:Int) (y2:Int) (s:ByteArray)  :FnR Tryz.prog J 108 [OB.var b (mkR d f M vi vs vt n kn y1 y2)] [.str s,.ptr [.lit (.pointer (some ⟨b,0,none⟩))]] (.bool (f.hyps.any fun h=>decide (h.label=s))):=by
 refine Z9 (N:=11) Tryz.func108 rfl rfl (lb rfl) fun S w0 hS hJ0 hH=>?_
 refine tw Yj ?_
 refine ZI tb hJ [1,1000] [.ptr [.lit (.string s)],_] [0] [_,_] rfl ⟨fun _ _ hk hx hl _=>ZbA rfl (hl.env 0 0 _ rfl rfl) (Zr hS _ hk hx _ (Nat.le_refl _)) (jo hJ hx),trivial⟩ ?_
 refine ZI tb hJ [1004,1007] [_,.at b 0,.at b 3,.at b 5,.rd (YW f.hyps),.fn 109 [.ptr [.lit (.string s)]],.bool (f.hyps.any (fun h'=>decide (h'.label=s))),_] [1,2,3,4,5,6] [_,_] rfl ⟨fun _ _ _ hx hl _=>Zk rfl (hl.D 0 4 rfl rfl) hx,fun _ _ _ hx hl _=>Zm Qe rfl (hl.D 1 5 rfl rfl) hx,fun _ _ _ hx hl _=>Zm Zbl rfl (hl.D 2 6 rfl rfl) hx,fun _ _ hk hx hl _=>Zo (cs:=(mkR d f M vi vs vt n kn y1 y2)) ZgD rfl (Yf hH hk hx (mo 0 rfl)) (hl.D 3 7 rfl rfl) rfl hx,fun _ _ _ hx hl _=>Xy (caps:=[(Go.Operand.tmp 2)]) rfl (Za (hl.env 1 2 _ rfl rfl) Ze) hx,fun _ _ hk hx hl _=>Y9 (ZaV hJ (xs:=f.hyps) (f:=109) (caps:=[.ptr [.lit (.string s)]]) (Os:=[]) (p:=(fun h'=>decide (h'.label=s))) (fun q'=>(Zpk hJ q' s).r) (ZqH)) Zn2 rfl (Zr hS _ hk hx) (hx.1) Zq (Za (hl.D 4 8 rfl rfl) (Za (hl.D 5 9 rfl rfl) Ze)) (jo hJ hx),trivial⟩ ?_
 refine ln 0 fun hl1=>?_
 exact Zg (Qw (m:=1) rfl rfl (eB (by first | rfl | grind[ZF])))
theorem ZmI {J:World→Prop} (hJ:Stab J) (d:Db) (z:Int) (hw:∀ f∈d.frames,f.wide.length*32≤140737488351232) (hG:X8 J):Fn Tryz.prog J 24 [.agg (dbC d),.int z] (.int (QZ d z)):=by
 refine Zu (N:=20) Tryz.func24 rfl rfl (lb rfl) fun S w0 hS hJ0=>?_
 refine tw Yj ?_
 refine ZI tb hJ [1,1000] [.ptr (dbC d),_] [0] [_,_] rfl ⟨fun _ _ hk hx hl _=>YP rfl (hl.env 0 0 _ rfl rfl) (Zr hS _ hk hx _ (Nat.le_refl _)) (jo hJ hx),trivial⟩ ?_
 refine Zj (ZI tb hJ [0,1,1002] [_,.int (Qf d),_] [1] [_,_,_] rfl ⟨iFo hS hJ (Zfr hJ (d:=d) (by exact hw) (by exact hG)) ZjM,trivial⟩ ?_)
 refine qso tb hJ [0,1,2,1001] [_,_] [_,_,_,_] ?_
 refine cj 3 (fun hb1=>?_) fun hb1=>?_
 try simp at hb1
 refine qso tb hJ [1001] [_,_] [_] ?_
 exact Zg (Qw (m:=0) rfl rfl (eI (by simp[QZ,hb1])))
 try simp at hb1
 refine Zc (nx (Zj (ZI tb hJ [1008] [_,_,_,_,_,_,.int (d.frames.length:Nat),_,_] [6] [_] rfl ⟨YG YK,trivial⟩ ?_)))
 refine cj 0 (fun hb2=>?_) fun hb2=>?_
 try simp at hb2
 refine qso tb hJ [1000] [_] [_] ?_
 exact Zg (Qw (m:=0) rfl rfl (eI (by simp only[QZ];rw[if_neg (by simpa using hb1),if_pos (by simpa using hb2)])))
 try simp at hb2
 refine Zc (nx (qso tb hJ [1000] [_] [_] ?_))
 exact Zg (Qw (m:=0) rfl rfl (eI (by simp only[QZ];rw[if_neg (by simpa using hb1),if_neg (by simpa using hb2)])))
end Go.Proofs.YtapelgeodldlcaaGreatDoor
namespace Go.Proofs.YtapelgeodldlcaaGreatDoor
def tgN (l:List Lt):Nat:=(l.filter (·.tagged)).length
theorem QM (l:List Lt) (x:Lt):tgN (l++[x])=if x.tagged=true then tgN l+1 else tgN l:=by
 unfold tgN
 rw[List.filter_append,List.length_append]
 by_cases h:x.tagged=true<;>simp[h]
theorem ZoL (l:List Lt) (x:Lt):tgN (x::l)=if x.tagged=true then tgN l+1 else tgN l:=by
 unfold tgN
 rw[List.filter_cons]
 by_cases h:x.tagged=true<;>simp[h]
section
variable {f:Fr} {L:List (ByteArray×Int)} {lb:List ByteArray}
theorem ZdZ (l r:List Lt):∀ t,Yd f L lb (l++r) t=match Yd f L lb l t with
 | none=>none
 | some xs=>match Yd f L lb r (t+tgN l)with
  | none=>none
  | some ys=>some (xs++ys):=by
 induction l with
 | nil=>intro t;simp only[List.nil_append,Yd,tgN,List.filter_nil,List.length_nil,Nat.add_zero];cases Yd f L lb r t<;>rfl
 | cons x l ih=>
  intro t
  simp only[List.cons_append,Yd]
  cases h1:QG f L lb t x with
  | none=>rfl
  | some y=>
   simp only
   rw[ih,ZoL]
   cases h2:Yd f L lb l (if x.tagged=true then t+1 else t)with
   | none=>rfl
   | some xs=>
    simp only
    have e:(if x.tagged=true then t+1 else t)+tgN l=t+(if x.tagged=true then tgN l+1 else tgN l):=by split<;>omega
    rw[e]
    cases h3:Yd f L lb r (t+if x.tagged=true then tgN l+1 else tgN l)<;>simp
theorem XR {l:List Lt} {x:Lt} {ys:List Itm} {y:Itm} (h:Yd f L lb l 0=some ys) (h2:QG f L lb (tgN l) x=some y):Yd f L lb (l++[x]) 0=some (ys++[y]):=by
 rw[ZdZ,h]
 simp[Yd,h2]
theorem Zni {l:List Lt} {x:Lt} {ys:List Itm} {xs:List Lt} (hp:(l++[x])<+:xs) (h:Yd f L lb l 0=some ys) (h2:QG f L lb (tgN l) x=none):Yd f L lb xs 0=none:=by
 obtain⟨r,rfl⟩:=hp
 rw[ZdZ,ZdZ,h]
 simp[Yd,h2]
theorem item_0 {tg:Nat} {x:Lt} (h:x.number=0):QG f L lb tg x=some ⟨0,[],0,x.tagged⟩:=by rw[QG,if_pos h]
theorem item_1 {tg:Nat} {x:Lt} (h:¬ x.number=0) (h1:x.number≤f.hyps.length):QG f L lb tg x=some ⟨1,(ge f.hyps (x.number-1).toNat).text,0,x.tagged⟩:=by rw[QG,if_neg h,if_pos h1]
theorem item_2 {tg:Nat} {x:Lt} (h:¬ x.number=0) (h1:¬ x.number≤f.hyps.length) (h2:x.number≤((f.hyps.length+lb.length:Nat):Int)):QG f L lb tg x=some ⟨(ZY f L (ge lb (x.number-1-f.hyps.length).toNat)).kind,(ZY f L (ge lb (x.number-1-f.hyps.length).toNat)).text,(ZY f L (ge lb (x.number-1-f.hyps.length).toNat)).number,x.tagged⟩:=by
 rw[QG,if_neg h,if_neg h1,if_pos h2]
theorem item_4 {tg:Nat} {x:Lt} (h:¬ x.number=0) (h1:¬ x.number≤f.hyps.length) (h2:¬ x.number≤((f.hyps.length+lb.length:Nat):Int)) (h3:x.number≤((f.hyps.length+lb.length+tg:Nat):Int)):QG f L lb tg x=some ⟨4,[],x.number-1-f.hyps.length-lb.length,x.tagged⟩:=by
 rw[QG,if_neg h,if_neg h1,if_neg h2,if_pos h3]
theorem Ztl {tg:Nat} {x:Lt} (h:¬ x.number=0) (h1:¬ x.number≤f.hyps.length) (h2:¬ x.number≤((f.hyps.length+lb.length:Nat):Int)) (h3:¬ x.number≤((f.hyps.length+lb.length+tg:Nat):Int)):QG f L lb tg x=none:=by
 rw[QG,if_neg h,if_neg h1,if_neg h2,if_neg h3]
variable {t:List ByteArray}
theorem ZsE (h:ZaJ t=false) (h2:2000<t.length):YF f L t= .error 10:=by simp[YF,h,h2]
theorem ZeP (h:ZaJ t=false) (h2:¬ 2000<t.length):YF f L t= .ok (t.map (ZY f L)):=by simp[YF,h,h2]
theorem ZsD (h:ZaJ t=true) (h2:XZ t=none):YF f L t= .error 20:=by simp[YF,h,h2]
variable {z:List ByteArray×ByteArray} (h0:ZaJ t=true) (hz:XZ t=some z)
include h0 hz
theorem Zo1 (h:(Zdv z.1||z.1.any fun s=>f.hyps.any fun h=>decide (h.label=s))=true):YF f L t= .error 20:=by
 obtain⟨z1,z2⟩:=z
 simp only[YF,h0,hz,Bool.not_true,Bool.false_eq_true,if_false]
 rw[if_pos h]
variable (hw:(Zdv z.1||z.1.any fun s=>f.hyps.any fun h=>decide (h.label=s))=false)
include hw
theorem Zo2 (h:Yd f L z.1 (YB z.2).1 0=none):YF f L t= .error 21:=by
 obtain⟨z1,z2⟩:=z
 simp only[YF,h0,hz,Bool.not_true,Bool.false_eq_true,if_false]
 rw[if_neg (by rw[hw];decide)]
 simp only at h
 simp[h]
variable {ys:List Itm} (h:Yd f L z.1 (YB z.2).1 0=some ys)
include h
theorem Zl6 (h2:(YB z.2).2=true):YF f L t= .error 21:=by
 obtain⟨z1,z2⟩:=z
 simp only[YF,h0,hz,Bool.not_true,Bool.false_eq_true,if_false]
 rw[if_neg (by rw[hw];decide)]
 simp only at h h2
 simp[h,h2]
theorem Zl5 (h2:(YB z.2).2=false) (h3:2000<ys.length):YF f L t= .error 10:=by
 obtain⟨z1,z2⟩:=z
 simp only[YF,h0,hz,Bool.not_true,Bool.false_eq_true,if_false]
 rw[if_neg (by rw[hw];decide)]
 simp only at h h2
 simp[h,h2,h3]
theorem ZiZ (h2:(YB z.2).2=false) (h3:¬ 2000<ys.length):YF f L t= .ok ys:=by
 obtain⟨z1,z2⟩:=z
 simp only[YF,h0,hz,Bool.not_true,Bool.false_eq_true,if_false]
 rw[if_neg (by rw[hw];decide)]
 simp only at h h2
 simp[h,h2,h3]
end
theorem Zh2:∀(m:Nat) (bs:List UInt8) (n:Int) (ins:Bool),bs.length≤m→(lettersD bs n ins).1.length≤bs.length:=by
 intro m
 induction m with
 | zero=>
  intro bs n ins hm
  have:bs=[]:=List.length_eq_zero_iff.1 (by omega)
  subst this
  simp[lettersD]
 | succ m ih=>
  intro bs n ins hm
  cases bs with
  | nil=>simp[lettersD]
  | cons b r=>
   simp only[List.length_cons]at hm
   rw[QV]
   split
   · split
     · simp
     · have:=ih r (5*n+((b.toNat:Int)-85)+1) true (by omega)
       simp only[List.length_cons];omega
   split
   · split
     · simp
     · split
       · simp
       · rename_i c r'
         simp only[List.length_cons]at hm
         split
         · have:=ih r' 0 false (by omega)
           simp only[List.length_cons];omega
         · have:=ih (c::r') 0 false (by simp only[List.length_cons];omega)
           simp only[List.length_cons]at this ⊢;omega
   split
   · have:=ih r n ins (by omega)
     simp only[List.length_cons];omega
   · simp
theorem Zng (l:List ByteArray) (k:Nat):(Zey (l.drop k) ⟨#[]⟩).size≤ZcZ l:=by
 have:=ZgR l k
 simpa [Zey,ByteArray.size]using this
theorem ZeV {t:List ByteArray} {z:List ByteArray×ByteArray} (h:XZ t=some z):z.2.size≤ZcZ t∧z.1.length≤t.length:=by
 unfold XZ at h
 simp only at h
 split at h
 · cases h
 split at h
 · cases h
 · injection h with h
   subst h
   refine⟨Zng t _,?_⟩
   simp only[List.length_drop,List.length_take]
   omega
theorem ZsB {T:Nat→Prop} {w:World} {x:Lt}:Rel T w (.agg (ltC x)) (ZuQ x):=by
 simp only[Rel]
 exact⟨[.int .i64 x.number,.bool x.tagged],rfl,.lit _ True.intro,.lit _ True.intro,trivial⟩
theorem Zmn {α:Type} {l xs:List α} {x:α} (h:(l++[x])<+:xs):x∈xs∧l.length<xs.length:=by
 obtain⟨r,rfl⟩:=h
 simp
section
variable {d:Db} {n:Nat} {t:List ByteArray} {xs:List Itm} {c:Int}
theorem mch_ok (h:YF (ge d.frames n) (Zaj (d.frames.take n)) t= .ok xs):Zaa d n t=xs∧(ZaH d n t).sk=[]∧(ZaH d n t).tg=[]∧(ZaH d n t).n=0∧(ZaH d n t).kn=(false|| !decide (0<xs.length))∧(ZaH d n t).v.1=(if 0<xs.length then 0 else(Zen (ge d.frames n) [] 0).1)∧(ZaH d n t).v.2=(if 0<xs.length then 0 else(Zen (ge d.frames n) [] 0).2):=by
 unfold Zaa ZaH
 rw[h]
 simp only[X6,Zcq]
 by_cases h0:0<xs.length
 · simp[h0]
 · simp[h0]
theorem Ztc (h:YF (ge d.frames n) (Zaj (d.frames.take n)) t= .error c):Zaa d n t=[]∧(ZaH d n t).sk=[]∧(ZaH d n t).tg=[]∧(ZaH d n t).n=0∧(ZaH d n t).kn=true∧(ZaH d n t).v.1=c∧(ZaH d n t).v.2=0:=by
 unfold Zaa ZaH
 rw[h]
 exact⟨rfl,rfl,rfl,rfl,rfl,rfl,rfl⟩
theorem namL_nil:Zaj (d.frames.take 0)=[]:=by simp[Zaj]
end
end Go.Proofs.YtapelgeodldlcaaGreatDoor
set_option maxHeartbeats 8000000
set_option maxRecDepth 100000
namespace Go.Proofs.YtapelgeodldlcaaGreatDoor
open Go.RowKit
abbrev nmE (f:Fr) (L:List (ByteArray×Int)) (l:List ByteArray) (x:Lt):Itm:=ZY f L (ge l (x.number-(1:Int)-(f.hyps.length:Int)).toNat)
theorem p_read {J:World→Prop} (hJ:Stab J) (b:Nat) (d:Db) (f:Fr) (M:Nat) (L:List (ByteArray×Int)) (vi:Value) (vs:Value) (vt:Value) (n:Nat) (kn:Bool) (y1:Int) (y2:Int) (t:List ByteArray) (ht:∀ h∈f.hyps++f.dummies,h.text.length≤2000) (hh:f.hyps.length≤2000) (hn:t.length≤100000) (hs:ZcZ t≤1000000000):FnP (ι:= {q':Value×List Itm // YF f L t= .ok q'.2}) (κ:= {q:Int×Value×List Itm // YF f L t= .error q.1}) Tryz.prog J 88 [] [.at b 0,.rd (Zb t)] [OB.var b (mkR d f M vi vs vt n kn y1 y2),OB.row vi 147 4 (([]:List Itm).map itC),OB.mI M L] (fun _=>.tup []) (fun i'=>[OB.var b (mkC d f [.lit (.map (some M)),.lit (i'.1.1),.lit vs,.lit vt,.lit (.int .i64 (n:Int)),.lit (.bool kn),.lit (.int .i64 y1),.lit (.int .i64 y2)]),OB.row i'.1.1 147 4 ((i'.1.2).map itC),OB.mI M L]) (fun k'=>flV k'.1.1) (fun k'=>[OB.var b (mkC d f [.lit (.map (some M)),.lit (k'.1.2.1),.lit vs,.lit vt,.lit (.int .i64 (n:Int)),.lit (.bool kn),.lit (.int .i64 y1),.lit (.int .i64 y2)]),OB.row k'.1.2.1 147 4 ((k'.1.2.2).map itC),OB.mI M L]):=by
 refine ZkP (N:=142) Tryz.func88 rfl rfl (lb rfl) fun S w0 R hS hJ0 hH=>?_
 refine atw (B:=St All (SO S (OB.var b (mkR d f M vi vs vt n kn y1 y2)::OB.row vi 147 4 (([]:List Itm).map itC)::OB.mI M L::R)) w0 142 [(0,.at b 0),(1,.rd (Zb t))] (XO J S w0.heap.size (OB.var b (mkR d f M vi vs vt n kn y1 y2)::OB.row vi 147 4 (([]:List Itm).map itC)::OB.mI M L::R))) (fun h=>h) ?_
 refine lnA 1 fun hl1=>?_
 refine ZbD (m:=5) ?_
 refine YQ tb hJ [1,1000] [.ptr [.lit (.pointer (some ⟨b,0,none⟩))]] [0] [_,_] rfl ⟨fun _ _ hk hx hl _=>ZbA rfl (hl.env 0 0 _ rfl rfl) (Zr hS _ hk hx _ (Nat.le_refl _)) (jo hJ hx),trivial⟩ ?_
 refine nxA ?_
 refine ZbD (m:=5) ?_
 refine ZI tb hJ [0,1,1002] [_,.bool (ZaJ t),_] [1] [_,_,_] rfl ⟨iFo hS hJ (Zgt hJ (l:=t) ) ZqK,trivial⟩ ?_
 refine cj 2 (fun hb1=>?_) fun hb1=>?_
 ·
  try simp at hb1
  refine Zj (ZI tb hJ [0,1,1002] [_,.int (t.length:Nat),_] [1] [_,_,_] rfl ⟨YG Zv,trivial⟩ ?_)
  refine cj 2 (fun hb2=>?_) fun hb2=>?_
  ·
   try simp at hb2
   refine Zw (XX (O:=[]) (R:=(OB.var b (mkR d f M vi vs vt n kn y1 y2)::OB.row vi 147 4 (([]:List Itm).map itC)::OB.mI M L::R)) (Qj hJ (c:=(10:Int)) ) YT rfl rfl rfl (lb rfl) hS hJ0 Zq (fun a w h=>(Za (Rel.of_lit (Go.Value.int Go.IntKind.i64 10)) Ze)) (fun _=>?_) (fun i=>i.elim))
   refine ZmL ?_
   exact fun a w h=>pnP (⟨(10,vi,([]:List Itm)),ZsE hb1 (by omega)⟩: {q:Int×Value×List Itm // YF f L t= .error q.1}) rfl a w h
  ·
   try simp at hb2
   refine Zc (nx (Zj (ZI tb hJ [1,1000,1001,1002] [_,.int (t.length:Nat),_] [1] [_,_,_,_] rfl ⟨YG Zv,trivial⟩ ?_)))
   refine Zf (lpo (ι:=Nat×(List Itm)×Value) (fun(k,ys,_)=>(k≤t.length)∧(ys=(t.take k).map (ZY f L))) (fun(_,ys,wv)=>(OB.var b (mkR d f M wv vs vt n kn y1 y2)::OB.row wv 147 4 (ys.map itC)::OB.mI M L::R)) (fun(k,_,_)=>[(23,.int (k:Nat))]) (fun(k,_,_)=>t.length-k) [0,1,2,3] [_,_,_] (0,([]:List Itm),vi) ⟨Nat.zero_le _,rfl⟩ ?_)
   rintro⟨k,ys,wv⟩ ⟨f1_1,f1_2⟩
   refine qso tb hJ [0,1,2,3,1000] [_] [_,_,_,_,_] ?_
   refine cjS 4 (fun hb3=>?_) fun hb3=>?_
   ·
    try simp at hb3
    have e7:ys.length≤2000:=by rw[f1_2];simp;omega
    refine Zc (nx (Zj (Zf (ZI tb hJ [0,1,2,3,1002] [.ptr [.lit (.string (ge t k))],_,_] [0] [_,_,_,_,_] rfl ⟨iIx Zn,trivial⟩ ?_))))
    refine tw pm1 ?_
    refine fun a w h=>YH (OB.var b (mkR d f M wv vs vt n kn y1 y2)::OB.mI M L::R) (γ:=Value) (fun ix'=>([.at b 0,.at b 0,.at b 0,.at b 12,.lit wv,.at b 0,.str (ge t k),.agg (itC (ZY f L (ge t k))),.rd (XL ([(ZY f L (ge t k))])),.any,.at b 0,.at b 12,.any]:List AV).getD ix' .any) (fun _=>true) [(2,fun(g:Value)=>.ptr [.lit (.pointer (some ⟨b,0,none⟩))]),(21,fun(g:Value)=>.rd (Zb t)),(22,fun(g:Value)=>.int (t.length:Nat)),(23,fun(g:Value)=>.int (k:Nat))] (fun(j':Nat) (g:Value)=>match j' with | 0=>(OB.row wv 147 4 (ys.map itC)::OB.var b (mkR d f M wv vs vt n kn y1 y2)::OB.mI M L::R) | 1=>(OB.row g 147 4 ((ys++([(ZY f L (ge t k))])).map itC)::OB.var b (mkR d f M wv vs vt n kn y1 y2)::OB.mI M L::R) | _=>(OB.row g 147 4 ((ys++([(ZY f L (ge t k))])).map itC)::OB.var b (mkR d f M g vs vt n kn y1 y2)::OB.mI M L::R)) (fun(k':Nat) (g:Value)=>match k' with | 0=>g | 1=>undef | _=>undef) [9,12] 1 (.slice none 0 0) (fun _=>rfl) h hJ Yh rfl rfl rfl rfl rfl rfl (fun j' g hj p hp=>by rcases j' with _ | _ | _ | j'<;>first | exact hp | exact List.mem_cons_of_mem _ hp | exact List.mem_cons_of_mem _ (List.mem_cons_of_mem _ hp) | (exfalso;omega)) ⟨?_,⟨?_,⟨?_,⟨?_,⟨?_,⟨?_,⟨?_,⟨?_,⟨?_,⟨?_,⟨?_,⟨?_,⟨?_,trivial⟩⟩⟩⟩⟩⟩⟩⟩⟩⟩⟩⟩⟩ ⟨?e7_1_0,⟨?e7_1_1,trivial⟩⟩ ⟨.old 0 2 _ rfl rfl,⟨.old 1 21 _ rfl rfl,⟨.old 2 22 _ rfl rfl,⟨.old 3 23 _ rfl rfl,trivial⟩⟩⟩⟩ ?n7_1
    exact oX rfl fun hx hl=>ZA ZU rfl (hl.env 0 2 _ rfl rfl) hx
    exact oX rfl fun hx hl=>ZA ZU rfl (hl.env 0 2 _ rfl rfl) hx
    exact oX rfl fun hx hl=>Zk rfl (hl.D 1 28 rfl rfl) hx
    exact oX rfl fun hx hl=>Zm ZH rfl (hl.D 2 29 rfl rfl) hx
    exact fun _ O' hO'=>⟨rfl,fun _ _ _ hx hl _=>Zo (cs:=(mkR d f M wv vs vt n kn y1 y2)) Qp rfl (Zd hx (hO' _ (mo 0 rfl))) (hl.D 3 30 rfl rfl) rfl hx⟩
    exact oX rfl fun hx hl=>ZA ZU rfl (hl.env 0 2 _ rfl rfl) hx
    exact oX rfl fun hx hl=>Yk rfl (hl.env 4 5 _ rfl rfl) hx
    exact fun _ O' hO'=>⟨rfl,fun _ _ hk hx hl _=>Y9 (ZmB hJ (b:=b) (d:=d) (f:=f) (M:=M) (L:=L) (vi:=wv) (vs:=vs) (vt:=vt) (n:=n) (kn:=kn) (y1:=y1) (y2:=y2) (s:=(ge t k)) sfz) ZjR rfl (Zr hS _ hk hx) (hx.1) (ZG (Zd hx (hO' _ (mo 0 rfl))) (ZG (Zd hx (hO' _ (mo 1 rfl))) Zq)) (Za (hl.D 5 32 rfl rfl) (Za (hl.D 6 33 rfl rfl) Ze)) (jo hJ hx)⟩
    exact oY rfl fun hk hx hl=>XF Yi Qr rfl rfl (hl.D 7 34 rfl rfl) (Zr hS _ hk hx _ (Nat.le_refl _)) (jo hJ hx)
    exact Zi rfl
    exact oX rfl fun hx hl=>Zk rfl (hl.D 0 27 rfl rfl) hx
    exact oX rfl fun hx hl=>Zm ZH rfl (hl.D 10 37 rfl rfl) hx
    exact Zi rfl
    case e7_1_0=>exact⟨_,rfl,rfl,rfl,rfl,fun _ _ w hk hx hl _=>Zp (YS (f:=itC) ys ([(ZY f L (ge t k))]) (fun _=>rfl) Y6 hJ hJ0 rfl hk hx (hl.D 4 31 rfl rfl).lit (hl.D 8 35 rfl rfl) sfz sfz) fun v w' hp=>⟨v,rfl,fun k' hk'=>absurd hk' (Nat.not_lt_zero _),fun _=>rfl,hp⟩⟩
    case e7_1_1=>exact⟨_,rfl,rfl,rfl,rfl,fun g _ w hk hx hl hs=>Zp (X2 (off:=12) (cs:=(mkR d f M wv vs vt n kn y1 y2)) (es:=(mkR d f M g vs vt n kn y1 y2)) (c:=.lit g) hJ hJ0 Xe rfl hk hx (hl.D 11 38 rfl rfl) (by rw[(hs 0 9 _ 36 (by omega) rfl rfl rfl)];exact Rel.of_lit _ (Xh (hx.2.1 _ (mo 0 rfl)))) (lb rfl) rfl) fun v w' hp=>⟨g,rfl,fun _ _=>rfl,fun e=>(by cases e),hp⟩⟩
    clear a w h
    intro v3
    dsimp only[List.map]
    refine nx (YQ tb hJ [0,1,2,1001] [.int (k+1:Nat),_] [0] [_,_,_,_] rfl ⟨Yv,trivial⟩ ?_)
    refine kw pm2 ?_
    refine kw pm1 ?_
    refine kw pm2 ?_
    exact Xi (k+1,ys++[ZY f L (ge t k)],v3) [0,1,2,3] ⟨by omega,by rw[Zau hb3,f1_2]⟩
   ·
    try simp at hb3
    refine Zx (nx (Zg (outAk ?_)))
    exact fun a w h=>lvP (Xt  ⟨(wv,ys),by first | (rw[f1_2,ZC (by omega)];exact ZeP hb1 (by omega)) | exact ZiZ (ys:=ys) hb1 z4.2 hb4 r1_ h9 (by omega)⟩ rfl h rfl)
 ·
  try simp at hb1
  refine Zc (nxA ?_)
  refine ZbD (m:=5) ?_
  refine Zw (snK 1 tb rfl ?_)
  refine XX (O:=[]) (R:=(OB.var b (mkR d f M vi vs vt n kn y1 y2)::OB.row vi 147 4 (([]:List Itm).map itC)::OB.mI M L::R)) (ZsP hJ (l:=t) sfz sfz sfz) ZqJ rfl rfl rfl (lb rfl) hS hJ0 Zq (fun a w h=>(Za (h.get 0 rfl) Ze)) (fun k5=>?_) fun z4=>?_
  ·
   refine ZmL ?_
   exact fun a w h=>pnP (⟨(k5.1,vi,([]:List Itm)),by show YF f L t=Except.error k5.1;rw[k5.2.2];exact ZsD hb1 k5.2.1⟩: {q:Int×Value×List Itm // YF f L t= .error q.1}) rfl a w h
  refine snK 3 tb rfl ?_
  refine ZP Zlw hJ rfl rfl rfl (lb rfl) fun b6=>?_
  refine ZJ (b:=b6) (off:=0) (cs:=[Zb ([]:List ByteArray)]) (es:=[Zb z4.1.1]) hJ hJ0 Zf5 rfl rfl rfl (lb rfl) rfl (fun a w h=>⟨(h.get 0 rfl),(h.get 2 rfl)⟩) ?_
  refine snK 1 tb rfl ?_
  refine kw (fun h=>Ym hS h (m:=1) (s:=6) rfl) ?_
  refine seK [0,1,3,8] [_,_,_,_] rfl ?_
  refine nxA ?_
  refine lnA 2 fun hl2=>?_
  refine ZbD (m:=5) ?_
  refine YQ tb hJ [0,1,3,1001] [.fn 108 [.ptr [.lit (.pointer (some ⟨b,0,none⟩))]],_] [0] [_,_,_,_] rfl ⟨fun _ _ _ hx hl _=>Xy (caps:=[(Go.Operand.tmp 2)]) rfl (Za (hl.env 3 2 _ rfl rfl) Ze) hx,trivial⟩ ?_
  refine nxA ?_
  refine ZbD (m:=5) ?_
  refine ZI tb hJ [0,1,2,1006] [_,.bool (Zdv z4.1.1),_,_,_,.bool (z4.1.1.any (fun s'=>f.hyps.any fun h'=>decide (h'.label=s'))),_] [1,5] [_,_,_,_] rfl ⟨iFo hS hJ (ZsJ hJ (l:=z4.1.1) ) ZqG,fun _ _ hk hx hl hc=>Y9 (YZ hJ (xs:=z4.1.1) (f:=108) (caps:=[.ptr [.lit (.pointer (some ⟨b,0,none⟩))]]) (Os:=[OB.var b (mkR d f M vi vs vt n kn y1 y2)]) (p:=(fun s'=>f.hyps.any fun h'=>decide (h'.label=s'))) (fun q'=>ZsN hJ b d f M vi vs vt n kn y1 y2 q') (ZqI)) ZcD rfl (Zr hS _ hk hx) (hx.1) (ZG (Zd hx (mo 0 rfl)) Zq) (Za (hl.D 3 49 rfl hc) (Za (hl.D 4 50 rfl hc) Ze)) (jo hJ hx),trivial⟩ ?_
  refine cj 3 (fun hb4=>?_) fun hb4=>?_
  ·
   refine Zw (XX (O:=[]) (R:=(OB.var b (mkR d f M vi vs vt n kn y1 y2)::OB.row vi 147 4 (([]:List Itm).map itC)::OB.mI M L::R)) (Qj hJ (c:=(20:Int)) ) YT rfl rfl rfl (lb rfl) hS hJ0 Zq (fun a w h=>(Za (Rel.of_lit (Go.Value.int Go.IntKind.i64 20)) Ze)) (fun _=>?_) (fun i=>i.elim))
   refine ZmL ?_
   exact fun a w h=>pnP (⟨(20,vi,([]:List Itm)),Zo1 hb1 z4.2 hb4⟩: {q:Int×Value×List Itm // YF f L t= .error q.1}) rfl a w h
  ·
   refine Zc (nxA ?_)
   refine ZbD (m:=5) ?_
   refine Zw (snK 1 tb rfl ?_)
   refine sq (.at b 0) rfl rfl (lb rfl) (fun _ _ h=>Zk rfl (h.get 0 rfl) h.x) ?_
   refine sq (.at b 3) rfl rfl (lb rfl) (fun _ _ h=>Zm Qe rfl (h.get 0 rfl) h.x) ?_
   refine sq (.at b 5) rfl rfl (lb rfl) (fun _ _ h=>Zm Zbl rfl (h.get 0 rfl) h.x) ?_
   refine sq (.rd (YW f.hyps)) rfl rfl (lb rfl) (fun _ _ h=>Zo (cs:=(mkR d f M vi vs vt n kn y1 y2)) ZgD rfl (Zd h.x (mo 0 rfl)) (h.get 0 rfl) rfl h.x) ?_
   refine sq (.int (f.hyps.length:Nat)) rfl rfl (lb rfl) (fun _ _ h=>ZaD ZN rfl (h.get 0 rfl) h.x) ?_
   refine ZP ZiE hJ rfl rfl rfl (lb rfl) fun b9=>?_
   refine ZP ZiE hJ rfl rfl rfl (lb rfl) fun b10=>?_
   refine kw pm1 ?_
   refine ZJ (b:=b9) (off:=0) (cs:=[.lit (.int .i64 0)]) (es:=[.lit (.int .i64 (f.hyps.length:Int))]) hJ hJ0 QP rfl rfl rfl (lb rfl) rfl (fun a w h=>⟨(h.get 1 rfl),(h.get 2 rfl)⟩) ?_
   refine kw pm1 ?_
   refine ZJ (b:=b10) (off:=0) (cs:=[.lit (.int .i64 0)]) (es:=[.lit (.int .i64 (0:Int))]) hJ hJ0 QP rfl rfl rfl (lb rfl) rfl (fun a w h=>⟨(h.get 0 rfl),(Rel.of_lit (Go.Value.int Go.IntKind.i64 0))⟩) ?_
   refine kw pm1 ?_
   refine kw (fun h=>Ym hS h (m:=1) (s:=9) rfl) ?_
   refine seK [0,1,3,8,9,10] [_,_,_,_,_,_] rfl ?_
   refine nxA ?_
   refine lnA 2 fun hl3=>?_
   refine a_seq ?_
   refine ZbD (m:=5) ?_
   refine YQ tb hJ [0,1,3,5,1001] [_,.fn 136 [.ptr [.lit (.string z4.1.2)]]] [1] [_,_,_,_,_] rfl ⟨iFo hS hJ (ZmD hJ (s:=z4.1.2) ) ZqF,trivial⟩ ?_
   refine nxA ?_
   refine Zoi ?_
   refine atw (fun h=>Xo (p:=(Yd f L z4.1.1 ([]:List Lt) 0=some ([]:List Itm))∧(0=tgN ([]:List Lt))∧(([]:List Itm).length=([]:List Lt).length)) (⟨rfl,rfl,rfl⟩) h) ?_
   refine Zl9 (m:=5) (κ:=Value×(List Itm)×Nat) (μ:= {q:Int×Value×List Itm // YF f L t= .error q.1}) (σ:=Empty) (ZkC hJ z4.1.2 (by first | omega | (have:=ZeV z4.2;omega))) ZqB hJ hS hJ0 Zq (fun pre (wv,ys,tg)=>[OB.fct ((Yd f L z4.1.1 pre 0=some ys)∧(tg=tgN pre)∧(ys.length=pre.length)),OB.var b10 [.lit (.int .i64 (tg:Int))],OB.var b (mkR d f M wv vs vt n kn y1 y2),OB.row wv 147 4 (ys.map itC),OB.mI M L]) (fun q': {q:Int×Value×List Itm // YF f L t= .error q.1}=>flV q'.1.1) (fun q'=>[OB.var b (mkC d f [.lit (.map (some M)),.lit (q'.1.2.1),.lit vs,.lit vt,.lit (.int .i64 (n:Int)),.lit (.bool kn),.lit (.int .i64 y1),.lit (.int .i64 y2)]),OB.row q'.1.2.1 147 4 ((q'.1.2.2).map itC),OB.mI M L]) (fun s'=>[]) (vi,([]:List Itm),0) (fun x9=>.agg (ltC x9)) (fun x9=>[(11,.ptr (ltC x9)),(9,.ptr [.lit (.int .i64 (f.hyps.length:Int))]),(10,.at b10 0),(6,.ptr [Zb z4.1.1]),(2,.ptr [.lit (.pointer (some ⟨b,0,none⟩))])]) (lb rfl) Tryz.func88 (fun _ _ _ _=>ZsB) ?_ ?_ ?_ ?_ ?_ ?_ ?_
   · exact fun a w h=>Zl3 (h.get 4 rfl)
   ·
    rintro m9 l9 R' pre x9 ⟨wv,ys,tg⟩ K9 hK9
    refine Zw (Qi (cs:=ltC x9) Zlr rfl rfl rfl (lb rfl) rfl rfl rfl (by decide) (m:=0) rfl rfl (fun a w h=>Zr hS _ h.keep h.x _ (Nat.le_refl _)) (fun a w h w' hk'=>Yw hJ _ _ hk' h.x) ?_)
    refine seK [0,2,3,4,5] [_,_,_,_,_] rfl ?_
    exact hK9
   ·
    rintro m9 l9 R' pre x9 ⟨wv,ys,tg⟩ hpre
    refine Zq7 fun hF=>?_
    obtain⟨r1_,r2_,r3_⟩:=hF
    have e0:=ZbC _ _ 0 false (Nat.le_refl _) (Int.le_refl _) x9 (Zmn hpre).1
    have e1:=ZeV z4.2
    have e2:=Zh2 _ z4.1.2.data.toList 0 false (Nat.le_refl _)
    have e3:pre.length<z4.1.2.size:=Nat.lt_of_lt_of_le (Zmn hpre).2 e2
    have e4:tg≤pre.length:=by rw[r2_];exact List.length_filter_le _ _
    refine Zf (tsq ?_)
    refine ZP Zal hJ rfl rfl rfl (lb rfl) fun b11=>?_
    refine seK [0,1,2,3,4,5] [_,_,_,_,_,_] rfl ?_
    refine nx (Zj (qso tb hJ [0,1,2,3,4,5,1002] [_,_,_] [_,_,_,_,_,_,_] ?_))
    refine Zf (qso tb hJ [0,1,2,3,4,5,6,1002] [_,_,_] [_,_,_,_,_,_,_,_] ?_)
    refine cj 7 (fun hb5=>?_) fun hb5=>?_
    ·
     try simp at hb5
     have e9:=item_0 (f:=f) (L:=L) (lb:=z4.1.1) (tg:=tg) hb5
     refine Zw (sq (.agg (itC (⟨(0:Int),[],0,false⟩:Itm))) rfl rfl (lb rfl) (fun a _ h=>Xk (ps:=[(0,a.eval (Go.Operand.const (Go.Value.int Go.IntKind.i64 0)))]) (us:=[a.eval (Go.Operand.const (Go.Value.int Go.IntKind.i64 0)),.slice none 0 0,.int .i64 0,.bool false]) Qg rfl (by simp) (ZjY (lb rfl) rfl ZjZ) rfl (Zz (Rel.of_lit (Go.Value.int Go.IntKind.i64 0)) (XU (.nil _ _ (Nat.zero_le _)) (XU (.lit _ True.intro) (XU (.lit _ True.intro) Yb)))) h.x) ?_)
     refine ZE (b:=b11) (off:=0) (cs:=[.lit (.int .i64 0),Zb ([]:List ByteArray),.lit (.int .i64 0),.lit (.bool false)]) (es:=[.lit (.int .i64 (0:Int)),Zb ([]:List ByteArray),.lit (.int .i64 (0:Int)),.lit (.bool false)]) (news:=[.lit (.int .i64 (0:Int)),Zb ([]:List ByteArray),.lit (.int .i64 (0:Int)),.lit (.bool false)]) hJ hJ0 Xw rfl rfl rfl (lb rfl) rfl (fun a w h=>⟨(h.get 1 rfl),(h.get 0 rfl)⟩) ?_
     refine seK [1,2,3,4,5,6] [_,_,_,_,_,_] rfl ?_
     refine nx (Zj (tsq ?_))
     refine snK 2 tb rfl ?_
     refine sq (.at b11 3) rfl rfl (lb rfl) (fun _ _ h=>Zm Y5 rfl (h.get 2 rfl) h.x) ?_
     refine ZJ (b:=b11) (off:=3) (cs:=[.lit (.int .i64 (0:Int)),Zb ([]:List ByteArray),.lit (.int .i64 (0:Int)),.lit (.bool false)]) (es:=[.lit (.int .i64 (0:Int)),Zb ([]:List ByteArray),.lit (.int .i64 (0:Int)),.lit (.bool x9.tagged)]) hJ hJ0 QO rfl rfl rfl (lb rfl) rfl (fun a w h=>⟨(h.get 0 rfl),(h.get 1 rfl)⟩) ?_
     refine seK [3,5,6,7,8] [_,_,_,_,_] rfl ?_
     refine nx (ZI tb hJ [0,1,2,3,4,1001] [.at b11 3,.bool x9.tagged] [0,1] [_,_,_,_,_,_] rfl ⟨fun _ _ _ hx hl _=>Zm Y5 rfl (hl.env 0 12 _ rfl rfl) hx,fun _ _ _ hx hl _=>Zo (cs:=[.lit (.int .i64 (0:Int)),Zb ([]:List ByteArray),.lit (.int .i64 (0:Int)),.lit (.bool x9.tagged)]) ZgC rfl (Zd hx (mo 0 rfl)) (hl.D 0 121 rfl rfl) rfl hx,trivial⟩ ?_)
     refine cj 5 (fun hb9=>?_) fun hb9=>?_
     ·
      try simp at hb9
      refine Zw (sq (.int (tg:Nat)) rfl rfl (lb rfl) (fun _ _ h=>Zo (cs:=[.lit (.int .i64 (tg:Int))]) ZbL rfl (Zd h.x (mo 1 rfl)) (h.get 2 rfl) rfl h.x) ?_)
      refine sq (.int (tg+1:Nat)) rfl rfl (lb rfl) (fun _ _ h=>Zgm (i:=(tg:Int)) (j:=(1:Int)) rfl (h.get 0 rfl) (Rel.of_lit (Go.Value.int Go.IntKind.i64 1)) sfz sfz h.x) ?_
      refine kw pm1 ?_
      refine ZJ (b:=b10) (off:=0) (cs:=[.lit (.int .i64 (tg:Int))]) (es:=[.lit (.int .i64 ((tg+1:Nat):Int))]) hJ hJ0 QP rfl rfl rfl (lb rfl) rfl (fun a w h=>⟨(h.get 4 rfl),(h.get 0 rfl)⟩) ?_
      refine seK [2,3,4,5,6] [_,_,_,_,_] rfl ?_
      refine nx (tw pm2 ?_)
      refine tw pm3 ?_
      refine fun a w h=>YH (OB.var b (mkR d f M wv vs vt n kn y1 y2)::OB.var b10 [.lit (.int .i64 ((tg+1:Nat):Int))]::OB.var b11 [.lit (.int .i64 (0:Int)),Zb ([]:List ByteArray),.lit (.int .i64 (0:Int)),.lit (.bool x9.tagged)]::OB.mI M L::R') (γ:=Value) (fun ix'=>([.at b 0,.at b 0,.at b 0,.at b 12,.lit wv,.agg (itC (⟨(0:Int),([]:List ByteArray),(0:Int),x9.tagged⟩:Itm)),.rd (XL ([(⟨(0:Int),([]:List ByteArray),(0:Int),x9.tagged⟩:Itm)])),.any,.at b 0,.at b 12,.any]:List AV).getD ix' .any) (fun _=>true) [(9,fun(g:Value)=>.ptr [.lit (.int .i64 (f.hyps.length:Int))]),(10,fun(g:Value)=>.at b10 0),(6,fun(g:Value)=>.ptr [Zb z4.1.1]),(2,fun(g:Value)=>.ptr [.lit (.pointer (some ⟨b,0,none⟩))])] (fun(j':Nat) (g:Value)=>match j' with | 0=>(OB.row wv 147 4 (ys.map itC)::OB.var b (mkR d f M wv vs vt n kn y1 y2)::OB.var b10 [.lit (.int .i64 ((tg+1:Nat):Int))]::OB.var b11 [.lit (.int .i64 (0:Int)),Zb ([]:List ByteArray),.lit (.int .i64 (0:Int)),.lit (.bool x9.tagged)]::OB.mI M L::R') | 1=>(OB.row g 147 4 ((ys++([(⟨(0:Int),([]:List ByteArray),(0:Int),x9.tagged⟩:Itm)])).map itC)::OB.var b (mkR d f M wv vs vt n kn y1 y2)::OB.var b10 [.lit (.int .i64 ((tg+1:Nat):Int))]::OB.var b11 [.lit (.int .i64 (0:Int)),Zb ([]:List ByteArray),.lit (.int .i64 (0:Int)),.lit (.bool x9.tagged)]::OB.mI M L::R') | _=>(OB.row g 147 4 ((ys++([(⟨(0:Int),([]:List ByteArray),(0:Int),x9.tagged⟩:Itm)])).map itC)::OB.var b (mkR d f M g vs vt n kn y1 y2)::OB.var b10 [.lit (.int .i64 ((tg+1:Nat):Int))]::OB.var b11 [.lit (.int .i64 (0:Int)),Zb ([]:List ByteArray),.lit (.int .i64 (0:Int)),.lit (.bool x9.tagged)]::OB.mI M L::R')) (fun(k':Nat) (g:Value)=>match k' with | 0=>g | 1=>undef | _=>undef) [7,10] 1 (.slice none 0 0) (fun _=>rfl) h hJ Yh rfl rfl rfl rfl rfl rfl (fun j' g hj p hp=>by rcases j' with _ | _ | _ | j'<;>first | exact hp | exact List.mem_cons_of_mem _ hp | exact List.mem_cons_of_mem _ (List.mem_cons_of_mem _ hp) | (exfalso;omega)) ⟨?_,⟨?_,⟨?_,⟨?_,⟨?_,⟨?_,⟨?_,⟨?_,⟨?_,⟨?_,⟨?_,trivial⟩⟩⟩⟩⟩⟩⟩⟩⟩⟩⟩ ⟨?e30_2_0,⟨?e30_2_1,trivial⟩⟩ ⟨.old 1 9 _ rfl rfl,⟨.old 2 10 _ rfl rfl,⟨.old 3 6 _ rfl rfl,⟨.old 4 2 _ rfl rfl,trivial⟩⟩⟩⟩ ?n30_2
      exact oX rfl fun hx hl=>ZA ZU rfl (hl.env 4 2 _ rfl rfl) hx
      exact oX rfl fun hx hl=>ZA ZU rfl (hl.env 4 2 _ rfl rfl) hx
      exact oX rfl fun hx hl=>Zk rfl (hl.D 1 126 rfl rfl) hx
      exact oX rfl fun hx hl=>Zm ZH rfl (hl.D 2 127 rfl rfl) hx
      exact fun _ O' hO'=>⟨rfl,fun _ _ _ hx hl _=>Zo (cs:=(mkR d f M wv vs vt n kn y1 y2)) Qp rfl (Zd hx (hO' _ (mo 0 rfl))) (hl.D 3 128 rfl rfl) rfl hx⟩
      exact fun _ O' hO'=>⟨rfl,fun _ _ _ hx hl _=>YI (cs:=[.lit (.int .i64 (0:Int)),Zb ([]:List ByteArray),.lit (.int .i64 (0:Int)),.lit (.bool x9.tagged)]) (ds:=[.lit (.int .i64 (0:Int)),Zb ([]:List ByteArray),.lit (.int .i64 (0:Int)),.lit (.bool x9.tagged)]) YU rfl (Zd hx (hO' _ (mo 2 rfl))) (hl.env 0 12 _ rfl rfl) rfl rfl hx⟩
      exact oY rfl fun hk hx hl=>XF Yi Qr rfl rfl (hl.D 5 130 rfl rfl) (Zr hS _ hk hx _ (Nat.le_refl _)) (jo hJ hx)
      exact Zi rfl
      exact oX rfl fun hx hl=>Zk rfl (hl.D 0 125 rfl rfl) hx
      exact oX rfl fun hx hl=>Zm ZH rfl (hl.D 8 133 rfl rfl) hx
      exact Zi rfl
      case e30_2_0=>exact⟨_,rfl,rfl,rfl,rfl,fun _ _ w hk hx hl _=>Zp (YS (f:=itC) ys ([(⟨(0:Int),([]:List ByteArray),(0:Int),x9.tagged⟩:Itm)]) (fun _=>rfl) Y6 hJ hJ0 rfl hk hx (hl.D 4 129 rfl rfl).lit (hl.D 6 131 rfl rfl) sfz sfz) fun v w' hp=>⟨v,rfl,fun k' hk'=>absurd hk' (Nat.not_lt_zero _),fun _=>rfl,hp⟩⟩
      case e30_2_1=>exact⟨_,rfl,rfl,rfl,rfl,fun g _ w hk hx hl hs=>Zp (X2 (off:=12) (cs:=(mkR d f M wv vs vt n kn y1 y2)) (es:=(mkR d f M g vs vt n kn y1 y2)) (c:=.lit g) hJ hJ0 Xe rfl hk hx (hl.D 9 134 rfl rfl) (by rw[(hs 0 7 _ 132 (by omega) rfl rfl rfl)];exact Rel.of_lit _ (Xh (hx.2.1 _ (mo 0 rfl)))) (lb rfl) rfl) fun v w' hp=>⟨g,rfl,fun _ _=>rfl,fun e=>(by cases e),hp⟩⟩
      clear a w h
      intro v12
      dsimp only[List.map]
      refine kw pm3 ?_
      refine kw Zy ?_
      refine kw pm3 ?_
      refine kw pm1 ?_
      refine kw pm2 ?_
      refine kw pm3 ?_
      refine kw (fun h=>Xo (p:=(Yd f L z4.1.1 (pre++[x9]) 0=some (ys++([(⟨(0:Int),([]:List ByteArray),(0:Int),x9.tagged⟩:Itm)])))∧((tg+1)=tgN (pre++[x9]))∧((ys++([(⟨(0:Int),([]:List ByteArray),(0:Int),x9.tagged⟩:Itm)])).length=(pre++[x9]).length)) (⟨XR r1_ (by rw[←r2_];exact e9),by rw[QM,r2_];simp[hb9],by simp[r3_]⟩) h) ?_
      exact fun a w h=>⟨(v12,ys++([(⟨(0:Int),([]:List ByteArray),(0:Int),x9.tagged⟩:Itm)]),tg+1),h.keep,h.x⟩
     ·
      try simp at hb9
      refine Zc (nx (tw pm2 ?_))
      refine tw pm3 ?_
      refine fun a w h=>YH (OB.var b (mkR d f M wv vs vt n kn y1 y2)::OB.var b11 [.lit (.int .i64 (0:Int)),Zb ([]:List ByteArray),.lit (.int .i64 (0:Int)),.lit (.bool x9.tagged)]::OB.var b10 [.lit (.int .i64 (tg:Int))]::OB.mI M L::R') (γ:=Value) (fun ix'=>([.at b 0,.at b 0,.at b 0,.at b 12,.lit wv,.agg (itC (⟨(0:Int),([]:List ByteArray),(0:Int),x9.tagged⟩:Itm)),.rd (XL ([(⟨(0:Int),([]:List ByteArray),(0:Int),x9.tagged⟩:Itm)])),.any,.at b 0,.at b 12,.any]:List AV).getD ix' .any) (fun _=>true) [(9,fun(g:Value)=>.ptr [.lit (.int .i64 (f.hyps.length:Int))]),(10,fun(g:Value)=>.at b10 0),(6,fun(g:Value)=>.ptr [Zb z4.1.1]),(2,fun(g:Value)=>.ptr [.lit (.pointer (some ⟨b,0,none⟩))])] (fun(j':Nat) (g:Value)=>match j' with | 0=>(OB.row wv 147 4 (ys.map itC)::OB.var b (mkR d f M wv vs vt n kn y1 y2)::OB.var b11 [.lit (.int .i64 (0:Int)),Zb ([]:List ByteArray),.lit (.int .i64 (0:Int)),.lit (.bool x9.tagged)]::OB.var b10 [.lit (.int .i64 (tg:Int))]::OB.mI M L::R') | 1=>(OB.row g 147 4 ((ys++([(⟨(0:Int),([]:List ByteArray),(0:Int),x9.tagged⟩:Itm)])).map itC)::OB.var b (mkR d f M wv vs vt n kn y1 y2)::OB.var b11 [.lit (.int .i64 (0:Int)),Zb ([]:List ByteArray),.lit (.int .i64 (0:Int)),.lit (.bool x9.tagged)]::OB.var b10 [.lit (.int .i64 (tg:Int))]::OB.mI M L::R') | _=>(OB.row g 147 4 ((ys++([(⟨(0:Int),([]:List ByteArray),(0:Int),x9.tagged⟩:Itm)])).map itC)::OB.var b (mkR d f M g vs vt n kn y1 y2)::OB.var b11 [.lit (.int .i64 (0:Int)),Zb ([]:List ByteArray),.lit (.int .i64 (0:Int)),.lit (.bool x9.tagged)]::OB.var b10 [.lit (.int .i64 (tg:Int))]::OB.mI M L::R')) (fun(k':Nat) (g:Value)=>match k' with | 0=>g | 1=>undef | _=>undef) [7,10] 1 (.slice none 0 0) (fun _=>rfl) h hJ Yh rfl rfl rfl rfl rfl rfl (fun j' g hj p hp=>by rcases j' with _ | _ | _ | j'<;>first | exact hp | exact List.mem_cons_of_mem _ hp | exact List.mem_cons_of_mem _ (List.mem_cons_of_mem _ hp) | (exfalso;omega)) ⟨?_,⟨?_,⟨?_,⟨?_,⟨?_,⟨?_,⟨?_,⟨?_,⟨?_,⟨?_,⟨?_,trivial⟩⟩⟩⟩⟩⟩⟩⟩⟩⟩⟩ ⟨?e30_3_0,⟨?e30_3_1,trivial⟩⟩ ⟨.old 1 9 _ rfl rfl,⟨.old 2 10 _ rfl rfl,⟨.old 3 6 _ rfl rfl,⟨.old 4 2 _ rfl rfl,trivial⟩⟩⟩⟩ ?n30_3
      exact oX rfl fun hx hl=>ZA ZU rfl (hl.env 4 2 _ rfl rfl) hx
      exact oX rfl fun hx hl=>ZA ZU rfl (hl.env 4 2 _ rfl rfl) hx
      exact oX rfl fun hx hl=>Zk rfl (hl.D 1 126 rfl rfl) hx
      exact oX rfl fun hx hl=>Zm ZH rfl (hl.D 2 127 rfl rfl) hx
      exact fun _ O' hO'=>⟨rfl,fun _ _ _ hx hl _=>Zo (cs:=(mkR d f M wv vs vt n kn y1 y2)) Qp rfl (Zd hx (hO' _ (mo 0 rfl))) (hl.D 3 128 rfl rfl) rfl hx⟩
      exact fun _ O' hO'=>⟨rfl,fun _ _ _ hx hl _=>YI (cs:=[.lit (.int .i64 (0:Int)),Zb ([]:List ByteArray),.lit (.int .i64 (0:Int)),.lit (.bool x9.tagged)]) (ds:=[.lit (.int .i64 (0:Int)),Zb ([]:List ByteArray),.lit (.int .i64 (0:Int)),.lit (.bool x9.tagged)]) YU rfl (Zd hx (hO' _ (mo 1 rfl))) (hl.env 0 12 _ rfl rfl) rfl rfl hx⟩
      exact oY rfl fun hk hx hl=>XF Yi Qr rfl rfl (hl.D 5 130 rfl rfl) (Zr hS _ hk hx _ (Nat.le_refl _)) (jo hJ hx)
      exact Zi rfl
      exact oX rfl fun hx hl=>Zk rfl (hl.D 0 125 rfl rfl) hx
      exact oX rfl fun hx hl=>Zm ZH rfl (hl.D 8 133 rfl rfl) hx
      exact Zi rfl
      case e30_3_0=>exact⟨_,rfl,rfl,rfl,rfl,fun _ _ w hk hx hl _=>Zp (YS (f:=itC) ys ([(⟨(0:Int),([]:List ByteArray),(0:Int),x9.tagged⟩:Itm)]) (fun _=>rfl) Y6 hJ hJ0 rfl hk hx (hl.D 4 129 rfl rfl).lit (hl.D 6 131 rfl rfl) sfz sfz) fun v w' hp=>⟨v,rfl,fun k' hk'=>absurd hk' (Nat.not_lt_zero _),fun _=>rfl,hp⟩⟩
      case e30_3_1=>exact⟨_,rfl,rfl,rfl,rfl,fun g _ w hk hx hl hs=>Zp (X2 (off:=12) (cs:=(mkR d f M wv vs vt n kn y1 y2)) (es:=(mkR d f M g vs vt n kn y1 y2)) (c:=.lit g) hJ hJ0 Xe rfl hk hx (hl.D 9 134 rfl rfl) (by rw[(hs 0 7 _ 132 (by omega) rfl rfl rfl)];exact Rel.of_lit _ (Xh (hx.2.1 _ (mo 0 rfl)))) (lb rfl) rfl) fun v w' hp=>⟨g,rfl,fun _ _=>rfl,fun e=>(by cases e),hp⟩⟩
      clear a w h
      intro v13
      dsimp only[List.map]
      refine kw pm2 ?_
      refine kw Zy ?_
      refine kw pm3 ?_
      refine kw pm1 ?_
      refine kw pm2 ?_
      refine kw pm3 ?_
      refine kw (fun h=>Xo (p:=(Yd f L z4.1.1 (pre++[x9]) 0=some (ys++([(⟨(0:Int),([]:List ByteArray),(0:Int),x9.tagged⟩:Itm)])))∧(tg=tgN (pre++[x9]))∧((ys++([(⟨(0:Int),([]:List ByteArray),(0:Int),x9.tagged⟩:Itm)])).length=(pre++[x9]).length)) (⟨XR r1_ (by rw[←r2_];exact e9),by rw[QM,r2_];simp[hb9],by simp[r3_]⟩) h) ?_
      exact fun a w h=>⟨(v13,ys++([(⟨(0:Int),([]:List ByteArray),(0:Int),x9.tagged⟩:Itm)]),tg),h.keep,h.x⟩
    ·
     try simp at hb5
     refine qso tb hJ [0,1,2,3,4,5,6,1003] [_,_,_,_] [_,_,_,_,_,_,_,_] ?_
     refine cj 7 (fun hb6=>?_) fun hb6=>?_
     ·
      try simp at hb6
      have e9:=item_1 (L:=L) (lb:=z4.1.1) (tg:=tg) hb5 (by omega)
      refine Zw (snK 1 tb rfl ?_)
      refine sq (.at b 0) rfl rfl (lb rfl) (fun _ _ h=>Zk rfl (h.get 0 rfl) h.x) ?_
      refine sq (.at b 3) rfl rfl (lb rfl) (fun _ _ h=>Zm Qe rfl (h.get 0 rfl) h.x) ?_
      refine sq (.at b 5) rfl rfl (lb rfl) (fun _ _ h=>Zm Zbl rfl (h.get 0 rfl) h.x) ?_
      refine sq (.rd (YW f.hyps)) rfl rfl (lb rfl) (fun _ _ h=>Zo (cs:=(mkR d f M wv vs vt n kn y1 y2)) ZgD rfl (Zd h.x (mo 2 rfl)) (h.get 0 rfl) rfl h.x) ?_
      refine snK 1 tb rfl ?_
      refine sq (.int (x9.number-(1:Int))) rfl rfl (lb rfl) (fun _ _ h=>Zeu (i:=x9.number) (j:=(1:Int)) rfl (h.get 0 rfl) (Rel.of_lit (Go.Value.int Go.IntKind.i64 1)) sfz sfz h.x) ?_
      refine sq (.ptr (hyC (ge f.hyps (x9.number-(1:Int)).toNat))) rfl rfl (lb rfl) (fun _ _ h=>Yg (i:=x9.number-(1:Int)) ZR rfl (h.get 2 rfl) (h.get 0 rfl) sfz (ZdE (xs:=f.hyps) (i:=x9.number-(1:Int)) sfz sfz) rfl h.x) ?_
      refine snK 2 tb rfl ?_
      refine sq (.agg (itC (⟨(1:Int),(ge f.hyps (x9.number-(1:Int)).toNat).text,0,false⟩:Itm))) rfl rfl (lb rfl) (fun a _ h=>Xk (ps:=[(0,a.eval (Go.Operand.const (Go.Value.int Go.IntKind.i64 1))),(1,a.eval (Go.Operand.tmp 83))]) (us:=[a.eval (Go.Operand.const (Go.Value.int Go.IntKind.i64 1)),a.eval (Go.Operand.tmp 83),.int .i64 0,.bool false]) Qg rfl (by simp) (ZjY (lb rfl) rfl (ZjY (lb rfl) (Rel.oneC (h.get 0 rfl)) ZjZ)) rfl (Zz (Rel.of_lit (Go.Value.int Go.IntKind.i64 1)) (Zz (h.get 0 rfl) (XU (.lit _ True.intro) (XU (.lit _ True.intro) Yb)))) h.x) ?_
      refine ZE (b:=b11) (off:=0) (cs:=[.lit (.int .i64 0),Zb ([]:List ByteArray),.lit (.int .i64 0),.lit (.bool false)]) (es:=[.lit (.int .i64 (1:Int)),Zb ((ge f.hyps (x9.number-(1:Int)).toNat).text),.lit (.int .i64 (0:Int)),.lit (.bool false)]) (news:=[.lit (.int .i64 (1:Int)),Zb ((ge f.hyps (x9.number-(1:Int)).toNat).text),.lit (.int .i64 (0:Int)),.lit (.bool false)]) hJ hJ0 Xw rfl rfl rfl (lb rfl) rfl (fun a w h=>⟨(h.get 11 rfl),(h.get 0 rfl)⟩) ?_
      refine seK [1,11,12,13,14,15,16] [_,_,_,_,_,_,_] rfl ?_
      refine nx (ln 0 fun hl4=>?_)
      refine Zj (tsq ?_)
      refine snK 2 tb rfl ?_
      refine sq (.at b11 3) rfl rfl (lb rfl) (fun _ _ h=>Zm Y5 rfl (h.get 3 rfl) h.x) ?_
      refine ZJ (b:=b11) (off:=3) (cs:=[.lit (.int .i64 (1:Int)),Zb ((ge f.hyps (x9.number-(1:Int)).toNat).text),.lit (.int .i64 (0:Int)),.lit (.bool false)]) (es:=[.lit (.int .i64 (1:Int)),Zb ((ge f.hyps (x9.number-(1:Int)).toNat).text),.lit (.int .i64 (0:Int)),.lit (.bool x9.tagged)]) hJ hJ0 QO rfl rfl rfl (lb rfl) rfl (fun a w h=>⟨(h.get 0 rfl),(h.get 1 rfl)⟩) ?_
      refine seK [4,6,7,8,9] [_,_,_,_,_] rfl ?_
      refine nx (ZI tb hJ [0,1,2,3,4,1001] [.at b11 3,.bool x9.tagged] [0,1] [_,_,_,_,_,_] rfl ⟨fun _ _ _ hx hl _=>Zm Y5 rfl (hl.env 0 12 _ rfl rfl) hx,fun _ _ _ hx hl _=>Zo (cs:=[.lit (.int .i64 (1:Int)),Zb ((ge f.hyps (x9.number-(1:Int)).toNat).text),.lit (.int .i64 (0:Int)),.lit (.bool x9.tagged)]) ZgC rfl (Zd hx (mo 0 rfl)) (hl.D 0 121 rfl rfl) rfl hx,trivial⟩ ?_)
      refine cj 5 (fun hb9=>?_) fun hb9=>?_
      ·
       try simp at hb9
       refine Zw (sq (.int (tg:Nat)) rfl rfl (lb rfl) (fun _ _ h=>Zo (cs:=[.lit (.int .i64 (tg:Int))]) ZbL rfl (Zd h.x (mo 1 rfl)) (h.get 2 rfl) rfl h.x) ?_)
       refine sq (.int (tg+1:Nat)) rfl rfl (lb rfl) (fun _ _ h=>Zgm (i:=(tg:Int)) (j:=(1:Int)) rfl (h.get 0 rfl) (Rel.of_lit (Go.Value.int Go.IntKind.i64 1)) sfz sfz h.x) ?_
       refine kw pm1 ?_
       refine ZJ (b:=b10) (off:=0) (cs:=[.lit (.int .i64 (tg:Int))]) (es:=[.lit (.int .i64 ((tg+1:Nat):Int))]) hJ hJ0 QP rfl rfl rfl (lb rfl) rfl (fun a w h=>⟨(h.get 4 rfl),(h.get 0 rfl)⟩) ?_
       refine seK [2,3,4,5,6] [_,_,_,_,_] rfl ?_
       refine nx (tw pm2 ?_)
       refine tw pm3 ?_
       refine fun a w h=>YH (OB.var b (mkR d f M wv vs vt n kn y1 y2)::OB.var b10 [.lit (.int .i64 ((tg+1:Nat):Int))]::OB.var b11 [.lit (.int .i64 (1:Int)),Zb ((ge f.hyps (x9.number-(1:Int)).toNat).text),.lit (.int .i64 (0:Int)),.lit (.bool x9.tagged)]::OB.mI M L::R') (γ:=Value) (fun ix'=>([.at b 0,.at b 0,.at b 0,.at b 12,.lit wv,.agg (itC (⟨(1:Int),(ge f.hyps (x9.number-(1:Int)).toNat).text,(0:Int),x9.tagged⟩:Itm)),.rd (XL ([(⟨(1:Int),(ge f.hyps (x9.number-(1:Int)).toNat).text,(0:Int),x9.tagged⟩:Itm)])),.any,.at b 0,.at b 12,.any]:List AV).getD ix' .any) (fun _=>true) [(9,fun(g:Value)=>.ptr [.lit (.int .i64 (f.hyps.length:Int))]),(10,fun(g:Value)=>.at b10 0),(6,fun(g:Value)=>.ptr [Zb z4.1.1]),(2,fun(g:Value)=>.ptr [.lit (.pointer (some ⟨b,0,none⟩))])] (fun(j':Nat) (g:Value)=>match j' with | 0=>(OB.row wv 147 4 (ys.map itC)::OB.var b (mkR d f M wv vs vt n kn y1 y2)::OB.var b10 [.lit (.int .i64 ((tg+1:Nat):Int))]::OB.var b11 [.lit (.int .i64 (1:Int)),Zb ((ge f.hyps (x9.number-(1:Int)).toNat).text),.lit (.int .i64 (0:Int)),.lit (.bool x9.tagged)]::OB.mI M L::R') | 1=>(OB.row g 147 4 ((ys++([(⟨(1:Int),(ge f.hyps (x9.number-(1:Int)).toNat).text,(0:Int),x9.tagged⟩:Itm)])).map itC)::OB.var b (mkR d f M wv vs vt n kn y1 y2)::OB.var b10 [.lit (.int .i64 ((tg+1:Nat):Int))]::OB.var b11 [.lit (.int .i64 (1:Int)),Zb ((ge f.hyps (x9.number-(1:Int)).toNat).text),.lit (.int .i64 (0:Int)),.lit (.bool x9.tagged)]::OB.mI M L::R') | _=>(OB.row g 147 4 ((ys++([(⟨(1:Int),(ge f.hyps (x9.number-(1:Int)).toNat).text,(0:Int),x9.tagged⟩:Itm)])).map itC)::OB.var b (mkR d f M g vs vt n kn y1 y2)::OB.var b10 [.lit (.int .i64 ((tg+1:Nat):Int))]::OB.var b11 [.lit (.int .i64 (1:Int)),Zb ((ge f.hyps (x9.number-(1:Int)).toNat).text),.lit (.int .i64 (0:Int)),.lit (.bool x9.tagged)]::OB.mI M L::R')) (fun(k':Nat) (g:Value)=>match k' with | 0=>g | 1=>undef | _=>undef) [7,10] 1 (.slice none 0 0) (fun _=>rfl) h hJ Yh rfl rfl rfl rfl rfl rfl (fun j' g hj p hp=>by rcases j' with _ | _ | _ | j'<;>first | exact hp | exact List.mem_cons_of_mem _ hp | exact List.mem_cons_of_mem _ (List.mem_cons_of_mem _ hp) | (exfalso;omega)) ⟨?_,⟨?_,⟨?_,⟨?_,⟨?_,⟨?_,⟨?_,⟨?_,⟨?_,⟨?_,⟨?_,trivial⟩⟩⟩⟩⟩⟩⟩⟩⟩⟩⟩ ⟨?e30_4_0,⟨?e30_4_1,trivial⟩⟩ ⟨.old 1 9 _ rfl rfl,⟨.old 2 10 _ rfl rfl,⟨.old 3 6 _ rfl rfl,⟨.old 4 2 _ rfl rfl,trivial⟩⟩⟩⟩ ?n30_4
       exact oX rfl fun hx hl=>ZA ZU rfl (hl.env 4 2 _ rfl rfl) hx
       exact oX rfl fun hx hl=>ZA ZU rfl (hl.env 4 2 _ rfl rfl) hx
       exact oX rfl fun hx hl=>Zk rfl (hl.D 1 126 rfl rfl) hx
       exact oX rfl fun hx hl=>Zm ZH rfl (hl.D 2 127 rfl rfl) hx
       exact fun _ O' hO'=>⟨rfl,fun _ _ _ hx hl _=>Zo (cs:=(mkR d f M wv vs vt n kn y1 y2)) Qp rfl (Zd hx (hO' _ (mo 0 rfl))) (hl.D 3 128 rfl rfl) rfl hx⟩
       exact fun _ O' hO'=>⟨rfl,fun _ _ _ hx hl _=>YI (cs:=[.lit (.int .i64 (1:Int)),Zb ((ge f.hyps (x9.number-(1:Int)).toNat).text),.lit (.int .i64 (0:Int)),.lit (.bool x9.tagged)]) (ds:=[.lit (.int .i64 (1:Int)),Zb ((ge f.hyps (x9.number-(1:Int)).toNat).text),.lit (.int .i64 (0:Int)),.lit (.bool x9.tagged)]) YU rfl (Zd hx (hO' _ (mo 2 rfl))) (hl.env 0 12 _ rfl rfl) rfl rfl hx⟩
       exact oY rfl fun hk hx hl=>XF Yi Qr rfl rfl (hl.D 5 130 rfl rfl) (Zr hS _ hk hx _ (Nat.le_refl _)) (jo hJ hx)
       exact Zi rfl
       exact oX rfl fun hx hl=>Zk rfl (hl.D 0 125 rfl rfl) hx
       exact oX rfl fun hx hl=>Zm ZH rfl (hl.D 8 133 rfl rfl) hx
       exact Zi rfl
       case e30_4_0=>exact⟨_,rfl,rfl,rfl,rfl,fun _ _ w hk hx hl _=>Zp (YS (f:=itC) ys ([(⟨(1:Int),(ge f.hyps (x9.number-(1:Int)).toNat).text,(0:Int),x9.tagged⟩:Itm)]) (fun _=>rfl) Y6 hJ hJ0 rfl hk hx (hl.D 4 129 rfl rfl).lit (hl.D 6 131 rfl rfl) sfz sfz) fun v w' hp=>⟨v,rfl,fun k' hk'=>absurd hk' (Nat.not_lt_zero _),fun _=>rfl,hp⟩⟩
       case e30_4_1=>exact⟨_,rfl,rfl,rfl,rfl,fun g _ w hk hx hl hs=>Zp (X2 (off:=12) (cs:=(mkR d f M wv vs vt n kn y1 y2)) (es:=(mkR d f M g vs vt n kn y1 y2)) (c:=.lit g) hJ hJ0 Xe rfl hk hx (hl.D 9 134 rfl rfl) (by rw[(hs 0 7 _ 132 (by omega) rfl rfl rfl)];exact Rel.of_lit _ (Xh (hx.2.1 _ (mo 0 rfl)))) (lb rfl) rfl) fun v w' hp=>⟨g,rfl,fun _ _=>rfl,fun e=>(by cases e),hp⟩⟩
       clear a w h
       intro v14
       dsimp only[List.map]
       refine kw pm3 ?_
       refine kw Zy ?_
       refine kw pm3 ?_
       refine kw pm1 ?_
       refine kw pm2 ?_
       refine kw pm3 ?_
       refine kw (fun h=>Xo (p:=(Yd f L z4.1.1 (pre++[x9]) 0=some (ys++([(⟨(1:Int),(ge f.hyps (x9.number-(1:Int)).toNat).text,(0:Int),x9.tagged⟩:Itm)])))∧((tg+1)=tgN (pre++[x9]))∧((ys++([(⟨(1:Int),(ge f.hyps (x9.number-(1:Int)).toNat).text,(0:Int),x9.tagged⟩:Itm)])).length=(pre++[x9]).length)) (⟨XR r1_ (by rw[←r2_];exact e9),by rw[QM,r2_];simp[hb9],by simp[r3_]⟩) h) ?_
       exact fun a w h=>⟨(v14,ys++([(⟨(1:Int),(ge f.hyps (x9.number-(1:Int)).toNat).text,(0:Int),x9.tagged⟩:Itm)]),tg+1),h.keep,h.x⟩
      ·
       try simp at hb9
       refine Zc (nx (tw pm2 ?_))
       refine tw pm3 ?_
       refine fun a w h=>YH (OB.var b (mkR d f M wv vs vt n kn y1 y2)::OB.var b11 [.lit (.int .i64 (1:Int)),Zb ((ge f.hyps (x9.number-(1:Int)).toNat).text),.lit (.int .i64 (0:Int)),.lit (.bool x9.tagged)]::OB.var b10 [.lit (.int .i64 (tg:Int))]::OB.mI M L::R') (γ:=Value) (fun ix'=>([.at b 0,.at b 0,.at b 0,.at b 12,.lit wv,.agg (itC (⟨(1:Int),(ge f.hyps (x9.number-(1:Int)).toNat).text,(0:Int),x9.tagged⟩:Itm)),.rd (XL ([(⟨(1:Int),(ge f.hyps (x9.number-(1:Int)).toNat).text,(0:Int),x9.tagged⟩:Itm)])),.any,.at b 0,.at b 12,.any]:List AV).getD ix' .any) (fun _=>true) [(9,fun(g:Value)=>.ptr [.lit (.int .i64 (f.hyps.length:Int))]),(10,fun(g:Value)=>.at b10 0),(6,fun(g:Value)=>.ptr [Zb z4.1.1]),(2,fun(g:Value)=>.ptr [.lit (.pointer (some ⟨b,0,none⟩))])] (fun(j':Nat) (g:Value)=>match j' with | 0=>(OB.row wv 147 4 (ys.map itC)::OB.var b (mkR d f M wv vs vt n kn y1 y2)::OB.var b11 [.lit (.int .i64 (1:Int)),Zb ((ge f.hyps (x9.number-(1:Int)).toNat).text),.lit (.int .i64 (0:Int)),.lit (.bool x9.tagged)]::OB.var b10 [.lit (.int .i64 (tg:Int))]::OB.mI M L::R') | 1=>(OB.row g 147 4 ((ys++([(⟨(1:Int),(ge f.hyps (x9.number-(1:Int)).toNat).text,(0:Int),x9.tagged⟩:Itm)])).map itC)::OB.var b (mkR d f M wv vs vt n kn y1 y2)::OB.var b11 [.lit (.int .i64 (1:Int)),Zb ((ge f.hyps (x9.number-(1:Int)).toNat).text),.lit (.int .i64 (0:Int)),.lit (.bool x9.tagged)]::OB.var b10 [.lit (.int .i64 (tg:Int))]::OB.mI M L::R') | _=>(OB.row g 147 4 ((ys++([(⟨(1:Int),(ge f.hyps (x9.number-(1:Int)).toNat).text,(0:Int),x9.tagged⟩:Itm)])).map itC)::OB.var b (mkR d f M g vs vt n kn y1 y2)::OB.var b11 [.lit (.int .i64 (1:Int)),Zb ((ge f.hyps (x9.number-(1:Int)).toNat).text),.lit (.int .i64 (0:Int)),.lit (.bool x9.tagged)]::OB.var b10 [.lit (.int .i64 (tg:Int))]::OB.mI M L::R')) (fun(k':Nat) (g:Value)=>match k' with | 0=>g | 1=>undef | _=>undef) [7,10] 1 (.slice none 0 0) (fun _=>rfl) h hJ Yh rfl rfl rfl rfl rfl rfl (fun j' g hj p hp=>by rcases j' with _ | _ | _ | j'<;>first | exact hp | exact List.mem_cons_of_mem _ hp | exact List.mem_cons_of_mem _ (List.mem_cons_of_mem _ hp) | (exfalso;omega)) ⟨?_,⟨?_,⟨?_,⟨?_,⟨?_,⟨?_,⟨?_,⟨?_,⟨?_,⟨?_,⟨?_,trivial⟩⟩⟩⟩⟩⟩⟩⟩⟩⟩⟩ ⟨?e30_5_0,⟨?e30_5_1,trivial⟩⟩ ⟨.old 1 9 _ rfl rfl,⟨.old 2 10 _ rfl rfl,⟨.old 3 6 _ rfl rfl,⟨.old 4 2 _ rfl rfl,trivial⟩⟩⟩⟩ ?n30_5
       exact oX rfl fun hx hl=>ZA ZU rfl (hl.env 4 2 _ rfl rfl) hx
       exact oX rfl fun hx hl=>ZA ZU rfl (hl.env 4 2 _ rfl rfl) hx
       exact oX rfl fun hx hl=>Zk rfl (hl.D 1 126 rfl rfl) hx
       exact oX rfl fun hx hl=>Zm ZH rfl (hl.D 2 127 rfl rfl) hx
       exact fun _ O' hO'=>⟨rfl,fun _ _ _ hx hl _=>Zo (cs:=(mkR d f M wv vs vt n kn y1 y2)) Qp rfl (Zd hx (hO' _ (mo 0 rfl))) (hl.D 3 128 rfl rfl) rfl hx⟩
       exact fun _ O' hO'=>⟨rfl,fun _ _ _ hx hl _=>YI (cs:=[.lit (.int .i64 (1:Int)),Zb ((ge f.hyps (x9.number-(1:Int)).toNat).text),.lit (.int .i64 (0:Int)),.lit (.bool x9.tagged)]) (ds:=[.lit (.int .i64 (1:Int)),Zb ((ge f.hyps (x9.number-(1:Int)).toNat).text),.lit (.int .i64 (0:Int)),.lit (.bool x9.tagged)]) YU rfl (Zd hx (hO' _ (mo 1 rfl))) (hl.env 0 12 _ rfl rfl) rfl rfl hx⟩
       exact oY rfl fun hk hx hl=>XF Yi Qr rfl rfl (hl.D 5 130 rfl rfl) (Zr hS _ hk hx _ (Nat.le_refl _)) (jo hJ hx)
       exact Zi rfl
       exact oX rfl fun hx hl=>Zk rfl (hl.D 0 125 rfl rfl) hx
       exact oX rfl fun hx hl=>Zm ZH rfl (hl.D 8 133 rfl rfl) hx
       exact Zi rfl
       case e30_5_0=>exact⟨_,rfl,rfl,rfl,rfl,fun _ _ w hk hx hl _=>Zp (YS (f:=itC) ys ([(⟨(1:Int),(ge f.hyps (x9.number-(1:Int)).toNat).text,(0:Int),x9.tagged⟩:Itm)]) (fun _=>rfl) Y6 hJ hJ0 rfl hk hx (hl.D 4 129 rfl rfl).lit (hl.D 6 131 rfl rfl) sfz sfz) fun v w' hp=>⟨v,rfl,fun k' hk'=>absurd hk' (Nat.not_lt_zero _),fun _=>rfl,hp⟩⟩
       case e30_5_1=>exact⟨_,rfl,rfl,rfl,rfl,fun g _ w hk hx hl hs=>Zp (X2 (off:=12) (cs:=(mkR d f M wv vs vt n kn y1 y2)) (es:=(mkR d f M g vs vt n kn y1 y2)) (c:=.lit g) hJ hJ0 Xe rfl hk hx (hl.D 9 134 rfl rfl) (by rw[(hs 0 7 _ 132 (by omega) rfl rfl rfl)];exact Rel.of_lit _ (Xh (hx.2.1 _ (mo 0 rfl)))) (lb rfl) rfl) fun v w' hp=>⟨g,rfl,fun _ _=>rfl,fun e=>(by cases e),hp⟩⟩
       clear a w h
       intro v15
       dsimp only[List.map]
       refine kw pm2 ?_
       refine kw Zy ?_
       refine kw pm3 ?_
       refine kw pm1 ?_
       refine kw pm2 ?_
       refine kw pm3 ?_
       refine kw (fun h=>Xo (p:=(Yd f L z4.1.1 (pre++[x9]) 0=some (ys++([(⟨(1:Int),(ge f.hyps (x9.number-(1:Int)).toNat).text,(0:Int),x9.tagged⟩:Itm)])))∧(tg=tgN (pre++[x9]))∧((ys++([(⟨(1:Int),(ge f.hyps (x9.number-(1:Int)).toNat).text,(0:Int),x9.tagged⟩:Itm)])).length=(pre++[x9]).length)) (⟨XR r1_ (by rw[←r2_];exact e9),by rw[QM,r2_];simp[hb9],by simp[r3_]⟩) h) ?_
       exact fun a w h=>⟨(v15,ys++([(⟨(1:Int),(ge f.hyps (x9.number-(1:Int)).toNat).text,(0:Int),x9.tagged⟩:Itm)]),tg),h.keep,h.x⟩
     ·
      try simp at hb6
      refine ZI tb hJ [0,1,2,3,4,5,6,1006] [_,_,_,.int (z4.1.1.length:Nat),.int (f.hyps.length+z4.1.1.length:Nat),_,_] [3,4] [_,_,_,_,_,_,_,_] rfl ⟨YG Zv,Yv,trivial⟩ ?_
      refine cj 7 (fun hb7=>?_) fun hb7=>?_
      ·
       try simp at hb7
       have e9:=item_2 (f:=f) (L:=L) (lb:=z4.1.1) (tg:=tg) hb5 (by omega) (by omega)
       refine fun a w h=>YO (γ:=Unit) (fun ix'=>([.at b 0,.rd (Zb z4.1.1),.int x9.number,.int (x9.number-(1:Int)),.int (f.hyps.length:Nat),.int (x9.number-(1:Int)-(f.hyps.length:Int)),.ptr [.lit (.string (ge z4.1.1 (x9.number-(1:Int)-(f.hyps.length:Int)).toNat))],.str (ge z4.1.1 (x9.number-(1:Int)-(f.hyps.length:Int)).toNat),.agg (itC (nmE f L z4.1.1 x9)),.any]:List AV).getD ix' .any) (fun _=>true) [(12,fun(g:Unit)=>.at b11 0),(11,fun(g:Unit)=>.ptr (ltC x9)),(9,fun(g:Unit)=>.ptr [.lit (.int .i64 (f.hyps.length:Int))]),(10,fun(g:Unit)=>.at b10 0),(6,fun(g:Unit)=>.ptr [Zb z4.1.1]),(2,fun(g:Unit)=>.ptr [.lit (.pointer (some ⟨b,0,none⟩))])] (fun(j':Nat) (g:Unit)=>match j' with | 0=>(OB.var b11 [.lit (.int .i64 0),Zb ([]:List ByteArray),.lit (.int .i64 0),.lit (.bool false)]::OB.var b10 [.lit (.int .i64 (tg:Int))]::OB.var b (mkR d f M wv vs vt n kn y1 y2)::OB.row wv 147 4 (ys.map itC)::OB.mI M L::R') | _=>(OB.var b11 [.lit (.int .i64 ((nmE f L z4.1.1 x9).kind)),Zb ((nmE f L z4.1.1 x9).text),.lit (.int .i64 ((nmE f L z4.1.1 x9).number)),.lit (.bool ((nmE f L z4.1.1 x9).tagged))]::OB.var b10 [.lit (.int .i64 (tg:Int))]::OB.var b (mkR d f M wv vs vt n kn y1 y2)::OB.row wv 147 4 (ys.map itC)::OB.mI M L::R')) (fun(k':Nat) (g:Unit)=>match k' with | 0=>undef | _=>undef) [9] 0 () (fun _=>rfl) h hJ Yh rfl rfl rfl rfl rfl rfl (fun j' g hj p hp=>by rcases j' with _ | _ | _ | j'<;>first | exact hp | exact List.mem_cons_of_mem _ hp | exact List.mem_cons_of_mem _ (List.mem_cons_of_mem _ hp) | (exfalso;omega)) ⟨?_,⟨?_,⟨?_,⟨?_,⟨?_,⟨?_,⟨?_,⟨?_,⟨?_,⟨?_,trivial⟩⟩⟩⟩⟩⟩⟩⟩⟩⟩ ⟨?e24_6_0,trivial⟩ ⟨.old 0 12 _ rfl rfl,⟨.old 1 11 _ rfl rfl,⟨.old 2 9 _ rfl rfl,⟨.old 3 10 _ rfl rfl,⟨.old 4 6 _ rfl rfl,⟨.old 5 2 _ rfl rfl,trivial⟩⟩⟩⟩⟩⟩ ?n24_6
       exact oX rfl fun hx hl=>ZA ZU rfl (hl.env 5 2 _ rfl rfl) hx
       exact oX rfl fun hx hl=>ZA X7 rfl (hl.env 4 6 _ rfl rfl) hx
       exact oX rfl fun hx hl=>Yk rfl (hl.env 6 13 _ rfl rfl) hx
       exact oX rfl fun hx hl=>Zeu (i:=x9.number) (j:=(1:Int)) rfl (hl.D 2 94 rfl rfl) (Rel.of_lit (Go.Value.int Go.IntKind.i64 1)) sfz sfz hx
       exact oX rfl fun hx hl=>ZA ZbL rfl (hl.env 2 9 _ rfl rfl) hx
       exact oX rfl fun hx hl=>Zeu (i:=x9.number-(1:Int)) (j:=(f.hyps.length:Int)) rfl (hl.D 3 95 rfl rfl) (hl.D 4 96 rfl rfl) sfz sfz hx
       exact oX rfl fun hx hl=>Yg (i:=x9.number-(1:Int)-(f.hyps.length:Int)) Zn rfl (hl.D 1 93 rfl rfl) (hl.D 5 97 rfl rfl) sfz (ZdE (xs:=z4.1.1) (i:=x9.number-(1:Int)-(f.hyps.length:Int)) sfz sfz) rfl hx
       exact oX rfl fun hx hl=>ZA Q1 rfl (hl.D 6 98 rfl rfl) hx
       exact fun _ O' hO'=>⟨rfl,fun _ _ hk hx hl _=>Y9 (ZmB hJ (b:=b) (d:=d) (f:=f) (M:=M) (L:=L) (vi:=wv) (vs:=vs) (vt:=vt) (n:=n) (kn:=kn) (y1:=y1) (y2:=y2) (s:=(ge z4.1.1 (x9.number-(1:Int)-(f.hyps.length:Int)).toNat)) sfz) ZjR rfl (Zr hS _ hk hx) (hx.1) (ZG (Zd hx (hO' _ (mo 2 rfl))) (ZG (Zd hx (hO' _ (mo 4 rfl))) Zq)) (Za (hl.D 0 92 rfl rfl) (Za (hl.D 7 99 rfl rfl) Ze)) (jo hJ hx)⟩
       exact Zi rfl
       case e24_6_0=>exact⟨_,rfl,rfl,rfl,rfl,fun g _ w hk hx hl _=>(by obtain⟨us2,hv2,hr3⟩:=Zap (cs:=[.lit (.int .i64 ((nmE f L z4.1.1 x9).kind)),Zb ((nmE f L z4.1.1 x9).text),.lit (.int .i64 ((nmE f L z4.1.1 x9).number)),.lit (.bool ((nmE f L z4.1.1 x9).tagged))]) (hl.D 8 100 rfl rfl);exact Zp (XJ (off:=0) (cs:=[.lit (.int .i64 0),Zb ([]:List ByteArray),.lit (.int .i64 0),.lit (.bool false)]) (news:=[.lit (.int .i64 ((nmE f L z4.1.1 x9).kind)),Zb ((nmE f L z4.1.1 x9).text),.lit (.int .i64 ((nmE f L z4.1.1 x9).number)),.lit (.bool ((nmE f L z4.1.1 x9).tagged))]) (es:=[.lit (.int .i64 ((nmE f L z4.1.1 x9).kind)),Zb ((nmE f L z4.1.1 x9).text),.lit (.int .i64 ((nmE f L z4.1.1 x9).number)),.lit (.bool ((nmE f L z4.1.1 x9).tagged))]) (us:=us2) hJ hJ0 Xw rfl hk hx (hl.env 0 12 _ rfl rfl) (by rw[hv2];rfl) hr3 (lb rfl) rfl) fun v w' hp=>⟨g,rfl,fun _ _=>rfl,fun e=>(by cases e),hp⟩)⟩
       clear a w h
       intro _
       dsimp only[List.map]
       refine nx (Zj (tsq ?_))
       refine snK 2 tb rfl ?_
       refine sq (.at b11 3) rfl rfl (lb rfl) (fun _ _ h=>Zm Y5 rfl (h.get 2 rfl) h.x) ?_
       refine ZJ (b:=b11) (off:=3) (cs:=[.lit (.int .i64 ((nmE f L z4.1.1 x9).kind)),Zb ((nmE f L z4.1.1 x9).text),.lit (.int .i64 ((nmE f L z4.1.1 x9).number)),.lit (.bool ((nmE f L z4.1.1 x9).tagged))]) (es:=[.lit (.int .i64 ((nmE f L z4.1.1 x9).kind)),Zb ((nmE f L z4.1.1 x9).text),.lit (.int .i64 ((nmE f L z4.1.1 x9).number)),.lit (.bool x9.tagged)]) hJ hJ0 QO rfl rfl rfl (lb rfl) rfl (fun a w h=>⟨(h.get 0 rfl),(h.get 1 rfl)⟩) ?_
       refine seK [3,5,6,7,8] [_,_,_,_,_] rfl ?_
       refine nx (ZI tb hJ [0,1,2,3,4,1001] [.at b11 3,.bool x9.tagged] [0,1] [_,_,_,_,_,_] rfl ⟨fun _ _ _ hx hl _=>Zm Y5 rfl (hl.env 0 12 _ rfl rfl) hx,fun _ _ _ hx hl _=>Zo (cs:=[.lit (.int .i64 ((nmE f L z4.1.1 x9).kind)),Zb ((nmE f L z4.1.1 x9).text),.lit (.int .i64 ((nmE f L z4.1.1 x9).number)),.lit (.bool x9.tagged)]) ZgC rfl (Zd hx (mo 0 rfl)) (hl.D 0 121 rfl rfl) rfl hx,trivial⟩ ?_)
       refine cj 5 (fun hb9=>?_) fun hb9=>?_
       ·
        try simp at hb9
        refine Zw (sq (.int (tg:Nat)) rfl rfl (lb rfl) (fun _ _ h=>Zo (cs:=[.lit (.int .i64 (tg:Int))]) ZbL rfl (Zd h.x (mo 1 rfl)) (h.get 2 rfl) rfl h.x) ?_)
        refine sq (.int (tg+1:Nat)) rfl rfl (lb rfl) (fun _ _ h=>Zgm (i:=(tg:Int)) (j:=(1:Int)) rfl (h.get 0 rfl) (Rel.of_lit (Go.Value.int Go.IntKind.i64 1)) sfz sfz h.x) ?_
        refine kw pm1 ?_
        refine ZJ (b:=b10) (off:=0) (cs:=[.lit (.int .i64 (tg:Int))]) (es:=[.lit (.int .i64 ((tg+1:Nat):Int))]) hJ hJ0 QP rfl rfl rfl (lb rfl) rfl (fun a w h=>⟨(h.get 4 rfl),(h.get 0 rfl)⟩) ?_
        refine seK [2,3,4,5,6] [_,_,_,_,_] rfl ?_
        refine nx (tw pm2 ?_)
        refine tw pm3 ?_
        refine fun a w h=>YH (OB.var b (mkR d f M wv vs vt n kn y1 y2)::OB.var b10 [.lit (.int .i64 ((tg+1:Nat):Int))]::OB.var b11 [.lit (.int .i64 ((nmE f L z4.1.1 x9).kind)),Zb ((nmE f L z4.1.1 x9).text),.lit (.int .i64 ((nmE f L z4.1.1 x9).number)),.lit (.bool x9.tagged)]::OB.mI M L::R') (γ:=Value) (fun ix'=>([.at b 0,.at b 0,.at b 0,.at b 12,.lit wv,.agg (itC (⟨(nmE f L z4.1.1 x9).kind,(nmE f L z4.1.1 x9).text,(nmE f L z4.1.1 x9).number,x9.tagged⟩:Itm)),.rd (XL ([(⟨(nmE f L z4.1.1 x9).kind,(nmE f L z4.1.1 x9).text,(nmE f L z4.1.1 x9).number,x9.tagged⟩:Itm)])),.any,.at b 0,.at b 12,.any]:List AV).getD ix' .any) (fun _=>true) [(9,fun(g:Value)=>.ptr [.lit (.int .i64 (f.hyps.length:Int))]),(10,fun(g:Value)=>.at b10 0),(6,fun(g:Value)=>.ptr [Zb z4.1.1]),(2,fun(g:Value)=>.ptr [.lit (.pointer (some ⟨b,0,none⟩))])] (fun(j':Nat) (g:Value)=>match j' with | 0=>(OB.row wv 147 4 (ys.map itC)::OB.var b (mkR d f M wv vs vt n kn y1 y2)::OB.var b10 [.lit (.int .i64 ((tg+1:Nat):Int))]::OB.var b11 [.lit (.int .i64 ((nmE f L z4.1.1 x9).kind)),Zb ((nmE f L z4.1.1 x9).text),.lit (.int .i64 ((nmE f L z4.1.1 x9).number)),.lit (.bool x9.tagged)]::OB.mI M L::R') | 1=>(OB.row g 147 4 ((ys++([(⟨(nmE f L z4.1.1 x9).kind,(nmE f L z4.1.1 x9).text,(nmE f L z4.1.1 x9).number,x9.tagged⟩:Itm)])).map itC)::OB.var b (mkR d f M wv vs vt n kn y1 y2)::OB.var b10 [.lit (.int .i64 ((tg+1:Nat):Int))]::OB.var b11 [.lit (.int .i64 ((nmE f L z4.1.1 x9).kind)),Zb ((nmE f L z4.1.1 x9).text),.lit (.int .i64 ((nmE f L z4.1.1 x9).number)),.lit (.bool x9.tagged)]::OB.mI M L::R') | _=>(OB.row g 147 4 ((ys++([(⟨(nmE f L z4.1.1 x9).kind,(nmE f L z4.1.1 x9).text,(nmE f L z4.1.1 x9).number,x9.tagged⟩:Itm)])).map itC)::OB.var b (mkR d f M g vs vt n kn y1 y2)::OB.var b10 [.lit (.int .i64 ((tg+1:Nat):Int))]::OB.var b11 [.lit (.int .i64 ((nmE f L z4.1.1 x9).kind)),Zb ((nmE f L z4.1.1 x9).text),.lit (.int .i64 ((nmE f L z4.1.1 x9).number)),.lit (.bool x9.tagged)]::OB.mI M L::R')) (fun(k':Nat) (g:Value)=>match k' with | 0=>g | 1=>undef | _=>undef) [7,10] 1 (.slice none 0 0) (fun _=>rfl) h hJ Yh rfl rfl rfl rfl rfl rfl (fun j' g hj p hp=>by rcases j' with _ | _ | _ | j'<;>first | exact hp | exact List.mem_cons_of_mem _ hp | exact List.mem_cons_of_mem _ (List.mem_cons_of_mem _ hp) | (exfalso;omega)) ⟨?_,⟨?_,⟨?_,⟨?_,⟨?_,⟨?_,⟨?_,⟨?_,⟨?_,⟨?_,⟨?_,trivial⟩⟩⟩⟩⟩⟩⟩⟩⟩⟩⟩ ⟨?e30_7_0,⟨?e30_7_1,trivial⟩⟩ ⟨.old 1 9 _ rfl rfl,⟨.old 2 10 _ rfl rfl,⟨.old 3 6 _ rfl rfl,⟨.old 4 2 _ rfl rfl,trivial⟩⟩⟩⟩ ?n30_7
        exact oX rfl fun hx hl=>ZA ZU rfl (hl.env 4 2 _ rfl rfl) hx
        exact oX rfl fun hx hl=>ZA ZU rfl (hl.env 4 2 _ rfl rfl) hx
        exact oX rfl fun hx hl=>Zk rfl (hl.D 1 126 rfl rfl) hx
        exact oX rfl fun hx hl=>Zm ZH rfl (hl.D 2 127 rfl rfl) hx
        exact fun _ O' hO'=>⟨rfl,fun _ _ _ hx hl _=>Zo (cs:=(mkR d f M wv vs vt n kn y1 y2)) Qp rfl (Zd hx (hO' _ (mo 0 rfl))) (hl.D 3 128 rfl rfl) rfl hx⟩
        exact fun _ O' hO'=>⟨rfl,fun _ _ _ hx hl _=>YI (cs:=[.lit (.int .i64 ((nmE f L z4.1.1 x9).kind)),Zb ((nmE f L z4.1.1 x9).text),.lit (.int .i64 ((nmE f L z4.1.1 x9).number)),.lit (.bool x9.tagged)]) (ds:=[.lit (.int .i64 ((nmE f L z4.1.1 x9).kind)),Zb ((nmE f L z4.1.1 x9).text),.lit (.int .i64 ((nmE f L z4.1.1 x9).number)),.lit (.bool x9.tagged)]) YU rfl (Zd hx (hO' _ (mo 2 rfl))) (hl.env 0 12 _ rfl rfl) rfl rfl hx⟩
        exact oY rfl fun hk hx hl=>XF Yi Qr rfl rfl (hl.D 5 130 rfl rfl) (Zr hS _ hk hx _ (Nat.le_refl _)) (jo hJ hx)
        exact Zi rfl
        exact oX rfl fun hx hl=>Zk rfl (hl.D 0 125 rfl rfl) hx
        exact oX rfl fun hx hl=>Zm ZH rfl (hl.D 8 133 rfl rfl) hx
        exact Zi rfl
        case e30_7_0=>exact⟨_,rfl,rfl,rfl,rfl,fun _ _ w hk hx hl _=>Zp (YS (f:=itC) ys ([(⟨(nmE f L z4.1.1 x9).kind,(nmE f L z4.1.1 x9).text,(nmE f L z4.1.1 x9).number,x9.tagged⟩:Itm)]) (fun _=>rfl) Y6 hJ hJ0 rfl hk hx (hl.D 4 129 rfl rfl).lit (hl.D 6 131 rfl rfl) sfz sfz) fun v w' hp=>⟨v,rfl,fun k' hk'=>absurd hk' (Nat.not_lt_zero _),fun _=>rfl,hp⟩⟩
        case e30_7_1=>exact⟨_,rfl,rfl,rfl,rfl,fun g _ w hk hx hl hs=>Zp (X2 (off:=12) (cs:=(mkR d f M wv vs vt n kn y1 y2)) (es:=(mkR d f M g vs vt n kn y1 y2)) (c:=.lit g) hJ hJ0 Xe rfl hk hx (hl.D 9 134 rfl rfl) (by rw[(hs 0 7 _ 132 (by omega) rfl rfl rfl)];exact Rel.of_lit _ (Xh (hx.2.1 _ (mo 0 rfl)))) (lb rfl) rfl) fun v w' hp=>⟨g,rfl,fun _ _=>rfl,fun e=>(by cases e),hp⟩⟩
        clear a w h
        intro v16
        dsimp only[List.map]
        refine kw pm3 ?_
        refine kw Zy ?_
        refine kw pm3 ?_
        refine kw pm1 ?_
        refine kw pm2 ?_
        refine kw pm3 ?_
        refine kw (fun h=>Xo (p:=(Yd f L z4.1.1 (pre++[x9]) 0=some (ys++([(⟨(nmE f L z4.1.1 x9).kind,(nmE f L z4.1.1 x9).text,(nmE f L z4.1.1 x9).number,x9.tagged⟩:Itm)])))∧((tg+1)=tgN (pre++[x9]))∧((ys++([(⟨(nmE f L z4.1.1 x9).kind,(nmE f L z4.1.1 x9).text,(nmE f L z4.1.1 x9).number,x9.tagged⟩:Itm)])).length=(pre++[x9]).length)) (⟨XR r1_ (by rw[←r2_];exact e9),by rw[QM,r2_];simp[hb9],by simp[r3_]⟩) h) ?_
        exact fun a w h=>⟨(v16,ys++([(⟨(nmE f L z4.1.1 x9).kind,(nmE f L z4.1.1 x9).text,(nmE f L z4.1.1 x9).number,x9.tagged⟩:Itm)]),tg+1),h.keep,h.x⟩
       ·
        try simp at hb9
        refine Zc (nx (tw pm2 ?_))
        refine tw pm3 ?_
        refine fun a w h=>YH (OB.var b (mkR d f M wv vs vt n kn y1 y2)::OB.var b11 [.lit (.int .i64 ((nmE f L z4.1.1 x9).kind)),Zb ((nmE f L z4.1.1 x9).text),.lit (.int .i64 ((nmE f L z4.1.1 x9).number)),.lit (.bool x9.tagged)]::OB.var b10 [.lit (.int .i64 (tg:Int))]::OB.mI M L::R') (γ:=Value) (fun ix'=>([.at b 0,.at b 0,.at b 0,.at b 12,.lit wv,.agg (itC (⟨(nmE f L z4.1.1 x9).kind,(nmE f L z4.1.1 x9).text,(nmE f L z4.1.1 x9).number,x9.tagged⟩:Itm)),.rd (XL ([(⟨(nmE f L z4.1.1 x9).kind,(nmE f L z4.1.1 x9).text,(nmE f L z4.1.1 x9).number,x9.tagged⟩:Itm)])),.any,.at b 0,.at b 12,.any]:List AV).getD ix' .any) (fun _=>true) [(9,fun(g:Value)=>.ptr [.lit (.int .i64 (f.hyps.length:Int))]),(10,fun(g:Value)=>.at b10 0),(6,fun(g:Value)=>.ptr [Zb z4.1.1]),(2,fun(g:Value)=>.ptr [.lit (.pointer (some ⟨b,0,none⟩))])] (fun(j':Nat) (g:Value)=>match j' with | 0=>(OB.row wv 147 4 (ys.map itC)::OB.var b (mkR d f M wv vs vt n kn y1 y2)::OB.var b11 [.lit (.int .i64 ((nmE f L z4.1.1 x9).kind)),Zb ((nmE f L z4.1.1 x9).text),.lit (.int .i64 ((nmE f L z4.1.1 x9).number)),.lit (.bool x9.tagged)]::OB.var b10 [.lit (.int .i64 (tg:Int))]::OB.mI M L::R') | 1=>(OB.row g 147 4 ((ys++([(⟨(nmE f L z4.1.1 x9).kind,(nmE f L z4.1.1 x9).text,(nmE f L z4.1.1 x9).number,x9.tagged⟩:Itm)])).map itC)::OB.var b (mkR d f M wv vs vt n kn y1 y2)::OB.var b11 [.lit (.int .i64 ((nmE f L z4.1.1 x9).kind)),Zb ((nmE f L z4.1.1 x9).text),.lit (.int .i64 ((nmE f L z4.1.1 x9).number)),.lit (.bool x9.tagged)]::OB.var b10 [.lit (.int .i64 (tg:Int))]::OB.mI M L::R') | _=>(OB.row g 147 4 ((ys++([(⟨(nmE f L z4.1.1 x9).kind,(nmE f L z4.1.1 x9).text,(nmE f L z4.1.1 x9).number,x9.tagged⟩:Itm)])).map itC)::OB.var b (mkR d f M g vs vt n kn y1 y2)::OB.var b11 [.lit (.int .i64 ((nmE f L z4.1.1 x9).kind)),Zb ((nmE f L z4.1.1 x9).text),.lit (.int .i64 ((nmE f L z4.1.1 x9).number)),.lit (.bool x9.tagged)]::OB.var b10 [.lit (.int .i64 (tg:Int))]::OB.mI M L::R')) (fun(k':Nat) (g:Value)=>match k' with | 0=>g | 1=>undef | _=>undef) [7,10] 1 (.slice none 0 0) (fun _=>rfl) h hJ Yh rfl rfl rfl rfl rfl rfl (fun j' g hj p hp=>by rcases j' with _ | _ | _ | j'<;>first | exact hp | exact List.mem_cons_of_mem _ hp | exact List.mem_cons_of_mem _ (List.mem_cons_of_mem _ hp) | (exfalso;omega)) ⟨?_,⟨?_,⟨?_,⟨?_,⟨?_,⟨?_,⟨?_,⟨?_,⟨?_,⟨?_,⟨?_,trivial⟩⟩⟩⟩⟩⟩⟩⟩⟩⟩⟩ ⟨?e30_8_0,⟨?e30_8_1,trivial⟩⟩ ⟨.old 1 9 _ rfl rfl,⟨.old 2 10 _ rfl rfl,⟨.old 3 6 _ rfl rfl,⟨.old 4 2 _ rfl rfl,trivial⟩⟩⟩⟩ ?n30_8
        exact oX rfl fun hx hl=>ZA ZU rfl (hl.env 4 2 _ rfl rfl) hx
        exact oX rfl fun hx hl=>ZA ZU rfl (hl.env 4 2 _ rfl rfl) hx
        exact oX rfl fun hx hl=>Zk rfl (hl.D 1 126 rfl rfl) hx
        exact oX rfl fun hx hl=>Zm ZH rfl (hl.D 2 127 rfl rfl) hx
        exact fun _ O' hO'=>⟨rfl,fun _ _ _ hx hl _=>Zo (cs:=(mkR d f M wv vs vt n kn y1 y2)) Qp rfl (Zd hx (hO' _ (mo 0 rfl))) (hl.D 3 128 rfl rfl) rfl hx⟩
        exact fun _ O' hO'=>⟨rfl,fun _ _ _ hx hl _=>YI (cs:=[.lit (.int .i64 ((nmE f L z4.1.1 x9).kind)),Zb ((nmE f L z4.1.1 x9).text),.lit (.int .i64 ((nmE f L z4.1.1 x9).number)),.lit (.bool x9.tagged)]) (ds:=[.lit (.int .i64 ((nmE f L z4.1.1 x9).kind)),Zb ((nmE f L z4.1.1 x9).text),.lit (.int .i64 ((nmE f L z4.1.1 x9).number)),.lit (.bool x9.tagged)]) YU rfl (Zd hx (hO' _ (mo 1 rfl))) (hl.env 0 12 _ rfl rfl) rfl rfl hx⟩
        exact oY rfl fun hk hx hl=>XF Yi Qr rfl rfl (hl.D 5 130 rfl rfl) (Zr hS _ hk hx _ (Nat.le_refl _)) (jo hJ hx)
        exact Zi rfl
        exact oX rfl fun hx hl=>Zk rfl (hl.D 0 125 rfl rfl) hx
        exact oX rfl fun hx hl=>Zm ZH rfl (hl.D 8 133 rfl rfl) hx
        exact Zi rfl
        case e30_8_0=>exact⟨_,rfl,rfl,rfl,rfl,fun _ _ w hk hx hl _=>Zp (YS (f:=itC) ys ([(⟨(nmE f L z4.1.1 x9).kind,(nmE f L z4.1.1 x9).text,(nmE f L z4.1.1 x9).number,x9.tagged⟩:Itm)]) (fun _=>rfl) Y6 hJ hJ0 rfl hk hx (hl.D 4 129 rfl rfl).lit (hl.D 6 131 rfl rfl) sfz sfz) fun v w' hp=>⟨v,rfl,fun k' hk'=>absurd hk' (Nat.not_lt_zero _),fun _=>rfl,hp⟩⟩
        case e30_8_1=>exact⟨_,rfl,rfl,rfl,rfl,fun g _ w hk hx hl hs=>Zp (X2 (off:=12) (cs:=(mkR d f M wv vs vt n kn y1 y2)) (es:=(mkR d f M g vs vt n kn y1 y2)) (c:=.lit g) hJ hJ0 Xe rfl hk hx (hl.D 9 134 rfl rfl) (by rw[(hs 0 7 _ 132 (by omega) rfl rfl rfl)];exact Rel.of_lit _ (Xh (hx.2.1 _ (mo 0 rfl)))) (lb rfl) rfl) fun v w' hp=>⟨g,rfl,fun _ _=>rfl,fun e=>(by cases e),hp⟩⟩
        clear a w h
        intro v17
        dsimp only[List.map]
        refine kw pm2 ?_
        refine kw Zy ?_
        refine kw pm3 ?_
        refine kw pm1 ?_
        refine kw pm2 ?_
        refine kw pm3 ?_
        refine kw (fun h=>Xo (p:=(Yd f L z4.1.1 (pre++[x9]) 0=some (ys++([(⟨(nmE f L z4.1.1 x9).kind,(nmE f L z4.1.1 x9).text,(nmE f L z4.1.1 x9).number,x9.tagged⟩:Itm)])))∧(tg=tgN (pre++[x9]))∧((ys++([(⟨(nmE f L z4.1.1 x9).kind,(nmE f L z4.1.1 x9).text,(nmE f L z4.1.1 x9).number,x9.tagged⟩:Itm)])).length=(pre++[x9]).length)) (⟨XR r1_ (by rw[←r2_];exact e9),by rw[QM,r2_];simp[hb9],by simp[r3_]⟩) h) ?_
        exact fun a w h=>⟨(v17,ys++([(⟨(nmE f L z4.1.1 x9).kind,(nmE f L z4.1.1 x9).text,(nmE f L z4.1.1 x9).number,x9.tagged⟩:Itm)]),tg),h.keep,h.x⟩
      ·
       try simp at hb7
       refine ZI tb hJ [0,1,2,3,4,5,6,1008] [_,_,_,.int (z4.1.1.length:Nat),.int (f.hyps.length+z4.1.1.length:Nat),.int (tg:Nat),.int (f.hyps.length+z4.1.1.length+tg:Nat),_,_] [3,4,5,6] [_,_,_,_,_,_,_,_] rfl ⟨YG Zv,Yv,fun _ _ _ hx hl _=>Zo (cs:=[.lit (.int .i64 (tg:Int))]) ZbL rfl (Zd hx (mo 1 rfl)) (hl.env 3 10 _ rfl rfl) rfl hx,Yv,trivial⟩ ?_
       refine cj 7 (fun hb8=>?_) fun hb8=>?_
       ·
        try simp at hb8
        have e9:=item_4 (f:=f) (L:=L) (lb:=z4.1.1) (tg:=tg) hb5 (by omega) (by omega) (by omega)
        refine Zw (snK 1 tb rfl ?_)
        refine sq (.int (x9.number-(1:Int))) rfl rfl (lb rfl) (fun _ _ h=>Zeu (i:=x9.number) (j:=(1:Int)) rfl (h.get 0 rfl) (Rel.of_lit (Go.Value.int Go.IntKind.i64 1)) sfz sfz h.x) ?_
        refine snK 1 tb rfl ?_
        refine sq (.int (x9.number-(1:Int)-(f.hyps.length:Int))) rfl rfl (lb rfl) (fun _ _ h=>Zeu (i:=x9.number-(1:Int)) (j:=(f.hyps.length:Int)) rfl (h.get 1 rfl) (h.get 0 rfl) sfz sfz h.x) ?_
        refine snK 1 tb rfl ?_
        refine sq (.int (z4.1.1.length:Nat)) rfl rfl (lb rfl) (fun _ _ h=>ZaD Zv rfl (h.get 0 rfl) h.x) ?_
        refine sq (.int (x9.number-(1:Int)-(f.hyps.length:Int)-(z4.1.1.length:Int))) rfl rfl (lb rfl) (fun _ _ h=>Zeu (i:=x9.number-(1:Int)-(f.hyps.length:Int)) (j:=(z4.1.1.length:Int)) rfl (h.get 2 rfl) (h.get 0 rfl) sfz sfz h.x) ?_
        refine sq (.agg (itC (⟨(4:Int),[],x9.number-(1:Int)-(f.hyps.length:Int)-(z4.1.1.length:Int),false⟩:Itm))) rfl rfl (lb rfl) (fun a _ h=>Xk (ps:=[(0,a.eval (Go.Operand.const (Go.Value.int Go.IntKind.i64 4))),(2,a.eval (Go.Operand.tmp 116))]) (us:=[a.eval (Go.Operand.const (Go.Value.int Go.IntKind.i64 4)),.slice none 0 0,a.eval (Go.Operand.tmp 116),.bool false]) Qg rfl (by simp) (ZjY (lb rfl) rfl (ZjY (lb rfl) (Rel.oneC (h.get 0 rfl)) ZjZ)) rfl (Zz (Rel.of_lit (Go.Value.int Go.IntKind.i64 4)) (XU (.nil _ _ (Nat.zero_le _)) (Zz (h.get 0 rfl) (XU (.lit _ True.intro) Yb)))) h.x) ?_
        refine ZE (b:=b11) (off:=0) (cs:=[.lit (.int .i64 0),Zb ([]:List ByteArray),.lit (.int .i64 0),.lit (.bool false)]) (es:=[.lit (.int .i64 (4:Int)),Zb ([]:List ByteArray),.lit (.int .i64 (x9.number-(1:Int)-(f.hyps.length:Int)-(z4.1.1.length:Int))),.lit (.bool false)]) (news:=[.lit (.int .i64 (4:Int)),Zb ([]:List ByteArray),.lit (.int .i64 (x9.number-(1:Int)-(f.hyps.length:Int)-(z4.1.1.length:Int))),.lit (.bool false)]) hJ hJ0 Xw rfl rfl rfl (lb rfl) rfl (fun a w h=>⟨(h.get 8 rfl),(h.get 0 rfl)⟩) ?_
        refine seK [8,9,10,11,12,13] [_,_,_,_,_,_] rfl ?_
        refine nx (Zj (tsq ?_))
        refine snK 2 tb rfl ?_
        refine sq (.at b11 3) rfl rfl (lb rfl) (fun _ _ h=>Zm Y5 rfl (h.get 2 rfl) h.x) ?_
        refine ZJ (b:=b11) (off:=3) (cs:=[.lit (.int .i64 (4:Int)),Zb ([]:List ByteArray),.lit (.int .i64 (x9.number-(1:Int)-(f.hyps.length:Int)-(z4.1.1.length:Int))),.lit (.bool false)]) (es:=[.lit (.int .i64 (4:Int)),Zb ([]:List ByteArray),.lit (.int .i64 (x9.number-(1:Int)-(f.hyps.length:Int)-(z4.1.1.length:Int))),.lit (.bool x9.tagged)]) hJ hJ0 QO rfl rfl rfl (lb rfl) rfl (fun a w h=>⟨(h.get 0 rfl),(h.get 1 rfl)⟩) ?_
        refine seK [3,5,6,7,8] [_,_,_,_,_] rfl ?_
        refine nx (ZI tb hJ [0,1,2,3,4,1001] [.at b11 3,.bool x9.tagged] [0,1] [_,_,_,_,_,_] rfl ⟨fun _ _ _ hx hl _=>Zm Y5 rfl (hl.env 0 12 _ rfl rfl) hx,fun _ _ _ hx hl _=>Zo (cs:=[.lit (.int .i64 (4:Int)),Zb ([]:List ByteArray),.lit (.int .i64 (x9.number-(1:Int)-(f.hyps.length:Int)-(z4.1.1.length:Int))),.lit (.bool x9.tagged)]) ZgC rfl (Zd hx (mo 0 rfl)) (hl.D 0 121 rfl rfl) rfl hx,trivial⟩ ?_)
        refine cj 5 (fun hb9=>?_) fun hb9=>?_
        ·
         try simp at hb9
         refine Zw (sq (.int (tg:Nat)) rfl rfl (lb rfl) (fun _ _ h=>Zo (cs:=[.lit (.int .i64 (tg:Int))]) ZbL rfl (Zd h.x (mo 1 rfl)) (h.get 2 rfl) rfl h.x) ?_)
         refine sq (.int (tg+1:Nat)) rfl rfl (lb rfl) (fun _ _ h=>Zgm (i:=(tg:Int)) (j:=(1:Int)) rfl (h.get 0 rfl) (Rel.of_lit (Go.Value.int Go.IntKind.i64 1)) sfz sfz h.x) ?_
         refine kw pm1 ?_
         refine ZJ (b:=b10) (off:=0) (cs:=[.lit (.int .i64 (tg:Int))]) (es:=[.lit (.int .i64 ((tg+1:Nat):Int))]) hJ hJ0 QP rfl rfl rfl (lb rfl) rfl (fun a w h=>⟨(h.get 4 rfl),(h.get 0 rfl)⟩) ?_
         refine seK [2,3,4,5,6] [_,_,_,_,_] rfl ?_
         refine nx (tw pm2 ?_)
         refine tw pm3 ?_
         refine fun a w h=>YH (OB.var b (mkR d f M wv vs vt n kn y1 y2)::OB.var b10 [.lit (.int .i64 ((tg+1:Nat):Int))]::OB.var b11 [.lit (.int .i64 (4:Int)),Zb ([]:List ByteArray),.lit (.int .i64 (x9.number-(1:Int)-(f.hyps.length:Int)-(z4.1.1.length:Int))),.lit (.bool x9.tagged)]::OB.mI M L::R') (γ:=Value) (fun ix'=>([.at b 0,.at b 0,.at b 0,.at b 12,.lit wv,.agg (itC (⟨(4:Int),([]:List ByteArray),x9.number-(1:Int)-(f.hyps.length:Int)-(z4.1.1.length:Int),x9.tagged⟩:Itm)),.rd (XL ([(⟨(4:Int),([]:List ByteArray),x9.number-(1:Int)-(f.hyps.length:Int)-(z4.1.1.length:Int),x9.tagged⟩:Itm)])),.any,.at b 0,.at b 12,.any]:List AV).getD ix' .any) (fun _=>true) [(9,fun(g:Value)=>.ptr [.lit (.int .i64 (f.hyps.length:Int))]),(10,fun(g:Value)=>.at b10 0),(6,fun(g:Value)=>.ptr [Zb z4.1.1]),(2,fun(g:Value)=>.ptr [.lit (.pointer (some ⟨b,0,none⟩))])] (fun(j':Nat) (g:Value)=>match j' with | 0=>(OB.row wv 147 4 (ys.map itC)::OB.var b (mkR d f M wv vs vt n kn y1 y2)::OB.var b10 [.lit (.int .i64 ((tg+1:Nat):Int))]::OB.var b11 [.lit (.int .i64 (4:Int)),Zb ([]:List ByteArray),.lit (.int .i64 (x9.number-(1:Int)-(f.hyps.length:Int)-(z4.1.1.length:Int))),.lit (.bool x9.tagged)]::OB.mI M L::R') | 1=>(OB.row g 147 4 ((ys++([(⟨(4:Int),([]:List ByteArray),x9.number-(1:Int)-(f.hyps.length:Int)-(z4.1.1.length:Int),x9.tagged⟩:Itm)])).map itC)::OB.var b (mkR d f M wv vs vt n kn y1 y2)::OB.var b10 [.lit (.int .i64 ((tg+1:Nat):Int))]::OB.var b11 [.lit (.int .i64 (4:Int)),Zb ([]:List ByteArray),.lit (.int .i64 (x9.number-(1:Int)-(f.hyps.length:Int)-(z4.1.1.length:Int))),.lit (.bool x9.tagged)]::OB.mI M L::R') | _=>(OB.row g 147 4 ((ys++([(⟨(4:Int),([]:List ByteArray),x9.number-(1:Int)-(f.hyps.length:Int)-(z4.1.1.length:Int),x9.tagged⟩:Itm)])).map itC)::OB.var b (mkR d f M g vs vt n kn y1 y2)::OB.var b10 [.lit (.int .i64 ((tg+1:Nat):Int))]::OB.var b11 [.lit (.int .i64 (4:Int)),Zb ([]:List ByteArray),.lit (.int .i64 (x9.number-(1:Int)-(f.hyps.length:Int)-(z4.1.1.length:Int))),.lit (.bool x9.tagged)]::OB.mI M L::R')) (fun(k':Nat) (g:Value)=>match k' with | 0=>g | 1=>undef | _=>undef) [7,10] 1 (.slice none 0 0) (fun _=>rfl) h hJ Yh rfl rfl rfl rfl rfl rfl (fun j' g hj p hp=>by rcases j' with _ | _ | _ | j'<;>first | exact hp | exact List.mem_cons_of_mem _ hp | exact List.mem_cons_of_mem _ (List.mem_cons_of_mem _ hp) | (exfalso;omega)) ⟨?_,⟨?_,⟨?_,⟨?_,⟨?_,⟨?_,⟨?_,⟨?_,⟨?_,⟨?_,⟨?_,trivial⟩⟩⟩⟩⟩⟩⟩⟩⟩⟩⟩ ⟨?e30_9_0,⟨?e30_9_1,trivial⟩⟩ ⟨.old 1 9 _ rfl rfl,⟨.old 2 10 _ rfl rfl,⟨.old 3 6 _ rfl rfl,⟨.old 4 2 _ rfl rfl,trivial⟩⟩⟩⟩ ?n30_9
         exact oX rfl fun hx hl=>ZA ZU rfl (hl.env 4 2 _ rfl rfl) hx
         exact oX rfl fun hx hl=>ZA ZU rfl (hl.env 4 2 _ rfl rfl) hx
         exact oX rfl fun hx hl=>Zk rfl (hl.D 1 126 rfl rfl) hx
         exact oX rfl fun hx hl=>Zm ZH rfl (hl.D 2 127 rfl rfl) hx
         exact fun _ O' hO'=>⟨rfl,fun _ _ _ hx hl _=>Zo (cs:=(mkR d f M wv vs vt n kn y1 y2)) Qp rfl (Zd hx (hO' _ (mo 0 rfl))) (hl.D 3 128 rfl rfl) rfl hx⟩
         exact fun _ O' hO'=>⟨rfl,fun _ _ _ hx hl _=>YI (cs:=[.lit (.int .i64 (4:Int)),Zb ([]:List ByteArray),.lit (.int .i64 (x9.number-(1:Int)-(f.hyps.length:Int)-(z4.1.1.length:Int))),.lit (.bool x9.tagged)]) (ds:=[.lit (.int .i64 (4:Int)),Zb ([]:List ByteArray),.lit (.int .i64 (x9.number-(1:Int)-(f.hyps.length:Int)-(z4.1.1.length:Int))),.lit (.bool x9.tagged)]) YU rfl (Zd hx (hO' _ (mo 2 rfl))) (hl.env 0 12 _ rfl rfl) rfl rfl hx⟩
         exact oY rfl fun hk hx hl=>XF Yi Qr rfl rfl (hl.D 5 130 rfl rfl) (Zr hS _ hk hx _ (Nat.le_refl _)) (jo hJ hx)
         exact Zi rfl
         exact oX rfl fun hx hl=>Zk rfl (hl.D 0 125 rfl rfl) hx
         exact oX rfl fun hx hl=>Zm ZH rfl (hl.D 8 133 rfl rfl) hx
         exact Zi rfl
         case e30_9_0=>exact⟨_,rfl,rfl,rfl,rfl,fun _ _ w hk hx hl _=>Zp (YS (f:=itC) ys ([(⟨(4:Int),([]:List ByteArray),x9.number-(1:Int)-(f.hyps.length:Int)-(z4.1.1.length:Int),x9.tagged⟩:Itm)]) (fun _=>rfl) Y6 hJ hJ0 rfl hk hx (hl.D 4 129 rfl rfl).lit (hl.D 6 131 rfl rfl) sfz sfz) fun v w' hp=>⟨v,rfl,fun k' hk'=>absurd hk' (Nat.not_lt_zero _),fun _=>rfl,hp⟩⟩
         case e30_9_1=>exact⟨_,rfl,rfl,rfl,rfl,fun g _ w hk hx hl hs=>Zp (X2 (off:=12) (cs:=(mkR d f M wv vs vt n kn y1 y2)) (es:=(mkR d f M g vs vt n kn y1 y2)) (c:=.lit g) hJ hJ0 Xe rfl hk hx (hl.D 9 134 rfl rfl) (by rw[(hs 0 7 _ 132 (by omega) rfl rfl rfl)];exact Rel.of_lit _ (Xh (hx.2.1 _ (mo 0 rfl)))) (lb rfl) rfl) fun v w' hp=>⟨g,rfl,fun _ _=>rfl,fun e=>(by cases e),hp⟩⟩
         clear a w h
         intro v18
         dsimp only[List.map]
         refine kw pm3 ?_
         refine kw Zy ?_
         refine kw pm3 ?_
         refine kw pm1 ?_
         refine kw pm2 ?_
         refine kw pm3 ?_
         refine kw (fun h=>Xo (p:=(Yd f L z4.1.1 (pre++[x9]) 0=some (ys++([(⟨(4:Int),([]:List ByteArray),x9.number-(1:Int)-(f.hyps.length:Int)-(z4.1.1.length:Int),x9.tagged⟩:Itm)])))∧((tg+1)=tgN (pre++[x9]))∧((ys++([(⟨(4:Int),([]:List ByteArray),x9.number-(1:Int)-(f.hyps.length:Int)-(z4.1.1.length:Int),x9.tagged⟩:Itm)])).length=(pre++[x9]).length)) (⟨XR r1_ (by rw[←r2_];exact e9),by rw[QM,r2_];simp[hb9],by simp[r3_]⟩) h) ?_
         exact fun a w h=>⟨(v18,ys++([(⟨(4:Int),([]:List ByteArray),x9.number-(1:Int)-(f.hyps.length:Int)-(z4.1.1.length:Int),x9.tagged⟩:Itm)]),tg+1),h.keep,h.x⟩
        ·
         try simp at hb9
         refine Zc (nx (tw pm2 ?_))
         refine tw pm3 ?_
         refine fun a w h=>YH (OB.var b (mkR d f M wv vs vt n kn y1 y2)::OB.var b11 [.lit (.int .i64 (4:Int)),Zb ([]:List ByteArray),.lit (.int .i64 (x9.number-(1:Int)-(f.hyps.length:Int)-(z4.1.1.length:Int))),.lit (.bool x9.tagged)]::OB.var b10 [.lit (.int .i64 (tg:Int))]::OB.mI M L::R') (γ:=Value) (fun ix'=>([.at b 0,.at b 0,.at b 0,.at b 12,.lit wv,.agg (itC (⟨(4:Int),([]:List ByteArray),x9.number-(1:Int)-(f.hyps.length:Int)-(z4.1.1.length:Int),x9.tagged⟩:Itm)),.rd (XL ([(⟨(4:Int),([]:List ByteArray),x9.number-(1:Int)-(f.hyps.length:Int)-(z4.1.1.length:Int),x9.tagged⟩:Itm)])),.any,.at b 0,.at b 12,.any]:List AV).getD ix' .any) (fun _=>true) [(9,fun(g:Value)=>.ptr [.lit (.int .i64 (f.hyps.length:Int))]),(10,fun(g:Value)=>.at b10 0),(6,fun(g:Value)=>.ptr [Zb z4.1.1]),(2,fun(g:Value)=>.ptr [.lit (.pointer (some ⟨b,0,none⟩))])] (fun(j':Nat) (g:Value)=>match j' with | 0=>(OB.row wv 147 4 (ys.map itC)::OB.var b (mkR d f M wv vs vt n kn y1 y2)::OB.var b11 [.lit (.int .i64 (4:Int)),Zb ([]:List ByteArray),.lit (.int .i64 (x9.number-(1:Int)-(f.hyps.length:Int)-(z4.1.1.length:Int))),.lit (.bool x9.tagged)]::OB.var b10 [.lit (.int .i64 (tg:Int))]::OB.mI M L::R') | 1=>(OB.row g 147 4 ((ys++([(⟨(4:Int),([]:List ByteArray),x9.number-(1:Int)-(f.hyps.length:Int)-(z4.1.1.length:Int),x9.tagged⟩:Itm)])).map itC)::OB.var b (mkR d f M wv vs vt n kn y1 y2)::OB.var b11 [.lit (.int .i64 (4:Int)),Zb ([]:List ByteArray),.lit (.int .i64 (x9.number-(1:Int)-(f.hyps.length:Int)-(z4.1.1.length:Int))),.lit (.bool x9.tagged)]::OB.var b10 [.lit (.int .i64 (tg:Int))]::OB.mI M L::R') | _=>(OB.row g 147 4 ((ys++([(⟨(4:Int),([]:List ByteArray),x9.number-(1:Int)-(f.hyps.length:Int)-(z4.1.1.length:Int),x9.tagged⟩:Itm)])).map itC)::OB.var b (mkR d f M g vs vt n kn y1 y2)::OB.var b11 [.lit (.int .i64 (4:Int)),Zb ([]:List ByteArray),.lit (.int .i64 (x9.number-(1:Int)-(f.hyps.length:Int)-(z4.1.1.length:Int))),.lit (.bool x9.tagged)]::OB.var b10 [.lit (.int .i64 (tg:Int))]::OB.mI M L::R')) (fun(k':Nat) (g:Value)=>match k' with | 0=>g | 1=>undef | _=>undef) [7,10] 1 (.slice none 0 0) (fun _=>rfl) h hJ Yh rfl rfl rfl rfl rfl rfl (fun j' g hj p hp=>by rcases j' with _ | _ | _ | j'<;>first | exact hp | exact List.mem_cons_of_mem _ hp | exact List.mem_cons_of_mem _ (List.mem_cons_of_mem _ hp) | (exfalso;omega)) ⟨?_,⟨?_,⟨?_,⟨?_,⟨?_,⟨?_,⟨?_,⟨?_,⟨?_,⟨?_,⟨?_,trivial⟩⟩⟩⟩⟩⟩⟩⟩⟩⟩⟩ ⟨?e30_10_0,⟨?e30_10_1,trivial⟩⟩ ⟨.old 1 9 _ rfl rfl,⟨.old 2 10 _ rfl rfl,⟨.old 3 6 _ rfl rfl,⟨.old 4 2 _ rfl rfl,trivial⟩⟩⟩⟩ ?n30_10
         exact oX rfl fun hx hl=>ZA ZU rfl (hl.env 4 2 _ rfl rfl) hx
         exact oX rfl fun hx hl=>ZA ZU rfl (hl.env 4 2 _ rfl rfl) hx
         exact oX rfl fun hx hl=>Zk rfl (hl.D 1 126 rfl rfl) hx
         exact oX rfl fun hx hl=>Zm ZH rfl (hl.D 2 127 rfl rfl) hx
         exact fun _ O' hO'=>⟨rfl,fun _ _ _ hx hl _=>Zo (cs:=(mkR d f M wv vs vt n kn y1 y2)) Qp rfl (Zd hx (hO' _ (mo 0 rfl))) (hl.D 3 128 rfl rfl) rfl hx⟩
         exact fun _ O' hO'=>⟨rfl,fun _ _ _ hx hl _=>YI (cs:=[.lit (.int .i64 (4:Int)),Zb ([]:List ByteArray),.lit (.int .i64 (x9.number-(1:Int)-(f.hyps.length:Int)-(z4.1.1.length:Int))),.lit (.bool x9.tagged)]) (ds:=[.lit (.int .i64 (4:Int)),Zb ([]:List ByteArray),.lit (.int .i64 (x9.number-(1:Int)-(f.hyps.length:Int)-(z4.1.1.length:Int))),.lit (.bool x9.tagged)]) YU rfl (Zd hx (hO' _ (mo 1 rfl))) (hl.env 0 12 _ rfl rfl) rfl rfl hx⟩
         exact oY rfl fun hk hx hl=>XF Yi Qr rfl rfl (hl.D 5 130 rfl rfl) (Zr hS _ hk hx _ (Nat.le_refl _)) (jo hJ hx)
         exact Zi rfl
         exact oX rfl fun hx hl=>Zk rfl (hl.D 0 125 rfl rfl) hx
         exact oX rfl fun hx hl=>Zm ZH rfl (hl.D 8 133 rfl rfl) hx
         exact Zi rfl
         case e30_10_0=>exact⟨_,rfl,rfl,rfl,rfl,fun _ _ w hk hx hl _=>Zp (YS (f:=itC) ys ([(⟨(4:Int),([]:List ByteArray),x9.number-(1:Int)-(f.hyps.length:Int)-(z4.1.1.length:Int),x9.tagged⟩:Itm)]) (fun _=>rfl) Y6 hJ hJ0 rfl hk hx (hl.D 4 129 rfl rfl).lit (hl.D 6 131 rfl rfl) sfz sfz) fun v w' hp=>⟨v,rfl,fun k' hk'=>absurd hk' (Nat.not_lt_zero _),fun _=>rfl,hp⟩⟩
         case e30_10_1=>exact⟨_,rfl,rfl,rfl,rfl,fun g _ w hk hx hl hs=>Zp (X2 (off:=12) (cs:=(mkR d f M wv vs vt n kn y1 y2)) (es:=(mkR d f M g vs vt n kn y1 y2)) (c:=.lit g) hJ hJ0 Xe rfl hk hx (hl.D 9 134 rfl rfl) (by rw[(hs 0 7 _ 132 (by omega) rfl rfl rfl)];exact Rel.of_lit _ (Xh (hx.2.1 _ (mo 0 rfl)))) (lb rfl) rfl) fun v w' hp=>⟨g,rfl,fun _ _=>rfl,fun e=>(by cases e),hp⟩⟩
         clear a w h
         intro v19
         dsimp only[List.map]
         refine kw pm2 ?_
         refine kw Zy ?_
         refine kw pm3 ?_
         refine kw pm1 ?_
         refine kw pm2 ?_
         refine kw pm3 ?_
         refine kw (fun h=>Xo (p:=(Yd f L z4.1.1 (pre++[x9]) 0=some (ys++([(⟨(4:Int),([]:List ByteArray),x9.number-(1:Int)-(f.hyps.length:Int)-(z4.1.1.length:Int),x9.tagged⟩:Itm)])))∧(tg=tgN (pre++[x9]))∧((ys++([(⟨(4:Int),([]:List ByteArray),x9.number-(1:Int)-(f.hyps.length:Int)-(z4.1.1.length:Int),x9.tagged⟩:Itm)])).length=(pre++[x9]).length)) (⟨XR r1_ (by rw[←r2_];exact e9),by rw[QM,r2_];simp[hb9],by simp[r3_]⟩) h) ?_
         exact fun a w h=>⟨(v19,ys++([(⟨(4:Int),([]:List ByteArray),x9.number-(1:Int)-(f.hyps.length:Int)-(z4.1.1.length:Int),x9.tagged⟩:Itm)]),tg),h.keep,h.x⟩
       ·
        try simp at hb8
        refine Zw (XX (O:=[]) (R:=(OB.var b11 [.lit (.int .i64 0),Zb ([]:List ByteArray),.lit (.int .i64 0),.lit (.bool false)]::OB.var b10 [.lit (.int .i64 (tg:Int))]::OB.var b (mkR d f M wv vs vt n kn y1 y2)::OB.row wv 147 4 (ys.map itC)::OB.mI M L::R')) (Qj hJ (c:=(21:Int)) ) YT rfl rfl rfl (lb rfl) hS hJ0 Zq (fun a w h=>(Za (Rel.of_lit (Go.Value.int Go.IntKind.i64 21)) Ze)) (fun _=>?_) (fun i=>i.elim))
        refine kw Zy ?_
        refine kw Zy ?_
        exact fun a w h=>⟨(⟨(21,wv,ys),Zo2 hb1 z4.2 hb4 (Zni hpre r1_ (by rw[←r2_];exact Ztl hb5 (by omega) (by omega) (by omega)))⟩: {q:Int×Value×List Itm // YF f L t= .error q.1}),rfl,h.defs,h.keep,h.x⟩
   ·
    rintro hfl ⟨wv,ys,tg⟩ D
    refine kw pm1 ?_
    refine ZlM fun hF=>?_
    obtain⟨r1_,r2_,r3_⟩:=hF
    have h9:(YB z4.1.2).2=false:=by cases h8:(YB z4.1.2).2<;>simp_all
    refine nxAD (m:=5) ?_
    refine ZrM ?_
    refine ZnE ?_
    refine snK 1 tb rfl ?_
    refine sq (.at b 0) rfl rfl (lb rfl) (fun _ _ h=>Zk rfl (h.get 0 rfl) h.x) ?_
    refine sq (.at b 12) rfl rfl (lb rfl) (fun _ _ h=>Zm ZH rfl (h.get 0 rfl) h.x) ?_
    refine sq (.lit wv) rfl rfl (lb rfl) (fun _ _ h=>Zo (cs:=(mkR d f M wv vs vt n kn y1 y2)) Qp rfl (Zd h.x (mo 2 rfl)) (h.get 0 rfl) rfl h.x) ?_
    refine sq (.int (ys.length:Nat)) rfl rfl (lb rfl) (fun _ _ h=>Zde (by rw[List.length_map]) ZcH rfl (Zd h.x (mo 3 rfl)) (h.get 0 rfl) h.x) ?_
    refine snK 1 tb rfl ?_
    refine seK [0] [_] rfl ?_
    refine nxD ?_
    refine d_cj 0 (fun hb10=>?_) fun hb10=>?_
    ·
     try simp at hb10
     refine ZnE ?_
     refine XX (O:=[]) (R:=(OB.dfr D::OB.var b10 [.lit (.int .i64 (tg:Int))]::OB.var b (mkR d f M wv vs vt n kn y1 y2)::OB.row wv 147 4 (ys.map itC)::OB.mI M L::R)) (Qj hJ (c:=(10:Int)) ) YT rfl rfl rfl (lb rfl) hS hJ0 Zq (fun a w h=>(Za (Rel.of_lit (Go.Value.int Go.IntKind.i64 10)) Ze)) (fun _=>?_) (fun i=>i.elim)
     refine Zs8 hJ hJ0 ?_
     refine kw Zy ?_
     exact fun a w h=>pnP (⟨(10,wv,ys),Zl5 hb1 z4.2 hb4 r1_ h9 (by omega)⟩: {q:Int×Value×List Itm // YF f L t= .error q.1}) rfl a w h
    ·
     try simp at hb10
     refine d_skip ?_
     refine outDn hJ hJ0 ?_
     refine kw Zy ?_
     exact fun a w h=>lvP (Xt  ⟨(wv,ys),by first | (rw[f1_2,ZC (by omega)];exact ZeP hb1 (by omega)) | exact ZiZ (ys:=ys) hb1 z4.2 hb4 r1_ h9 (by omega)⟩ rfl h rfl)
   · exact fun s=>s.elim
   ·
    rintro v9 hfl ⟨wv,ys,tg⟩ D
    refine kw pm1 ?_
    refine ZlM fun hF=>?_
    obtain⟨r1_,r2_,r3_⟩:=hF
    obtain⟨h9,rfl⟩:(YB z4.1.2).2=true∧flV 21=v9:=by cases h8:(YB z4.1.2).2<;>simp_all
    refine Zs8 hJ hJ0 ?_
    refine kw Zy ?_
    exact fun a w h=>pnP (⟨(21,wv,ys),Zl6 hb1 z4.2 hb4 r1_ h9⟩: {q:Int×Value×List Itm // YF f L t= .error q.1}) rfl a w h
   ·
    rintro q' D
    refine Zs8 hJ hJ0 ?_
    exact fun a w h=>pnP q' rfl a w h
theorem ZkB {J:World→Prop} (hJ:Stab J) (bm:Nat) (bt:Nat) (b:Nat) (d:Db) (f:Fr) (M:Nat) (L:List (ByteArray×Int)) (vi:Value) (vs:Value) (vt:Value) (n:Nat) (kn:Bool) (y1:Int) (y2:Int) (t:List ByteArray) (ht:∀ h∈f.hyps++f.dummies,h.text.length≤2000) (hh:f.hyps.length≤2000) (hn:t.length≤100000) (hs:ZcZ t≤1000000000):FnP (ι:= {q':Value×List Itm // YF f L t= .ok q'.2}) (κ:= {q:Int×Value×List Itm // YF f L t= .error q.1}) Tryz.prog J 87 [] [.at bm 0,.at bt 0] [OB.var bm [.lit (.pointer (some ⟨b,0,none⟩))],OB.var bt [Zb t],OB.var b (mkR d f M vi vs vt n kn y1 y2),OB.row vi 147 4 (([]:List Itm).map itC),OB.mI M L] (fun _=>.tup []) (fun i'=>[OB.var bm [.lit (.pointer (some ⟨b,0,none⟩))],OB.var bt [Zb t],OB.var b (mkC d f [.lit (.map (some M)),.lit (i'.1.1),.lit vs,.lit vt,.lit (.int .i64 (n:Int)),.lit (.bool kn),.lit (.int .i64 y1),.lit (.int .i64 y2)]),OB.row i'.1.1 147 4 ((i'.1.2).map itC),OB.mI M L]) (fun k'=>flV k'.1.1) (fun k'=>[OB.var bm [.lit (.pointer (some ⟨b,0,none⟩))],OB.var bt [Zb t],OB.var b (mkC d f [.lit (.map (some M)),.lit (k'.1.2.1),.lit vs,.lit vt,.lit (.int .i64 (n:Int)),.lit (.bool kn),.lit (.int .i64 y1),.lit (.int .i64 y2)]),OB.row k'.1.2.1 147 4 ((k'.1.2.2).map itC),OB.mI M L]):=by
 refine Qn (N:=5) Tryz.func87 rfl rfl (lb rfl) fun S w0 R hS hJ0 hH=>?_
 refine Z6 (B:=St All (SO S (OB.var bm [.lit (.pointer (some ⟨b,0,none⟩))]::OB.var bt [Zb t]::OB.var b (mkR d f M vi vs vt n kn y1 y2)::OB.row vi 147 4 (([]:List Itm).map itC)::OB.mI M L::R)) w0 5 [(0,.at bm 0),(1,.at bt 0)] (XO J S w0.heap.size (OB.var bm [.lit (.pointer (some ⟨b,0,none⟩))]::OB.var bt [Zb t]::OB.var b (mkR d f M vi vs vt n kn y1 y2)::OB.row vi 147 4 (([]:List Itm).map itC)::OB.mI M L::R))) ?_ fun a w h=>h
 refine Zw (sq (.at b 0) rfl rfl (lb rfl) (fun _ _ h=>Zo (cs:=[.lit (.pointer (some ⟨b,0,none⟩))]) ZU rfl (Zd h.x (mo 0 rfl)) (h.get 0 rfl) rfl h.x) ?_)
 refine sq (.rd (Zb t)) rfl rfl (lb rfl) (fun _ _ h=>Zo (cs:=[Zb t]) X7 rfl (Zd h.x (mo 1 rfl)) (h.get 2 rfl) rfl h.x) ?_
 refine kw pm1 ?_
 refine kw pm1 ?_
 refine kw pm4 ?_
 refine kw pm4 ?_
 refine kw pm4 ?_
 refine XX (O:=[OB.var b (mkR d f M vi vs vt n kn y1 y2),OB.row vi 147 4 (([]:List Itm).map itC),OB.mI M L]) (R:=(OB.var bm [.lit (.pointer (some ⟨b,0,none⟩))]::OB.var bt [Zb t]::R)) (p_read hJ (b:=b) (d:=d) (f:=f) (M:=M) (L:=L) (vi:=vi) (vs:=vs) (vt:=vt) (n:=n) (kn:=kn) (y1:=y1) (y2:=y2) (t:=t) sfz sfz sfz sfz) ZtV rfl rfl rfl (lb rfl) hS hJ0 Zq (fun a w h=>(Za (h.get 1 rfl) (Za (h.get 0 rfl) Ze))) (fun k2=>?_) fun z1=>?_
 refine kw pm2 ?_
 refine kw pm2 ?_
 refine kw pm2 ?_
 refine kw pm4 ?_
 refine kw pm4 ?_
 exact fun a w h=>pnP (⟨(k2.1.1,k2.1.2.1,k2.1.2.2),k2.2⟩: {q:Int×Value×List Itm // YF f L t= .error q.1}) rfl a w h
 refine seK [1] [_] rfl ?_
 refine kw pm2 ?_
 refine kw pm2 ?_
 refine kw pm2 ?_
 refine kw pm4 ?_
 refine kw pm4 ?_
 exact fun a w h=>lvP (Xt  ⟨(z1.1.1,z1.1.2),z1.2⟩ rfl h rfl)
abbrev GR (f:Fr) (L:List (ByteArray×Int)) (t:List ByteArray):Type:= {q:Int×Value×List Itm // (q.1=0∧YF f L t= .ok q.2.2)∨(q.1≠0∧YF f L t= .error q.1)}
theorem Zo3 {f:Fr} {L:List (ByteArray×Int)} {t:List ByteArray} {c:Int} (h:YF f L t= .error c):c≠0:=by
 unfold YF at h
 split at h
 · split at h
   · injection h with h;omega
   · cases h
 split at h
 · injection h with h;omega
 split at h
 · injection h with h;omega
 split at h
 · injection h with h;omega
 split at h
 · injection h with h;omega
 split at h
 · injection h with h;omega
 · cases h
theorem ZsV {J:World→Prop} (hJ:Stab J) (bm bt:Nat) (b:Nat) (d:Db) (f:Fr) (M:Nat) (L:List (ByteArray×Int)) (vi:Value) (vs:Value) (vt:Value) (n:Nat) (kn:Bool) (y1:Int) (y2:Int) (t:List ByteArray) (ht:∀ h∈f.hyps++f.dummies,h.text.length≤2000) (hh:f.hyps.length≤2000) (hn:t.length≤100000) (hs:ZcZ t≤1000000000):
 FnM (ι:=(GR f L t)) Tryz.prog J 86 [] [.lit (.func (.func 87) #[] #[.pointer (some ⟨bm,0,none⟩),.pointer (some ⟨bt,0,none⟩)])] [OB.var bm [.lit (.pointer (some ⟨b,0,none⟩))],OB.var bt [Zb t],OB.var b (mkR d f M vi vs vt n kn y1 y2),OB.row vi 147 4 (([]:List Itm).map itC),OB.mI M L] (fun i'=>.int i'.1.1) (fun i'=>[OB.var bm [.lit (.pointer (some ⟨b,0,none⟩))],OB.var bt [Zb t],OB.var b (mkC d f [.lit (.map (some M)),.lit (i'.1.2.1),.lit vs,.lit vt,.lit (.int .i64 (n:Int)),.lit (.bool kn),.lit (.int .i64 y1),.lit (.int .i64 y2)]),OB.row i'.1.2.1 147 4 ((i'.1.2.2).map itC),OB.mI M L]):=by
 have h4:=Zgr (F:=87) (caps:=[.pointer (some ⟨bm,0,none⟩),.pointer (some ⟨bt,0,none⟩)]) (pc:=fun k: {q:Int×Value×List Itm // YF f L t= .error q.1}=>k.1.1) hJ (ZkB hJ bm bt b d f M L vi vs vt n kn y1 y2 t ht hh hn hs) (Zs Tryz.func87 rfl rfl) (by intro v hv;simp at hv;rcases hv with rfl | rfl<;>exact True.intro)
 refine(h4.map (ι':=(GR f L t)) (fun r=>match r with | .inl i=>⟨(0,i.1),.inl ⟨rfl,i.2⟩⟩ | .inr k=>⟨k.1,.inr ⟨Zo3 k.2,k.2⟩⟩) ?_ ?_)
 · rintro(i | k)<;>rfl
 · rintro(i | k)<;>rfl
theorem Zk9:ZrY Tryz.prog 130:=fun x1 x2 x3 y1 y2 y3 y4 y5 y6 y7 y8 m=>by kernel_rfl
theorem ZmC {J:World→Prop} (hJ:Stab J) (d:Db) (n:Nat) (t:List ByteArray) (hn:n<d.frames.length) (hfl:d.frames.length≤400) (ht:∀ h∈(ge d.frames n).hyps++(ge d.frames n).dummies,h.text.length≤2000) (hh:(ge d.frames n).hyps.length≤2000) (hl:t.length≤100000) (hs:ZcZ t≤1000000000):FnM (ι:=Nat×Value×Value×Value) Tryz.prog J 70 [] [.agg (dbC d),.int (n:Nat),.rd (Zb t)] [] (fun i'=>.at (i'.1) 0) (fun i'=>[OB.var (i'.1) (mkC d (ge d.frames n) [.lit (i'.2.1),XL (Zaa d n t),.lit (i'.2.2.1),.lit (i'.2.2.2),.lit (.int .i64 (((ZaH d n t).n:Nat):Int)),.lit (.bool ((ZaH d n t).kn)),.lit (.int .i64 ((ZaH d n t).v.1)),.lit (.int .i64 ((ZaH d n t).v.2))]),OB.row i'.2.2.1 22 1 (((ZaH d n t).sk).map Zh),OB.row i'.2.2.2 22 1 (((ZaH d n t).tg).map Zh)]):=by
 refine ZX (N:=49) Tryz.func70 rfl rfl (lb rfl) fun S w0 R hS hJ0 hH=>?_
 refine Z6 (B:=St All (SO S (R)) w0 49 [(0,.agg (dbC d)),(1,.int (n:Nat)),(2,.rd (Zb t))] (XO J S w0.heap.size (R))) ?_ fun a w h=>h
 refine ln 2 fun hl1=>?_
 obtain⟨ui,hui⟩:∃ v,v=Value.slice none 0 0:=⟨_,rfl⟩
 obtain⟨us,hus⟩:∃ v,v=Value.slice none 0 0:=⟨_,rfl⟩
 obtain⟨ut,hut⟩:∃ v,v=Value.slice none 0 0:=⟨_,rfl⟩
 refine tsq ?_
 refine sq (.ptr (dbC d)) rfl rfl (lb rfl) (fun _ _ h=>YP rfl (h.get 0 rfl) (Zr hS _ h.keep h.x _ (Nat.le_refl _)) (jo hJ h.x)) ?_
 refine ZhE (c:=Zb t) hJ rfl rfl rfl (lb rfl) (fun a w h=>(h.get 3 rfl)) fun b1=>?_
 refine snK 1 tb rfl ?_
 refine seK [1,2,4] [_,_,_] rfl ?_
 refine nx (Zj (fun a w h=>Zo0 (γ:=Nat×Value×Nat×Nat) (fun ix'=>([.agg (dbC d),.ptr [YD d.frames],.rd (YD d.frames),.int (n:Nat),.ptr (frC (ge d.frames n)),.agg (frC (ge d.frames n)),.any,.any,.any,.any,.any]:List AV).getD ix' .any) (fun _=>true) [(5,fun(g:Nat×Value×Nat×Nat)=>.at b1 0),(3,fun(g:Nat×Value×Nat×Nat)=>.ptr (dbC d)),(1,fun(g:Nat×Value×Nat×Nat)=>.int (n:Nat)),(7,fun(g:Nat×Value×Nat×Nat)=>.at g.2.2.2 0)] (fun(D:Nat→Bool) (g:Nat×Value×Nat×Nat)=>(if D 2 then [OB.var g.2.2.1 (mkC d (ge d.frames n) [.lit (.map (some g.1)),.lit (.slice none 0 0),.lit (.slice none 0 0),.lit (.slice none 0 0),.lit (.int .i64 (0:Int)),.lit (.bool false),.lit (.int .i64 (0:Int)),.lit (.int .i64 (0:Int))])]else if D 1 then [Zq2 (mkC d (ge d.frames n) [.lit (.map (some g.1)),.lit (.slice none 0 0),.lit (.slice none 0 0),.lit (.slice none 0 0),.lit (.int .i64 (0:Int)),.lit (.bool false),.lit (.int .i64 (0:Int)),.lit (.int .i64 (0:Int))]) g.2.1]else [])++((if D 0 then [OB.mI g.1 []]else [])++((if D 4 then [OB.var g.2.2.2 [.lit (.pointer (some ⟨g.2.2.1,0,none⟩))]]else if D 3 then [OB.var g.2.2.2 [.lit (.pointer none)]]else [])++(OB.var b1 [Zb t]::R)))) (fun(k':Nat) (g:Nat×Value×Nat×Nat)=>match k' with | 0=>.map (some g.1) | 1=>g.2.1 | 2=>.pointer (some ⟨g.2.2.1,0,none⟩) | 3=>.pointer (some ⟨g.2.2.2,0,none⟩) | _=>undef) [6,7,8,9,10] (0,undef,0,0) (fun _=>rfl) h hJ Yh rfl rfl rfl rfl (fun D g p hp=>List.mem_append_right _ (List.mem_append_right _ (List.mem_append_right _ hp))) ⟨?o0,⟨?o1,⟨?o2,⟨?o3,⟨?o4,⟨?o5,⟨?o6,⟨?o7,⟨?o8,⟨?o9,⟨?o10,trivial⟩⟩⟩⟩⟩⟩⟩⟩⟩⟩⟩ ⟨?e0,⟨?e1,⟨?e2,⟨?e3,⟨?e4,trivial⟩⟩⟩⟩⟩ ⟨.old 0 5 _ rfl rfl,⟨.old 1 3 _ rfl rfl,⟨.old 2 1 _ rfl rfl,⟨.eff 3 9 7 (fun(g:Nat×Value×Nat×Nat)=>.pointer (some ⟨g.2.2.2,0,none⟩)) rfl rfl (fun _=>rfl) (fun _=>True.intro),trivial⟩⟩⟩⟩ ?n1))
 exact oX rfl fun hx hl=>ZbH Zbs rfl (hl.env 1 3 _ rfl rfl) (Nat.le_refl _) hx
 exact oX rfl fun hx hl=>ZT XS rfl (hl.env 1 3 _ rfl rfl) hx
 exact oX rfl fun hx hl=>ZA ZdO rfl (hl.D 1 11 rfl rfl) hx
 exact oX rfl fun hx hl=>Yk rfl (hl.env 2 1 _ rfl rfl) hx
 exact oX rfl fun hx hl=>Yg (i:=(n:Int)) Ye rfl (hl.D 2 12 rfl rfl) (hl.D 3 13 rfl rfl) (Int.natCast_nonneg _) (Yy (xs:=d.frames) (k:=n) sfz) rfl hx
 exact oX rfl fun hx hl=>ZbH ZfX rfl (hl.D 4 14 rfl rfl) (Nat.le_refl _) hx
 exact Zi rfl
 exact Zi rfl
 exact Zi rfl
 exact Zi rfl
 exact Zi rfl
 case e0=>
  refine⟨_,rfl,rfl,rfl,rfl,fun D g a w hD hpre hcl hk hx hl hs=>?_⟩
  have d0:=hD
  have d1:D 1=false:=by cases hq:D 1 with | false=>rfl | true=>exact absurd (hcl 1 0 7 6 rfl rfl hq (by decide)) (by simp[d0])
  have d2:D 2=false:=by cases hq:D 2 with | false=>rfl | true=>exact absurd (hcl 2 1 8 7 rfl rfl hq (by decide)) (by simp[d1])
  have d4:D 4=false:=by cases hq:D 4 with | false=>rfl | true=>exact absurd (hcl 4 2 10 8 rfl rfl hq (by decide)) (by simp[d2])
  simp only[Zkn,d0,d1,d2,d4,if_true,if_false,Bool.false_eq_true,List.nil_append,Nat.reduceEqDiff,List.cons_append]at hx hl ⊢
  exact Zp (d_map keyS (fun z':Int=>AV.int z') hJ rfl hk hx) fun v w' ⟨M',hv,hp⟩=>⟨(M',g.2),(fun k' hk'=>by rcases k' with _ | _ | _ | _ | k'<;>first | rfl | simp_all),fun _=>hv,hp⟩
 case e1=>
  refine⟨_,rfl,rfl,rfl,rfl,fun D g a w hD hpre hcl hk hx hl hs=>?_⟩
  have d1:=hD
  have d0:D 0=true:=hpre 0 6 rfl (by decide)
  have d2:D 2=false:=by cases hq:D 2 with | false=>rfl | true=>exact absurd (hcl 2 1 8 7 rfl rfl hq (by decide)) (by simp[d1])
  have d4:D 4=false:=by cases hq:D 4 with | false=>rfl | true=>exact absurd (hcl 4 2 10 8 rfl rfl hq (by decide)) (by simp[d2])
  simp only[Zkn,d0,d1,d2,d4,if_true,if_false,Bool.false_eq_true,List.nil_append,Nat.reduceEqDiff,List.cons_append]at hx hl ⊢
  exact Zp (ZjH (cs:=(mkC d (ge d.frames n) [.lit (.map (some g.1)),.lit (.slice none 0 0),.lit (.slice none 0 0),.lit (.slice none 0 0),.lit (.int .i64 (0:Int)),.lit (.bool false),.lit (.int .i64 (0:Int)),.lit (.int .i64 (0:Int))])) hk (Zpd (d:=d) (f:=(ge d.frames n)) (m:=g.1) Zk9 rfl (hl.D 0 10 rfl rfl) (hl.D 5 15 rfl rfl) (hs 0 6 _ 16 d0 rfl rfl rfl) hx)) fun v w' hp=>⟨(g.1,v,g.2.2),(fun k' hk'=>by rcases k' with _ | _ | _ | _ | k'<;>first | rfl | simp_all),fun _=>rfl,hp⟩
 case e2=>
  refine⟨_,rfl,rfl,rfl,rfl,fun D g a w hD hpre hcl hk hx hl hs=>?_⟩
  have d2:=hD
  have d1:D 1=true:=hpre 1 7 rfl (by decide)
  have d0:D 0=true:=hpre 0 6 rfl (by decide)
  have d4:D 4=false:=by cases hq:D 4 with | false=>rfl | true=>exact absurd (hcl 4 2 10 8 rfl rfl hq (by decide)) (by simp[d2])
  simp only[Zkn,d0,d1,d2,d4,if_true,if_false,Bool.false_eq_true,List.nil_append,Nat.reduceEqDiff,List.cons_append]at hx hl ⊢
  exact Zp (ZrO (cs:=(mkC d (ge d.frames n) [.lit (.map (some g.1)),.lit (.slice none 0 0),.lit (.slice none 0 0),.lit (.slice none 0 0),.lit (.int .i64 (0:Int)),.lit (.bool false),.lit (.int .i64 (0:Int)),.lit (.int .i64 (0:Int))])) hJ rfl (hs 1 7 _ 17 d1 rfl rfl rfl) hk hx) fun v w' ⟨b',hv,hp⟩=>⟨(g.1,g.2.1,b',g.2.2.2),(fun k' hk'=>by rcases k' with _ | _ | _ | _ | k'<;>first | rfl | simp_all),fun _=>hv,hp⟩
 case e3=>
  refine⟨_,rfl,rfl,rfl,rfl,fun D g a w hD hpre hcl hk hx hl hs=>?_⟩
  have d3:=hD
  have d4:D 4=false:=by cases hq:D 4 with | false=>rfl | true=>exact absurd (hcl 4 3 10 9 rfl rfl hq (by decide)) (by simp[d3])
  simp only[Zkn,d3,d4,if_true,if_false,Bool.false_eq_true,List.nil_append,Nat.reduceEqDiff,List.cons_append]at hx hl ⊢
  simp only[←List.append_assoc]at hx ⊢
  exact Zp (ZbM Zj7 hJ rfl hk hx) fun v w' ⟨b',hv,hp⟩=>⟨(g.1,g.2.1,g.2.2.1,b'),(fun k' hk'=>by rcases k' with _ | _ | _ | _ | k'<;>first | rfl | simp_all),fun _=>hv,Zdx (.refl _) perm_mid.symm hp⟩
 case e4=>
  refine⟨_,rfl,rfl,rfl,rfl,fun D g a w hD hpre hcl hk hx hl hs=>?_⟩
  have d4:=hD
  have d3:D 3=true:=hpre 3 9 rfl (by decide)
  have d2:D 2=true:=hpre 2 8 rfl (by decide)
  have d1:D 1=true:=hpre 1 7 rfl (by decide)
  have d0:D 0=true:=hpre 0 6 rfl (by decide)
  simp only[Zkn,d0,d1,d2,d3,d4,if_true,if_false,Bool.false_eq_true,List.nil_append,Nat.reduceEqDiff,List.cons_append]at hx hl ⊢
  refine Zp (XJ (S':=S) (off:=0) (cs:=[.lit (.pointer none)]) (news:=[.lit (.pointer (some ⟨g.2.2.1,0,none⟩))]) (es:=[.lit (.pointer (some ⟨g.2.2.1,0,none⟩))]) (us:=[.pointer (some ⟨g.2.2.1,0,none⟩)]) hJ hJ0 Zkm rfl hk (Yt perm_3 hx) (ZdG (hs 3 9 _ 7 d3 rfl rfl rfl)) (by rw[hs 2 8 _ 18 d2 rfl rfl rfl];rfl) ⟨.lit _ True.intro,trivial⟩ (lb rfl) rfl) fun v w' hp=>⟨g,fun _ _=>rfl,fun e=>(by cases e),Zdx perm_3.symm perm_3.symm hp⟩
 clear a w h
 rintro⟨m3,x5,b2,b4⟩
 dsimp only[List.map]
 refine kw (ob0 (show OB.var b2 (mkC d (ge d.frames n) [.lit (.map (some m3)),.lit (.slice none 0 0),.lit (.slice none 0 0),.lit (.slice none 0 0),.lit (.int .i64 (0:Int)),.lit (.bool false),.lit (.int .i64 (0:Int)),.lit (.int .i64 (0:Int))])=OB.var b2 (mkC d (ge d.frames n) [.lit (.map (some m3)),.lit ui,.lit us,.lit ut,.lit (.int .i64 (0:Int)),.lit (.bool false),.lit (.int .i64 (0:Int)),.lit (.int .i64 (0:Int))])from by rw[hui,hus,hut])) ?_
 refine kw (Z7 147 4 hJ) ?_
 refine kw (ob0 (show OB.row (.slice none 0 0) 147 4 []=OB.row ui 147 4 (([]:List Itm).map itC)from by rw[hui];rfl)) ?_
 refine kw (Z7 22 1 hJ) ?_
 refine kw (ob0 (show OB.row (.slice none 0 0) 22 1 []=OB.row us 22 1 (([]:List (List ByteArray)).map Zh)from by rw[hus];rfl)) ?_
 refine kw (Z7 22 1 hJ) ?_
 refine kw (ob0 (show OB.row (.slice none 0 0) 22 1 []=OB.row ut 22 1 (([]:List (List ByteArray)).map Zh)from by rw[hut];rfl)) ?_
 refine nx (Zj (qso tb hJ [0,1,3,1000,1001] [_,_] [_,_,_,_,_] ?_))
 refine Zf (lpo (ι:=Nat×(List (ByteArray×Int))) (fun(k,L)=>(k≤n)∧(L=Zaj (d.frames.take k))) (fun(_,L)=>(OB.row ut 22 1 (([]:List (List ByteArray)).map Zh)::OB.row us 22 1 (([]:List (List ByteArray)).map Zh)::OB.row ui 147 4 (([]:List Itm).map itC)::OB.var b2 (mkC d (ge d.frames n) [.lit (.map (some m3)),.lit ui,.lit us,.lit ut,.lit (.int .i64 (0:Int)),.lit (.bool false),.lit (.int .i64 (0:Int)),.lit (.int .i64 (0:Int))])::OB.mI m3 L::OB.var b4 [.lit (.pointer (some ⟨b2,0,none⟩))]::OB.var b1 [Zb t]::R)) (fun(k,_)=>[(20,.int (k:Nat))]) (fun(k,_)=>n-k) [0,1,2,3,4] [_,_,_,_] (0,([]:List (ByteArray×Int))) ⟨Nat.zero_le _,namL_nil.symm⟩ ?_)
 rintro⟨k,L⟩ ⟨f1_1,f1_2⟩
 refine qso tb hJ [0,1,2,3,4,1000] [_] [_,_,_,_,_,_] ?_
 refine cjS 5 (fun hb1=>?_) fun hb1=>?_
 ·
  try simp at hb1
  refine Zc (nx (Zj (Zf (qso tb hJ [0,1,2,3,4,1001] [_,_] [_,_,_,_,_,_] ?_))))
  refine tw pm4 ?_
  refine fun a w h=>YO (γ:=Unit) (fun ix'=>([.at b2 0,.at b2 0,.at b2 11,.lit (.map (some m3)),.ptr [YD d.frames],.rd (YD d.frames),.int (k:Nat),.ptr (frC (ge d.frames k)),.ptr (frC (ge d.frames k)),.str ((ge d.frames k).label),.int (k:Nat),.any]:List AV).getD ix' .any) (fun _=>true) [(5,fun(g:Unit)=>.at b1 0),(3,fun(g:Unit)=>.ptr (dbC d)),(7,fun(g:Unit)=>.at b4 0),(19,fun(g:Unit)=>.int (n:Nat)),(20,fun(g:Unit)=>.int (k:Nat))] (fun(j':Nat) (g:Unit)=>match j' with | 0=>(OB.mI m3 L::OB.row ut 22 1 (([]:List (List ByteArray)).map Zh)::OB.row us 22 1 (([]:List (List ByteArray)).map Zh)::OB.row ui 147 4 (([]:List Itm).map itC)::OB.var b2 (mkC d (ge d.frames n) [.lit (.map (some m3)),.lit ui,.lit us,.lit ut,.lit (.int .i64 (0:Int)),.lit (.bool false),.lit (.int .i64 (0:Int)),.lit (.int .i64 (0:Int))])::OB.var b4 [.lit (.pointer (some ⟨b2,0,none⟩))]::OB.var b1 [Zb t]::R) | _=>(OB.mI m3 (QT L ((ge d.frames k).label) (k:Int))::OB.row ut 22 1 (([]:List (List ByteArray)).map Zh)::OB.row us 22 1 (([]:List (List ByteArray)).map Zh)::OB.row ui 147 4 (([]:List Itm).map itC)::OB.var b2 (mkC d (ge d.frames n) [.lit (.map (some m3)),.lit ui,.lit us,.lit ut,.lit (.int .i64 (0:Int)),.lit (.bool false),.lit (.int .i64 (0:Int)),.lit (.int .i64 (0:Int))])::OB.var b4 [.lit (.pointer (some ⟨b2,0,none⟩))]::OB.var b1 [Zb t]::R)) (fun(k':Nat) (g:Unit)=>match k' with | 0=>undef | _=>undef) [11] 0 () (fun _=>rfl) h hJ Yh rfl rfl rfl rfl rfl rfl (fun j' g hj p hp=>by rcases j' with _ | _ | _ | j'<;>first | exact hp | exact List.mem_cons_of_mem _ hp | exact List.mem_cons_of_mem _ (List.mem_cons_of_mem _ hp) | (exfalso;omega)) ⟨?_,⟨?_,⟨?_,⟨?_,⟨?_,⟨?_,⟨?_,⟨?_,⟨?_,⟨?_,⟨?_,⟨?_,trivial⟩⟩⟩⟩⟩⟩⟩⟩⟩⟩⟩⟩ ⟨?e5_1_0,trivial⟩ ⟨.old 0 5 _ rfl rfl,⟨.old 1 3 _ rfl rfl,⟨.old 2 7 _ rfl rfl,⟨.old 3 19 _ rfl rfl,⟨.old 4 20 _ rfl rfl,trivial⟩⟩⟩⟩⟩ ?n5_1
  exact fun _ O' hO'=>⟨rfl,fun _ _ _ hx hl _=>Zo (cs:=[.lit (.pointer (some ⟨b2,0,none⟩))]) ZU rfl (Zd hx (hO' _ (mo 5 rfl))) (hl.env 2 7 _ rfl rfl) rfl hx⟩
  exact oX rfl fun hx hl=>Zk rfl (hl.D 0 23 rfl rfl) hx
  exact oX rfl fun hx hl=>Zm ZcT rfl (hl.D 1 24 rfl rfl) hx
  exact fun _ O' hO'=>⟨rfl,fun _ _ _ hx hl _=>Zo (cs:=(mkC d (ge d.frames n) [.lit (.map (some m3)),.lit ui,.lit us,.lit ut,.lit (.int .i64 (0:Int)),.lit (.bool false),.lit (.int .i64 (0:Int)),.lit (.int .i64 (0:Int))])) Zrv rfl (Zd hx (hO' _ (mo 4 rfl))) (hl.D 2 25 rfl rfl) rfl hx⟩
  exact oX rfl fun hx hl=>ZT XS rfl (hl.env 1 3 _ rfl rfl) hx
  exact oX rfl fun hx hl=>ZA ZdO rfl (hl.D 4 27 rfl rfl) hx
  exact oX rfl fun hx hl=>Yk rfl (hl.env 5 8 _ rfl rfl) hx
  exact oX rfl fun hx hl=>Yg (i:=(k:Int)) Ye rfl (hl.D 5 28 rfl rfl) (hl.D 6 29 rfl rfl) (Int.natCast_nonneg _) (Yy (xs:=d.frames) (k:=k) sfz) rfl hx
  exact oX rfl fun hx hl=>ZT Zbm rfl (hl.D 7 30 rfl rfl) hx
  exact oX rfl fun hx hl=>ZA Q1 rfl (hl.D 8 31 rfl rfl) hx
  exact oX rfl fun hx hl=>Yk rfl (hl.env 5 8 _ rfl rfl) hx
  exact Zi rfl
  case e5_1_0=>exact⟨_,rfl,rfl,rfl,rfl,fun g _ w hk hx hl _=>Zp (ZnF (f:=(fun z':Int=>AV.int z')) Zav hJ hJ0 ((ge d.frames k).label) (k:Int) (.inl rfl) hk hx (hl.D 3 26 rfl rfl) (hl.D 9 32 rfl rfl) (hl.D 10 33 rfl rfl)) fun v w' ⟨_,hp⟩=>⟨g,rfl,fun _ _=>rfl,fun e=>(by cases e),hp⟩⟩
  clear a w h
  intro _
  dsimp only[List.map]
  refine nx (YQ tb hJ [0,1,2,3,1001] [.int (k+1:Nat),_] [0] [_,_,_,_,_] rfl ⟨Yv,trivial⟩ ?_)
  refine kw pm6 ?_
  refine kw pm6 ?_
  refine kw pm2 ?_
  refine kw pm6 ?_
  refine kw pm6 ?_
  refine kw pm6 ?_
  refine kw pm6 ?_
  exact Xi (k+1,QT L ((ge d.frames k).label) (k:Int)) [0,1,2,3,4] ⟨by omega,by rw[f1_2];exact(Zca (by omega)).symm⟩
 ·
  try simp at hb1
  have hL:L=Zaj (d.frames.take n):=by rw[f1_2,show k=n by omega]
  refine Zx (nx (Zj (tsq ?_)))
  refine sq (.lit (.func (.func 87) #[] #[.pointer (some ⟨b4,0,none⟩),.pointer (some ⟨b1,0,none⟩)])) rfl rfl (lb rfl) (fun _ _ h=>ZdI (caps:=[(Go.Operand.tmp 7),(Go.Operand.tmp 5)]) rfl (map_cons (h.get 2 rfl).lit (map_cons (h.get 0 rfl).lit map_nil)) h.x) ?_
  refine kw pm1 ?_
  refine kw pm1 ?_
  refine kw pm4 ?_
  refine kw pm3 ?_
  refine kw pm4 ?_
  refine kw pm6 ?_
  refine kw pm6 ?_
  refine Y7 (O:=[OB.var b4 [.lit (.pointer (some ⟨b2,0,none⟩))],OB.var b1 [Zb t],OB.var b2 (mkC d (ge d.frames n) [.lit (.map (some m3)),.lit ui,.lit us,.lit ut,.lit (.int .i64 (0:Int)),.lit (.bool false),.lit (.int .i64 (0:Int)),.lit (.int .i64 (0:Int))]),OB.row ui 147 4 (([]:List Itm).map itC),OB.mI m3 L]) (R:=(OB.row ut 22 1 (([]:List (List ByteArray)).map Zh)::OB.row us 22 1 (([]:List (List ByteArray)).map Zh)::R)) (ZsV hJ (bm:=b4) (bt:=b1) (b:=b2) (d:=d) (f:=(ge d.frames n)) (M:=m3) (L:=L) (vi:=ui) (vs:=us) (vt:=ut) (n:=0) (kn:=false) (y1:=(0:Int)) (y2:=(0:Int)) (t:=t) (by exact ht) (by exact hh) (by exact hl) (by exact hs)) ZnT rfl rfl rfl (lb rfl) hS hJ0 Zq (fun a w h=>(Za (h.get 0 rfl) Ze)) fun z6=>?_
  refine snK 1 tb rfl ?_
  refine seK [0,5] [_,_] rfl ?_
  refine nx (qso tb hJ [0,1,1001] [_,_] [_,_,_] ?_)
  refine cj 2 (fun hb2=>?_) fun hb2=>?_
  ·
   try simp at hb2
   have e5:=Ztc (d:=d) (n:=n) (t:=t) (c:=z6.1.1) (by rcases z6.2 with h9 | h9;exact absurd h9.1 hb2;rw[←hL];exact h9.2)
   refine tsq ?_
   refine sq (.at b2 0) rfl rfl (lb rfl) (fun _ _ h=>Zo (cs:=[.lit (.pointer (some ⟨b2,0,none⟩))]) ZU rfl (Zd h.x (mo 0 rfl)) (h.get 1 rfl) rfl h.x) ?_
   refine sq (.at b2 0) rfl rfl (lb rfl) (fun _ _ h=>Zk rfl (h.get 0 rfl) h.x) ?_
   refine sq (.at b2 12) rfl rfl (lb rfl) (fun _ _ h=>Zm ZH rfl (h.get 0 rfl) h.x) ?_
   refine kw pm2 ?_
   refine ZJ (b:=b2) (off:=12) (cs:=(mkC d (ge d.frames n) [.lit (.map (some m3)),.lit z6.1.2.1,.lit us,.lit ut,.lit (.int .i64 ((0:Nat):Int)),.lit (.bool false),.lit (.int .i64 (0:Int)),.lit (.int .i64 (0:Int))])) (es:=(mkC d (ge d.frames n) [.lit (.map (some m3)),XL ([]:List Itm),.lit us,.lit ut,.lit (.int .i64 ((0:Nat):Int)),.lit (.bool false),.lit (.int .i64 (0:Int)),.lit (.int .i64 (0:Int))])) hJ hJ0 Xe rfl rfl rfl (lb rfl) rfl (fun a w h=>⟨(h.get 0 rfl),(Zbg (Rel.of_lit (Go.Value.slice none 0 0)))⟩) ?_
   refine seK [3,4] [_,_] rfl ?_
   refine nx (tsq ?_)
   refine sq (.at b2 0) rfl rfl (lb rfl) (fun _ _ h=>Zo (cs:=[.lit (.pointer (some ⟨b2,0,none⟩))]) ZU rfl (Zd h.x (mo 1 rfl)) (h.get 1 rfl) rfl h.x) ?_
   refine snK 1 tb rfl ?_
   refine Y7 (O:=[OB.var b2 (mkC d (ge d.frames n) [.lit (.map (some m3)),XL ([]:List Itm),.lit us,.lit ut,.lit (.int .i64 ((0:Nat):Int)),.lit (.bool false),.lit (.int .i64 (0:Int)),.lit (.int .i64 (0:Int))])]) (R:=(OB.var b4 [.lit (.pointer (some ⟨b2,0,none⟩))]::OB.var b1 [Zb t]::OB.row z6.1.2.1 147 4 (z6.1.2.2.map itC)::OB.mI m3 L::OB.row ut 22 1 (([]:List (List ByteArray)).map Zh)::OB.row us 22 1 (([]:List (List ByteArray)).map Zh)::R)) (Zgq hJ (b:=b2) (d:=d) (f:=(ge d.frames n)) (nm:=(.map (some m3))) (xs:=([]:List Itm)) (n:=0) (vs:=us) (vt:=ut) (kn:=false) (y1:=(0:Int)) (y2:=(0:Int)) (e:=z6.1.1) (p:=(0:Int)) ) Zeg rfl rfl rfl (lb rfl) hS hJ0 Zq (fun a w h=>(Za (h.get 1 rfl) (Za (h.get 0 rfl) (Za (Rel.of_lit (Go.Value.int Go.IntKind.i64 0)) Ze)))) fun _=>?_
   refine seK [4] [_] rfl ?_
   refine nx (ZI tb hJ [1001] [.at b2 0,_] [0] [_] rfl ⟨fun _ _ _ hx hl _=>Zo (cs:=[.lit (.pointer (some ⟨b2,0,none⟩))]) ZU rfl (Zd hx (mo 1 rfl)) (hl.env 0 7 _ rfl rfl) rfl hx,trivial⟩ ?_)
   refine tw pm1 ?_
   refine tw Zy ?_
   refine tw pm1 ?_
   refine tw Zy ?_
   refine tw pm1 ?_
   refine tw Zy ?_
   refine tw pm1 ?_
   refine tw Zy ?_
   refine tw pm1 ?_
   refine tw pm2 ?_
   refine tw pm2 ?_
   refine tw (ob0 (show OB.var b2 (mkC d (ge d.frames n) [.lit (.map (some m3)),XL ([]:List Itm),.lit us,.lit ut,.lit (.int .i64 ((0:Nat):Int)),.lit (.bool true),.lit (.int .i64 z6.1.1),.lit (.int .i64 (0:Int))])=OB.var b2 (mkC d (ge d.frames n) [.lit (.map (some m3)),XL (Zaa d n t),.lit us,.lit ut,.lit (.int .i64 (((ZaH d n t).n:Nat):Int)),.lit (.bool ((ZaH d n t).kn)),.lit (.int .i64 ((ZaH d n t).v.1)),.lit (.int .i64 ((ZaH d n t).v.2))])from by first | (rw[e5.1,e5.2.2.2.1,e5.2.2.2.2.1,e5.2.2.2.2.2.1,e5.2.2.2.2.2.2];done) | (rw[e5.1,e5.2.2.2.1,e5.2.2.2.2.1,e5.2.2.2.2.2.1,e5.2.2.2.2.2.2];rfl) | (rw[e5.2.1]) | (rw[e5.2.2.1]))) ?_
   refine tw (ob1 (congrArg (fun z'=>OB.row us 22 1 ((z').map Zh)) (show([]:List (List ByteArray))=((ZaH d n t).sk)from by first | (rw[e5.1,e5.2.2.2.1,e5.2.2.2.2.1,e5.2.2.2.2.2.1,e5.2.2.2.2.2.2];done) | (rw[e5.1,e5.2.2.2.1,e5.2.2.2.2.1,e5.2.2.2.2.2.1,e5.2.2.2.2.2.2];rfl) | (rw[e5.2.1]) | (rw[e5.2.2.1])))) ?_
   refine tw (ob2 (congrArg (fun z'=>OB.row ut 22 1 ((z').map Zh)) (show([]:List (List ByteArray))=((ZaH d n t).tg)from by first | (rw[e5.1,e5.2.2.2.1,e5.2.2.2.2.1,e5.2.2.2.2.2.1,e5.2.2.2.2.2.2];done) | (rw[e5.1,e5.2.2.2.1,e5.2.2.2.2.1,e5.2.2.2.2.2.1,e5.2.2.2.2.2.2];rfl) | (rw[e5.2.1]) | (rw[e5.2.2.1])))) ?_
   exact Zg (fun a w h=>ZQ  (m:=0) (b2,(.map (some m3)),us,ut) rfl h rfl rfl)
  ·
   try simp at hb2
   have e5:=mch_ok (d:=d) (n:=n) (t:=t) (xs:=z6.1.2.2) (by rcases z6.2 with h9 | h9;rw[←hL];exact h9.2;exact absurd hb2 h9.1)
   refine Zc (nx (tw pm2 ?_))
   refine tw pm3 ?_
   refine tw (fun h=>ZbX (j:=12) (cs':=(mkC d (ge d.frames n) [.lit (.map (some m3)),XL z6.1.2.2,.lit us,.lit ut,.lit (.int .i64 ((0:Nat):Int)),.lit (.bool false),.lit (.int .i64 (0:Int)),.lit (.int .i64 (0:Int))])) hS rfl rfl h) ?_
   refine tsq ?_
   refine sq (.at b2 0) rfl rfl (lb rfl) (fun _ _ h=>Zo (cs:=[.lit (.pointer (some ⟨b2,0,none⟩))]) ZU rfl (Zd h.x (mo 1 rfl)) (h.get 1 rfl) rfl h.x) ?_
   refine kw pm4 ?_
   refine kw pm4 ?_
   refine kw pm4 ?_
   refine kw pm4 ?_
   refine kw pm5 ?_
   refine kw pm5 ?_
   refine Y7 (O:=[OB.var b2 (mkC d (ge d.frames n) [.lit (.map (some m3)),XL z6.1.2.2,.lit us,.lit ut,.lit (.int .i64 ((0:Nat):Int)),.lit (.bool false),.lit (.int .i64 (0:Int)),.lit (.int .i64 (0:Int))]),OB.row us 22 1 (([]:List (List ByteArray)).map Zh)]) (R:=(OB.var b4 [.lit (.pointer (some ⟨b2,0,none⟩))]::OB.var b1 [Zb t]::OB.mI m3 L::OB.row ut 22 1 (([]:List (List ByteArray)).map Zh)::R)) (ZsX hJ (b:=b2) (d:=d) (f:=(ge d.frames n)) (nm:=(.map (some m3))) (xs:=z6.1.2.2) (vs:=us) (vt:=ut) (n:=0) (kn:=false) (y1:=(0:Int)) (y2:=(0:Int)) (sk:=([]:List (List ByteArray))) ) Zii rfl rfl rfl (lb rfl) hS hJ0 Zq (fun a w h=>(Za (h.get 0 rfl) Ze)) fun _=>?_
   refine seK [3] [_] rfl ?_
   refine nx (ZI tb hJ [1001] [.at b2 0,_] [0] [_] rfl ⟨fun _ _ _ hx hl _=>Zo (cs:=[.lit (.pointer (some ⟨b2,0,none⟩))]) ZU rfl (Zd hx (mo 2 rfl)) (hl.env 0 7 _ rfl rfl) rfl hx,trivial⟩ ?_)
   refine tw pm2 ?_
   refine tw Zy ?_
   refine tw pm2 ?_
   refine tw Zy ?_
   refine tw pm2 ?_
   refine tw Zy ?_
   refine tw (ob0 (show OB.var b2 (mkC d (ge d.frames n) [.lit (.map (some m3)),XL z6.1.2.2,.lit us,.lit ut,.lit (.int .i64 ((0:Nat):Int)),.lit (.bool (false|| !decide (0<z6.1.2.2.length))),.lit (.int .i64 (if 0<z6.1.2.2.length then(0:Int)else(Zen (ge d.frames n) ([]:List (List ByteArray)) 0).1)),.lit (.int .i64 (if 0<z6.1.2.2.length then(0:Int)else(Zen (ge d.frames n) ([]:List (List ByteArray)) 0).2))])=OB.var b2 (mkC d (ge d.frames n) [.lit (.map (some m3)),XL (Zaa d n t),.lit us,.lit ut,.lit (.int .i64 (((ZaH d n t).n:Nat):Int)),.lit (.bool ((ZaH d n t).kn)),.lit (.int .i64 ((ZaH d n t).v.1)),.lit (.int .i64 ((ZaH d n t).v.2))])from by first | (rw[e5.1,e5.2.2.2.1,e5.2.2.2.2.1,e5.2.2.2.2.2.1,e5.2.2.2.2.2.2];done) | (rw[e5.1,e5.2.2.2.1,e5.2.2.2.2.1,e5.2.2.2.2.2.1,e5.2.2.2.2.2.2];rfl) | (rw[e5.2.1]) | (rw[e5.2.2.1]))) ?_
   refine tw (ob1 (congrArg (fun z'=>OB.row us 22 1 ((z').map Zh)) (show([]:List (List ByteArray))=((ZaH d n t).sk)from by first | (rw[e5.1,e5.2.2.2.1,e5.2.2.2.2.1,e5.2.2.2.2.2.1,e5.2.2.2.2.2.2];done) | (rw[e5.1,e5.2.2.2.1,e5.2.2.2.2.1,e5.2.2.2.2.2.1,e5.2.2.2.2.2.2];rfl) | (rw[e5.2.1]) | (rw[e5.2.2.1])))) ?_
   refine tw (ob2 (congrArg (fun z'=>OB.row ut 22 1 ((z').map Zh)) (show([]:List (List ByteArray))=((ZaH d n t).tg)from by first | (rw[e5.1,e5.2.2.2.1,e5.2.2.2.2.1,e5.2.2.2.2.2.1,e5.2.2.2.2.2.2];done) | (rw[e5.1,e5.2.2.2.1,e5.2.2.2.2.1,e5.2.2.2.2.2.1,e5.2.2.2.2.2.2];rfl) | (rw[e5.2.1]) | (rw[e5.2.2.1])))) ?_
   exact Zg (fun a w h=>ZQ  (m:=0) (b2,(.map (some m3)),us,ut) rfl h rfl rfl)
theorem Zmw {J:World→Prop} (hJ:Stab J) (d:Db) (n:Nat) (t:List ByteArray) (hn:n<d.frames.length) (hfl:d.frames.length≤400) (hfr:∀ g∈d.frames,okF g∧okT g) (hM:ZfA (Zaj (d.frames.take n)) d.frames.length) (hf:ZgY (ge d.frames n)) (hw:∀ g∈d.frames,g.wide.length*32≤140737488351232) (hl:t.length≤100000) (hs:ZcZ t≤1000000000):Fn Tryz.prog J 53 [.agg (dbC d),.int (n:Nat),.rd (Zb t)] (.agg (vdC (Zeo d.frames d.vars (ge d.frames n) (Zaj (d.frames.take n)) t))):=by
 refine Zu (N:=19) Tryz.func53 rfl rfl (lb rfl) fun S w0 hS hJ0=>?_
 refine tw Yj ?_
 refine ln 2 fun hl1=>?_
 obtain⟨h0,h00⟩:=startV (t:=t) hM hf
 refine tsq ?_
 refine sq (.ptr (dbC d)) rfl rfl (lb rfl) (fun _ _ h=>YP rfl (h.get 0 rfl) (Zr hS _ h.keep h.x _ (Nat.le_refl _)) (jo hJ h.x)) ?_
 refine ZP Zcs hJ rfl rfl rfl (lb rfl) fun b1=>?_
 refine seK [0,1,3,4] [_,_,_,_] rfl ?_
 refine nx (ZiH (tsq ?_))
 refine snK 3 tb rfl ?_
 refine Y7 (O:=[]) (R:=[OB.var b1 [.lit (.int .i64 0),.lit (.int .i64 0)]]) (ZmC hJ (d:=d) (n:=n) (t:=t) sfz sfz (by exact fun h hh=>(hf h hh).2) (by exact(hfr _ (ZF hn)).1.1) (by exact hl) (by exact hs)) Zt6 rfl rfl rfl (lb rfl) hS hJ0 Zq (fun a w h=>(Za (h.get 2 rfl) (Za (h.get 1 rfl) (Za (h.get 0 rfl) Ze)))) fun z2=>?_
 refine snK 1 tb rfl ?_
 refine seK [0,5] [_,_] rfl ?_
 refine nx (Zj (ZiI (nx (Zj (Zf (lpo (ι:=Ms×Value×Value) (fun(m9,_,_)=>(Zow (Zaa d n t) m9)∧((Zga d.frames d.vars (ge d.frames n) (Zaa d n t) ((Zaa d n t).length+1) (ZaH d n t)).v=(Zga d.frames d.vars (ge d.frames n) (Zaa d n t) ((Zaa d n t).length+1-m9.n) m9).v)) (fun(m9,vs,vt)=>[OB.var z2.1 (mkC d (ge d.frames n) [.lit z2.2.1,XL (Zaa d n t),.lit vs,.lit vt,.lit (.int .i64 (m9.n:Int)),.lit (.bool m9.kn),.lit (.int .i64 m9.v.1),.lit (.int .i64 m9.v.2)]),OB.row vs 22 1 (m9.sk.map Zh),OB.row vt 22 1 (m9.tg.map Zh),OB.var b1 [.lit (.int .i64 0),.lit (.int .i64 0)]]) (fun(_,_,_)=>[]) (fun(m9,_,_)=>(Zaa d n t).length-m9.n) [0,1] [_,_] ((ZaH d n t),z2.2.2.1,z2.2.2.2) ⟨h00,by rw[show(ZaH d n t).n=0 from Zsp];rfl⟩ ?_))))))
 rintro⟨m9,vs,vt⟩ ⟨f1_1,f1_2⟩
 refine Zf (tsq ?_)
 refine snK 1 tb rfl ?_
 refine Y7 (O:=[OB.var z2.1 (mkC d (ge d.frames n) [.lit z2.2.1,XL (Zaa d n t),.lit vs,.lit vt,.lit (.int .i64 (m9.n:Int)),.lit (.bool m9.kn),.lit (.int .i64 m9.v.1),.lit (.int .i64 m9.v.2)]),OB.row vs 22 1 (m9.sk.map Zh),OB.row vt 22 1 (m9.tg.map Zh)]) (R:=[OB.var b1 [.lit (.int .i64 0),.lit (.int .i64 0)]]) (p_step hJ (b:=z2.1) (d:=d) (f:=(ge d.frames n)) (nm:=z2.2.1) (xs:=(Zaa d n t)) (vs:=vs) (vt:=vt) (n:=m9.n) (kn:=m9.kn) (y1:=m9.v.1) (y2:=m9.v.2) (sk:=m9.sk) (tg:=m9.tg) (by exact inv_i h0 f1_1) (by exact f1_1.sk) (by exact(Zto h0 f1_1).1) (by exact(Zto h0 f1_1).2.1) (by exact(Zto h0 f1_1).2.2) (by exact fun g hg=>(hfr g hg).1) (by exact hw _ (ZF hn))) Zt5 rfl rfl rfl (lb rfl) hS hJ0 Zq (fun a w h=>(Za (h.get 0 rfl) Ze)) fun z3=>?_
 refine snK 1 tb rfl ?_
 refine seK [0,3,4] [_,_,_] rfl ?_
 refine nx (cj 0 (fun hb1=>?_) fun hb1=>?_)
 try simp at hb1
 have e5:=f1_2.trans (ZoV (fs:=d.frames) (vars:=d.vars) (f:=ge d.frames n) f1_1 (by rw[←ZiK];exact hb1))
 refine Zx (nx (tsq ?_))
 refine snK 1 tb rfl ?_
 refine sq (.at z2.1 0) rfl rfl (lb rfl) (fun _ _ h=>Zk rfl (h.get 0 rfl) h.x) ?_
 refine sq (.at z2.1 17) rfl rfl (lb rfl) (fun _ _ h=>Zm ZcR rfl (h.get 0 rfl) h.x) ?_
 refine sq (.agg [.lit (.int .i64 ((ZS d.frames d.vars (ge d.frames n) (Zaa d n t) ⟨m9.sk,m9.tg,m9.n,m9.kn,(m9.v.1,m9.v.2),false⟩).v.1)),.lit (.int .i64 ((ZS d.frames d.vars (ge d.frames n) (Zaa d n t) ⟨m9.sk,m9.tg,m9.n,m9.kn,(m9.v.1,m9.v.2),false⟩).v.2))]) rfl rfl (lb rfl) (fun _ _ h=>YI (cs:=(mkC d (ge d.frames n) [.lit z2.2.1,XL (Zaa d n t),.lit z3.1,.lit z3.2,.lit (.int .i64 (((ZS d.frames d.vars (ge d.frames n) (Zaa d n t) ⟨m9.sk,m9.tg,m9.n,m9.kn,(m9.v.1,m9.v.2),false⟩).n:Nat):Int)),.lit (.bool ((ZS d.frames d.vars (ge d.frames n) (Zaa d n t) ⟨m9.sk,m9.tg,m9.n,m9.kn,(m9.v.1,m9.v.2),false⟩).kn)),.lit (.int .i64 ((ZS d.frames d.vars (ge d.frames n) (Zaa d n t) ⟨m9.sk,m9.tg,m9.n,m9.kn,(m9.v.1,m9.v.2),false⟩).v.1)),.lit (.int .i64 ((ZS d.frames d.vars (ge d.frames n) (Zaa d n t) ⟨m9.sk,m9.tg,m9.n,m9.kn,(m9.v.1,m9.v.2),false⟩).v.2))])) (ds:=[.lit (.int .i64 ((ZS d.frames d.vars (ge d.frames n) (Zaa d n t) ⟨m9.sk,m9.tg,m9.n,m9.kn,(m9.v.1,m9.v.2),false⟩).v.1)),.lit (.int .i64 ((ZS d.frames d.vars (ge d.frames n) (Zaa d n t) ⟨m9.sk,m9.tg,m9.n,m9.kn,(m9.v.1,m9.v.2),false⟩).v.2))]) Zbr rfl (Zd h.x (mo 0 rfl)) (h.get 0 rfl) rfl rfl h.x) ?_
 refine kw pm3 ?_
 refine ZE (b:=b1) (off:=0) (cs:=[.lit (.int .i64 0),.lit (.int .i64 0)]) (es:=[.lit (.int .i64 ((ZS d.frames d.vars (ge d.frames n) (Zaa d n t) ⟨m9.sk,m9.tg,m9.n,m9.kn,(m9.v.1,m9.v.2),false⟩).v.1)),.lit (.int .i64 ((ZS d.frames d.vars (ge d.frames n) (Zaa d n t) ⟨m9.sk,m9.tg,m9.n,m9.kn,(m9.v.1,m9.v.2),false⟩).v.2))]) (news:=[.lit (.int .i64 ((ZS d.frames d.vars (ge d.frames n) (Zaa d n t) ⟨m9.sk,m9.tg,m9.n,m9.kn,(m9.v.1,m9.v.2),false⟩).v.1)),.lit (.int .i64 ((ZS d.frames d.vars (ge d.frames n) (Zaa d n t) ⟨m9.sk,m9.tg,m9.n,m9.kn,(m9.v.1,m9.v.2),false⟩).v.2))]) hJ hJ0 Q6 rfl rfl rfl (lb rfl) rfl (fun a w h=>⟨(h.get 6 rfl),(h.get 0 rfl)⟩) ?_
 refine seK [6] [_] rfl ?_
 exact nx (Zg (fun a w h=>QW (cs:=[.lit (.int .i64 ((ZS d.frames d.vars (ge d.frames n) (Zaa d n t) ⟨m9.sk,m9.tg,m9.n,m9.kn,(m9.v.1,m9.v.2),false⟩).v.1)),.lit (.int .i64 ((ZS d.frames d.vars (ge d.frames n) (Zaa d n t) ⟨m9.sk,m9.tg,m9.n,m9.kn,(m9.v.1,m9.v.2),false⟩).v.2))]) (m:=0) rfl Zbr h rfl rfl (show([.lit (.int .i64 ((ZS d.frames d.vars (ge d.frames n) (Zaa d n t) ⟨m9.sk,m9.tg,m9.n,m9.kn,(m9.v.1,m9.v.2),false⟩).v.1)),.lit (.int .i64 ((ZS d.frames d.vars (ge d.frames n) (Zaa d n t) ⟨m9.sk,m9.tg,m9.n,m9.kn,(m9.v.1,m9.v.2),false⟩).v.2))]:List CD)=[.lit (.int .i64 ((Zeo d.frames d.vars (ge d.frames n) (Zaj (d.frames.take n)) t).1)),.lit (.int .i64 ((Zeo d.frames d.vars (ge d.frames n) (Zaj (d.frames.take n)) t).2))]from by rw[verV,e5];rfl)))
 try simp at hb1
 have e6:=ZoU (fs:=d.frames) (vars:=d.vars) (f:=ge d.frames n) f1_1 (by rw[←ZiK];exact hb1)
 exact Zc (Xi ((ZS d.frames d.vars (ge d.frames n) (Zaa d n t) m9),z3.1,z3.2) [1,2] ⟨ZoQ (fun g hg=>(hfr g hg).2) h0 f1_1,f1_2.trans e6.1⟩ (hm:=(show(Zaa d n t).length-(ZS d.frames d.vars (ge d.frames n) (Zaa d n t) m9).n< (Zaa d n t).length-m9.n from by rw[e6.2.1];omega)))
theorem Zhc:Zem Tryz.prog 41 [.int .i64 0,.int .i64 0]:=⟨fun i=>(#[(0,1),(1,1)]:Array (Nat×Nat))[i]?,fun j hj=>by rcases j with _ | _ | j<;>first | rfl | (simp at hj;omega),fun parts=>by kernel_rfl⟩
theorem Zmx {J:World→Prop} (hJ:Stab J) (d:Db) (n:Nat) (hn:n<d.frames.length) (hck:Qf d=0) (hw:∀ f∈d.frames,f.wide.length*32≤140737488351232) (hpl:∀ g∈d.frames,g.proof.length≤100000∧ZcZ g.proof≤1000000000):Fn Tryz.prog J 25 [.agg (dbC d),.int (n:Nat)] (.agg (vdC (ZeE d n))):=by
 refine Zu (N:=22) Tryz.func25 rfl rfl (lb rfl) fun S w0 hS hJ0=>?_
 refine tw Yj ?_
 refine tsq ?_
 refine sq (.ptr (dbC d)) rfl rfl (lb rfl) (fun _ _ h=>YP rfl (h.get 0 rfl) (Zr hS _ h.keep h.x _ (Nat.le_refl _)) (jo hJ h.x)) ?_
 refine ZP Zcs hJ rfl rfl rfl (lb rfl) fun b1=>?_
 refine seK [0,1,3] [_,_,_] rfl ?_
 refine nx (Zj (ZI tb hJ [0,1,2,1001,1006] [_,_,_,.ptr (frC (ge d.frames n)),_,_,_] [3] [_,_,_,_,_] rfl ⟨iIx Ye,trivial⟩ ?_))
 refine ln 3 fun hl1=>?_
 refine cj 4 (fun hb1=>?_) fun hb1=>?_
 ·
  try simp at hb1
  refine tsq ?_
  refine sq (.agg (vdC (⟨0,0⟩:Int×Int))) rfl rfl (lb rfl) (fun _ _ h=>Xk (ps:=[]) (us:=[.int .i64 0,.int .i64 0]) Zhc rfl (by simp) ZjZ rfl (XU (.lit _ True.intro) (XU (.lit _ True.intro) Yb)) h.x) ?_
  refine ZE (b:=b1) (off:=0) (cs:=[.lit (.int .i64 0),.lit (.int .i64 0)]) (es:=[.lit (.int .i64 ((⟨0,0⟩:Int×Int).1)),.lit (.int .i64 ((⟨0,0⟩:Int×Int).2))]) (news:=[.lit (.int .i64 ((⟨0,0⟩:Int×Int).1)),.lit (.int .i64 ((⟨0,0⟩:Int×Int).2))]) hJ hJ0 Q6 rfl rfl rfl (lb rfl) rfl (fun a w h=>⟨(h.get 1 rfl),(h.get 0 rfl)⟩) ?_
  refine seK [1] [_] rfl ?_
  exact nx (Zg (fun a w h=>QW (cs:=[.lit (.int .i64 ((⟨0,0⟩:Int×Int).1)),.lit (.int .i64 ((⟨0,0⟩:Int×Int).2))]) (m:=0) rfl Zbr h rfl rfl (show([.lit (.int .i64 ((⟨0,0⟩:Int×Int).1)),.lit (.int .i64 ((⟨0,0⟩:Int×Int).2))]:List CD)=[.lit (.int .i64 ((ZeE d n).1)),.lit (.int .i64 ((ZeE d n).2))]from by simp[ZeE,hb1])))
 ·
  try simp at hb1
  refine Zc (nx (Zj (fun a w h=>YO (γ:=Unit) (fun ix'=>([.agg (dbC d),.int (n:Nat),.ptr [YD d.frames],.rd (YD d.frames),.int (n:Nat),.ptr (frC (ge d.frames n)),.ptr [Zb ((ge d.frames n).proof)],.rd (Zb ((ge d.frames n).proof)),.agg (vdC (Zeo d.frames d.vars (ge d.frames n) (Zaj (d.frames.take n)) ((ge d.frames n).proof))),.any]:List AV).getD ix' .any) (fun ix'=>([true,true,true,true,true,true,true,true,true,true]:List Bool).getD ix' true) [(4,fun(g:Unit)=>.at b1 0)] (fun(j':Nat) (g:Unit)=>match j' with | 0=>[OB.var b1 [.lit (.int .i64 0),.lit (.int .i64 0)]] | _=>[OB.var b1 [.lit (.int .i64 ((Zeo d.frames d.vars (ge d.frames n) (Zaj (d.frames.take n)) ((ge d.frames n).proof)).1)),.lit (.int .i64 ((Zeo d.frames d.vars (ge d.frames n) (Zaj (d.frames.take n)) ((ge d.frames n).proof)).2))]]) (fun(k':Nat) (g:Unit)=>match k' with | 0=>undef | _=>undef) [9] 0 () (fun _=>rfl) h hJ Yh rfl rfl rfl rfl rfl rfl (fun j' g hj p hp=>by rcases j' with _ | _ | _ | j'<;>first | exact hp | exact List.mem_cons_of_mem _ hp | exact List.mem_cons_of_mem _ (List.mem_cons_of_mem _ hp) | (exfalso;omega)) ⟨?o3_1_0,⟨?o3_1_1,⟨?o3_1_2,⟨?o3_1_3,⟨?o3_1_4,⟨?o3_1_5,⟨?o3_1_6,⟨?o3_1_7,⟨?o3_1_8,⟨?o3_1_9,trivial⟩⟩⟩⟩⟩⟩⟩⟩⟩⟩ ⟨?e3_1_0,trivial⟩ ⟨.old 0 4 _ rfl rfl,trivial⟩ ?n3_1)))
  exact oX rfl fun hx hl=>ZbH Zbs rfl (hl.env 1 2 _ rfl rfl) (Nat.le_refl _) hx
  exact oX rfl fun hx hl=>Yk rfl (hl.env 2 1 _ rfl rfl) hx
  exact oX rfl fun hx hl=>ZT XS rfl (hl.env 1 2 _ rfl rfl) hx
  exact oX rfl fun hx hl=>ZA ZdO rfl (hl.D 2 15 rfl rfl) hx
  exact oX rfl fun hx hl=>Yk rfl (hl.env 2 1 _ rfl rfl) hx
  exact oX rfl fun hx hl=>Yg (i:=(n:Int)) Ye rfl (hl.D 3 16 rfl rfl) (hl.D 4 17 rfl rfl) (Int.natCast_nonneg _) (Yy (xs:=d.frames) (k:=n) sfz) rfl hx
  exact oX rfl fun hx hl=>ZT ZkU rfl (hl.D 5 18 rfl rfl) hx
  exact oX rfl fun hx hl=>ZA X7 rfl (hl.D 6 19 rfl rfl) hx
  exact oY rfl fun hk hx hl=>ZeS (Zmw hJ (d:=d) (n:=n) (t:=((ge d.frames n).proof)) sfz (by exact ZtP hck) (by exact fun g hg=>⟨(ZfH hck g hg).1,(ZfH hck g hg).2.1⟩) (by exact ZkM (ZgH _ (by omega)) (by omega)) (by exact(ZfH hck _ (ZF (by omega))).2.2) (by exact hw) (by exact(hpl _ (ZF hn)).1) (by exact(hpl _ (ZF hn)).2)) Zug rfl (Zr hS _ hk hx) (hx.1) (Za (hl.D 0 13 rfl rfl) (Za (hl.D 1 14 rfl rfl) (Za (hl.D 7 20 rfl rfl) Ze))) (jo hJ hx)
  exact Zi rfl
  case e3_1_0=>exact⟨_,rfl,rfl,rfl,rfl,fun g _ w hk hx hl _=>(by obtain⟨us2,hv2,hr3⟩:=Zap (cs:=[.lit (.int .i64 ((Zeo d.frames d.vars (ge d.frames n) (Zaj (d.frames.take n)) ((ge d.frames n).proof)).1)),.lit (.int .i64 ((Zeo d.frames d.vars (ge d.frames n) (Zaj (d.frames.take n)) ((ge d.frames n).proof)).2))]) (hl.D 8 21 rfl rfl);exact Zp (XJ (off:=0) (cs:=[.lit (.int .i64 0),.lit (.int .i64 0)]) (news:=[.lit (.int .i64 ((Zeo d.frames d.vars (ge d.frames n) (Zaj (d.frames.take n)) ((ge d.frames n).proof)).1)),.lit (.int .i64 ((Zeo d.frames d.vars (ge d.frames n) (Zaj (d.frames.take n)) ((ge d.frames n).proof)).2))]) (es:=[.lit (.int .i64 ((Zeo d.frames d.vars (ge d.frames n) (Zaj (d.frames.take n)) ((ge d.frames n).proof)).1)),.lit (.int .i64 ((Zeo d.frames d.vars (ge d.frames n) (Zaj (d.frames.take n)) ((ge d.frames n).proof)).2))]) (us:=us2) hJ hJ0 Q6 rfl hk hx (hl.env 0 4 _ rfl rfl) (by rw[hv2];rfl) hr3 (lb rfl) rfl) fun v w' hp=>⟨g,rfl,fun _ _=>rfl,fun e=>(by cases e),hp⟩)⟩
  clear a w h
  intro _
  dsimp only[List.map]
  exact nx (Zg (fun a w h=>QW (cs:=[.lit (.int .i64 ((Zeo d.frames d.vars (ge d.frames n) (Zaj (d.frames.take n)) ((ge d.frames n).proof)).1)),.lit (.int .i64 ((Zeo d.frames d.vars (ge d.frames n) (Zaj (d.frames.take n)) ((ge d.frames n).proof)).2))]) (m:=0) rfl Zbr h rfl rfl (show([.lit (.int .i64 ((Zeo d.frames d.vars (ge d.frames n) (Zaj (d.frames.take n)) ((ge d.frames n).proof)).1)),.lit (.int .i64 ((Zeo d.frames d.vars (ge d.frames n) (Zaj (d.frames.take n)) ((ge d.frames n).proof)).2))]:List CD)=[.lit (.int .i64 ((ZeE d n).1)),.lit (.int .i64 ((ZeE d n).2))]from by simp[ZeE,hb1])))
theorem Zgu {J:World→Prop} (hJ:Stab J) (d:Db) (z:Int) (hw:∀ f∈d.frames,f.wide.length*32≤140737488351232) (hG:X8 J) (hpl:∀ g∈d.frames,g.proof.length≤100000∧ZcZ g.proof≤1000000000):Fn Tryz.prog J 10 [.agg (dbC d),.int z] (.tup [.agg (vdC ((Zct d z).1)),.int ((Zct d z).2)]):=by
 refine Zu (N:=17) Tryz.func10 rfl rfl (lb rfl) fun S w0 hS hJ0=>?_
 refine tw Yj ?_
 refine tsq ?_
 refine sq (.ptr (dbC d)) rfl rfl (lb rfl) (fun _ _ h=>YP rfl (h.get 0 rfl) (Zr hS _ h.keep h.x _ (Nat.le_refl _)) (jo hJ h.x)) ?_
 refine ZP Zcs hJ rfl rfl rfl (lb rfl) fun b1=>?_
 refine snK 1 tb rfl ?_
 refine seK [1,2,4] [_,_,_] rfl ?_
 refine nx (Zj (ZI tb hJ [0,1,2,1003] [_,_,.int (QZ d z),_] [2] [_,_,_,_] rfl ⟨iFo hS hJ (ZmI hJ (d:=d) (z:=z) (by exact hw) (by exact hG)) Zux,trivial⟩ ?_))
 refine qso tb hJ [0,1,2,3,1001] [_,_] [_,_,_,_,_] ?_
 refine cj 4 (fun hb1=>?_) fun hb1=>?_
 try simp at hb1
 refine tsq ?_
 refine sq (.agg (vdC (⟨0,0⟩:Int×Int))) rfl rfl (lb rfl) (fun _ _ h=>Xk (ps:=[]) (us:=[.int .i64 0,.int .i64 0]) Zhc rfl (by simp) ZjZ rfl (XU (.lit _ True.intro) (XU (.lit _ True.intro) Yb)) h.x) ?_
 refine snK 1 tb rfl ?_
 refine ZE (b:=b1) (off:=0) (cs:=[.lit (.int .i64 0),.lit (.int .i64 0)]) (es:=[.lit (.int .i64 ((⟨0,0⟩:Int×Int).1)),.lit (.int .i64 ((⟨0,0⟩:Int×Int).2))]) (news:=[.lit (.int .i64 ((⟨0,0⟩:Int×Int).1)),.lit (.int .i64 ((⟨0,0⟩:Int×Int).2))]) hJ hJ0 Q6 rfl rfl rfl (lb rfl) rfl (fun a w h=>⟨(h.get 2 rfl),(h.get 1 rfl)⟩) ?_
 refine snK 1 tb rfl ?_
 refine seK [0,3] [_,_] rfl ?_
 exact nx (Zg (fun a w h=>Zfv (cs:=[.lit (.int .i64 ((⟨0,0⟩:Int×Int).1)),.lit (.int .i64 ((⟨0,0⟩:Int×Int).2))]) (m:=1) (q:=0) rfl Zbr h rfl rfl (show([.lit (.int .i64 ((⟨0,0⟩:Int×Int).1)),.lit (.int .i64 ((⟨0,0⟩:Int×Int).2))]:List CD)=[.lit (.int .i64 (((Zct d z).1).1)),.lit (.int .i64 (((Zct d z).1).2))]from by simp[Zct,hb1]) rfl (eI (by simp[Zct,hb1]))))
 try simp at hb1
 have ha:QZ d z=0:=by simpa using hb1
 obtain⟨hck,hz0,hz1⟩:=ZqY ha
 refine tw (sa 2 rfl (show(.int z:AV)= .int (z.toNat:Nat)from congrArg AV.int (by omega))) ?_
 refine Zc (nx (tsq ?_))
 refine snK 2 tb rfl ?_
 refine sq (.agg (vdC (ZeE d z.toNat))) rfl rfl (lb rfl) (fun _ _ h=>ZeS (Zmx hJ (d:=d) (n:=z.toNat) sfz (by exact hck) (by exact hw) (by exact hpl)) Zuw rfl (Zr hS _ h.keep h.x) (h.x.1) (Za (h.get 1 rfl) (Za (h.get 0 rfl) Ze)) (jo hJ h.x)) ?_
 refine ZE (b:=b1) (off:=0) (cs:=[.lit (.int .i64 0),.lit (.int .i64 0)]) (es:=[.lit (.int .i64 ((ZeE d z.toNat).1)),.lit (.int .i64 ((ZeE d z.toNat).2))]) (news:=[.lit (.int .i64 ((ZeE d z.toNat).1)),.lit (.int .i64 ((ZeE d z.toNat).2))]) hJ hJ0 Q6 rfl rfl rfl (lb rfl) rfl (fun a w h=>⟨(h.get 3 rfl),(h.get 0 rfl)⟩) ?_
 refine snK 1 tb rfl ?_
 refine seK [0,4] [_,_] rfl ?_
 exact nx (Zg (fun a w h=>Zfv (cs:=[.lit (.int .i64 ((ZeE d z.toNat).1)),.lit (.int .i64 ((ZeE d z.toNat).2))]) (m:=1) (q:=0) rfl Zbr h rfl rfl (show([.lit (.int .i64 ((ZeE d z.toNat).1)),.lit (.int .i64 ((ZeE d z.toNat).2))]:List CD)=[.lit (.int .i64 (((Zct d z).1).1)),.lit (.int .i64 (((Zct d z).1).2))]from by simp[Zct,hb1]) rfl (eI (by simp[Zct,hb1]))))
theorem Zsh:Tryz.prog.underlying 3=some (.int .i64):=by kernel_rfl
theorem Zsi:Tryz.prog.underlying 34=some (.int .i64):=by kernel_rfl
theorem Zlp:(Tryz.prog.fieldsOf 41).toList=[{ name:= "Code",type:=34,offset:=0,embedded:=false,tag:= "",pkgPath:= "",byteOffset:=0 }, { name:= "Step",type:=3,offset:=1,embedded:=false,tag:= "",pkgPath:= "",byteOffset:=8 }]:=by kernel_rfl
theorem Zlo:Tryz.prog.underlying 41=some (.struct (Tryz.prog.fieldsOf 41)):=by kernel_rfl
theorem Zf8 (c:Array Value) (i:Nat) (v:Value) (h:c[i]?=some v) (w:World):(part 3 c i).run Tryz.prog w= .ok v w:=by
 simp[part,Tryz.isAgg3,h]
theorem Zf9 (c:Array Value) (i:Nat) (v:Value) (h:c[i]?=some v) (w:World):(part 34 c i).run Tryz.prog w= .ok v w:=by
 simp[part,Tryz.isAgg34,h]
theorem eqVd:EqVd Tryz.prog 41:=by
 intro a b c d w x y
 refine⟨by simp[eqGuard],by simp[eqGuard],?_⟩
 unfold Op.equal Op.maxDepth
 rw[run_equalIn_struct w 9999 41 _ _ Zlo (by kernel_rfl),Zlp]
 have e1:=fun(c:Array Value) (v:Value) (i:Nat) (h:c[i]?=some v)=>Zf9 c i v h
 have e2:=fun(c:Array Value) (v:Value) (i:Nat) (h:c[i]?=some v)=>Zf8 c i v h
 have q1:(Op.equalIn 9999 34 (.int .i64 a) (.int .i64 c)).run Tryz.prog w= .ok (decide (a=c)) w:=run_equalIn_int w 9998 34 .i64 .i64 a c Zsi
 have q2:(Op.equalIn 9999 3 (.int .i64 b) (.int .i64 d)).run Tryz.prog w= .ok (decide (b=d)) w:=run_equalIn_int w 9998 3 .i64 .i64 b d Zsh
 simp only[Op.eqFields]
 rw[if_pos (by decide),if_pos (by decide)]
 simp only[Sem.run_bind]
 rw[e1 _ (.int .i64 a) 0 rfl w,Result.andThen_ok,e1 _ (.int .i64 c) 0 rfl w,Result.andThen_ok,q1,Result.andThen_ok]
 by_cases h1:a=c
 · simp only[h1,decide_true,Bool.not_true,Bool.false_eq_true,if_false,Sem.run_bind]
   rw[e2 _ (.int .i64 b) 1 rfl w,Result.andThen_ok,e2 _ (.int .i64 d) 1 rfl w,Result.andThen_ok,q2,Result.andThen_ok]
   by_cases h2:b=d
   · simp[h2,Sem.run_pure]
   · simp[h2,Sem.run_pure]
 · simp[h1,Sem.run_pure]
theorem call_4:Zl Tryz.prog 4:=Zs Tryz.func4 rfl rfl
theorem ZrS:Zl Tryz.prog 5:=Zs Tryz.func5 rfl rfl
theorem call_6:Zl Tryz.prog 6:=Zs Tryz.func6 rfl rfl
theorem call_7:Zl Tryz.prog 7:=Zs Tryz.func7 rfl rfl
theorem Zn9:Zl Tryz.prog 10:=Zs Tryz.func10 rfl rfl
theorem ZiC:ZqZ Tryz.prog 41 2:=⟨(#[.int .i64 0,.int .i64 0]),rfl,by kernel_rfl⟩
theorem Zh4 {J:World→Prop} (hJ:Stab J) (d:Db) (us:List UInt8) (hw:∀ f∈d.frames,f.wide.length*32≤140737488351232) (hG:X8 J) (hs:∀ g∈d.frames,∀ s∈g.proof,s.size≤1048576):Fn Tryz.prog J 3 [.agg (dbC d),.rd (Zq5 us)] (.bool true):=by
 refine Zu (N:=104) Tryz.func3 rfl rfl (lb rfl) fun S w0 hS hJ0=>?_
 refine tw Yj ?_
 refine ln 1 fun hl1=>?_
 refine ZI tb hJ [1,1000] [.ptr (dbC d),_] [0] [_,_] rfl ⟨fun _ _ hk hx hl _=>YP rfl (hl.env 0 0 _ rfl rfl) (Zr hS _ hk hx _ (Nat.le_refl _)) (jo hJ hx),trivial⟩ ?_
 refine Zj (ZI tb hJ [0,1,1013] [_,.bool (Zb1 d),_,_,_,.int (us.length:Nat),_,_,_,_,_,.int (d.frames.length:Nat),_,_] [1,5,11] [_,_,_] rfl ⟨iFo hS hJ (Zr6 hJ (d:=d) (by exact hw) (by exact hG)) call_4,YG Zdt,YG YK,trivial⟩ ?_)
 refine cj 2 (fun hb1=>?_) fun hb1=>?_
 ·
  refine ZI tb hJ [1001] [.bool true,_] [0] [_] rfl ⟨iFo hS hJ (Zln hJ  (by exact hG)) ZrS,trivial⟩ ?_
  exact Zg (Qw (m:=0) rfl rfl rfl)
 ·
  have e1:(Zb1 d=true∧us.length≤10)∧¬ d.frames.length=0:=by simp only[Bool.or_eq_false_iff,Bool.not_eq_false',decide_eq_false_iff_not]at hb1;exact⟨⟨hb1.1.1,by omega⟩,by omega⟩
  have e0:=Zkr e1.1.1
  have e1n:=Zkq e1.1.1
  have hpl:=few_pl e1.1.1 hs
  refine Zc (nx (qso tb hJ [0,1,1000] [_] [_,_,_] ?_))
  refine Zj (ZI tb hJ [1,2,1000,1001,1002] [_,.int (us.length:Nat),_] [1] [_,_,_,_,_] rfl ⟨YG Zdt,trivial⟩ ?_)
  refine Zf (tw (Z7 9 1 hJ) ?_)
  refine lpo (ι:=Nat×Value×(List ByteArray)) (fun(k,_,ls)=>(k≤us.length)∧(ls=Zc2 d us k)) (fun(_,vl,ls)=>[OB.row vl 9 1 (ls.map Q5)]) (fun(k,vl,_)=>[(35,.int (k:Nat)),(5,.lit vl)]) (fun(k,_,_)=>us.length-k) [0,2,3,4,1] [_,_,_] (0,(.slice none 0 0),([]:List ByteArray)) ⟨Nat.zero_le _,rfl⟩ ?_
  rintro⟨k,vl,ls⟩ ⟨f1_1,f1_2⟩
  refine qso tb hJ [0,1,2,3,4,1000] [_] [_,_,_,_,_,_] ?_
  refine cjS 5 (fun hb2=>?_) fun hb2=>?_
  ·
   try simp at hb2
   have h8:ls.length≤10:=by rw[f1_2,ZoY];omega
   have hi0:0≤((((ge us k).toNat:Nat):Int)% (d.frames.length:Int)):=Int.emod_nonneg _ (by omega)
   have hi1:((((ge us k).toNat:Nat):Int)% (d.frames.length:Int))< (d.frames.length:Int):=Int.emod_lt_of_pos _ (by omega)
   refine Zc (nx (Zj (Zf (ZI tb hJ [0,1,2,3,4,1002] [.ptr [.lit (.int .u8 ((ge us k).toNat:Int))],_,_] [0] [_,_,_,_,_,_] rfl ⟨iIx Zay,trivial⟩ ?_))))
   refine fun a w h=>YH [] (γ:=Value) (fun ix'=>([.lit vl,.ptr [YD d.frames],.rd (YD d.frames),.rd (.lit (.int .u8 ((ge us k).toNat:Int))),.int ((ge us k).toNat:Nat),.ptr [YD d.frames],.rd (YD d.frames),.int (d.frames.length:Nat),.int ((((ge us k).toNat:Nat):Int)% (d.frames.length:Int)),.ptr (frC (ge d.frames ((((ge us k).toNat:Nat):Int)% (d.frames.length:Int)).toNat)),.ptr (frC (ge d.frames ((((ge us k).toNat:Nat):Int)% (d.frames.length:Int)).toNat)),.str ((ge d.frames ((((ge us k).toNat:Nat):Int)% (d.frames.length:Int)).toNat).label),.rd (Zb ([(ge d.frames ((((ge us k).toNat:Nat):Int)% (d.frames.length:Int)).toNat).label])),.any,.any]:List AV).getD ix' .any) (fun _=>true) [(2,fun(g:Value)=>.ptr (dbC d)),(33,fun(g:Value)=>.rd (Zq5 us)),(34,fun(g:Value)=>.int (us.length:Nat)),(35,fun(g:Value)=>.int (k:Nat)),(5,fun(g:Value)=>.lit g)] (fun(j':Nat) (g:Value)=>match j' with | 0=>[OB.row vl 9 1 (ls.map Q5)] | 1=>[OB.row g 9 1 ((ls++([(ge d.frames ((((ge us k).toNat:Nat):Int)% (d.frames.length:Int)).toNat).label])).map Q5)] | _=>[OB.row g 9 1 ((ls++([(ge d.frames ((((ge us k).toNat:Nat):Int)% (d.frames.length:Int)).toNat).label])).map Q5)]) (fun(k':Nat) (g:Value)=>match k' with | 0=>g | 1=>g | _=>undef) [13,14] 2 (.slice none 0 0) (fun _=>rfl) h hJ Yh rfl rfl rfl rfl rfl rfl (fun j' g hj p hp=>by rcases j' with _ | _ | _ | j'<;>first | exact hp | exact List.mem_cons_of_mem _ hp | exact List.mem_cons_of_mem _ (List.mem_cons_of_mem _ hp) | (exfalso;omega)) ⟨?_,⟨?_,⟨?_,⟨?_,⟨?_,⟨?_,⟨?_,⟨?_,⟨?_,⟨?_,⟨?_,⟨?_,⟨?_,⟨?_,⟨?_,trivial⟩⟩⟩⟩⟩⟩⟩⟩⟩⟩⟩⟩⟩⟩⟩ ⟨?e7_1_0,⟨?e7_1_1,trivial⟩⟩ ⟨.old 0 2 _ rfl rfl,⟨.old 1 33 _ rfl rfl,⟨.old 2 34 _ rfl rfl,⟨.old 3 35 _ rfl rfl,⟨.eff 1 14 5 (fun(g:Value)=>g) rfl rfl (fun _=>rfl) (fun _ _ hx=>Xh (hx.2.1 _ (mo 0 rfl))),trivial⟩⟩⟩⟩⟩ ?n7_1
   exact oX rfl fun hx hl=>Yk rfl (hl.env 4 5 _ rfl rfl) hx
   exact oX rfl fun hx hl=>ZT XS rfl (hl.env 0 2 _ rfl rfl) hx
   exact oX rfl fun hx hl=>ZA ZdO rfl (hl.D 1 40 rfl rfl) hx
   exact oX rfl fun hx hl=>Yk rfl (hl.env 5 7 _ rfl rfl) hx
   exact oX rfl fun hx hl=>Zmd ZbT X9 rfl (hl.D 3 42 rfl rfl) hx
   exact oX rfl fun hx hl=>ZT XS rfl (hl.env 0 2 _ rfl rfl) hx
   exact oX rfl fun hx hl=>ZA ZdO rfl (hl.D 5 44 rfl rfl) hx
   exact oX rfl fun hx hl=>ZaD YK rfl (hl.D 6 45 rfl rfl) hx
   exact oX rfl fun hx hl=>r_rem rfl (hl.D 4 43 rfl rfl) (hl.D 7 46 rfl rfl) sfz sfz hx
   exact oX rfl fun hx hl=>Yg (i:=((((ge us k).toNat:Nat):Int)% (d.frames.length:Int))) Ye rfl (hl.D 2 41 rfl rfl) (hl.D 8 47 rfl rfl) (by first | exact hi0 | exact hi1 | omega) (ZdE (xs:=d.frames) (i:=((((ge us k).toNat:Nat):Int)% (d.frames.length:Int))) (by first | exact hi0 | exact hi1 | omega) (by first | exact hi0 | exact hi1 | omega)) rfl hx
   exact oX rfl fun hx hl=>ZT Zbm rfl (hl.D 9 48 rfl rfl) hx
   exact oX rfl fun hx hl=>ZA Q1 rfl (hl.D 10 49 rfl rfl) hx
   exact oY rfl fun hk hx hl=>Yx Zn Zby rfl (hl.D 11 50 rfl rfl) (Zr hS _ hk hx _ (Nat.le_refl _)) (jo hJ hx)
   exact Zi rfl
   exact Zi rfl
   case e7_1_0=>exact⟨_,rfl,rfl,rfl,rfl,fun _ _ w hk hx hl _=>Zp (YS (f:=Q5) ls ([(ge d.frames ((((ge us k).toNat:Nat):Int)% (d.frames.length:Int)).toNat).label]) (fun _=>rfl) X3 hJ hJ0 rfl hk hx (hl.D 0 39 rfl rfl).lit (hl.D 12 51 rfl rfl) sfz sfz) fun v w' hp=>⟨v,rfl,fun k' hk'=>absurd hk' (Nat.not_lt_zero _),fun _=>rfl,hp⟩⟩
   case e7_1_1=>exact⟨_,rfl,rfl,rfl,rfl,fun g _ w hk hx _ hs=>Zp (Zbo (.inl rfl) (hs 0 13 _ 52 (by omega) rfl rfl rfl) hk hx) fun v w' hp=>⟨g,rfl,fun _ _=>rfl,fun _=>hp.1,hp.2⟩⟩
   clear a w h
   intro v1
   dsimp only[List.map]
   refine nx (YQ tb hJ [0,1,2,4,1001] [.int (k+1:Nat),_] [0] [_,_,_,_,_] rfl ⟨Yv,trivial⟩ ?_)
   exact Xi (k+1,v1,ls++([(ge d.frames ((((ge us k).toNat:Nat):Int)% (d.frames.length:Int)).toNat).label])) [0,1,2,4,3] ⟨by omega,by rw[Zl1,←f1_2]⟩
  ·
   try simp at hb2
   have e2:ls=Zc2 d us us.length:=by rw[f1_2,show k=us.length by omega]
   have e6:Zhq d ls=0:=by rw[e2];exact Zsz e0 (by omega) _
   refine Zx (nx (tw (fun h=>Yq hS h (m:=4) (s:=5) rfl) ?_))
   refine ZI tb hJ [1,1001,1004,1006,1007] [_,_,.tup [.rd (Xj (if Zhq d ls=0 then ZaK d ls d.frames.length else [])),.int (Zhq d ls)],_,_,_,_,_] [2] [_,_,_,_,_] rfl ⟨iFo hS hJ (Zpv hJ (d:=d) (l:=ls) (by exact hw) (by exact hG)) call_6,trivial⟩ ?_
   refine ln 1 fun hl2=>?_
   refine ln 2 fun hl3=>?_
   refine Zj (qso tb hJ [0,3,1001] [_,_] [_,_,_] ?_)
   refine cj 2 (fun hb3=>?_) fun hb3=>?_
   ·
    exact False.elim (by simp[e6]at hb3)
   ·
    refine tw (sa 1 rfl (show(.rd (Xj (if Zhq d ls=0 then ZaK d ls d.frames.length else [])):AV)= .rd (Xj (ZaK d (Zc2 d us us.length) d.frames.length))from by rw[e2,if_pos (e2▸e6)])) ?_
    refine Zc (nx (ln 1 fun hl4=>?_))
    refine tsq ?_
    refine snK 2 tb rfl ?_
    refine sq (.agg (dbC (ZdF d (ZaK d (Zc2 d us us.length) d.frames.length)))) rfl rfl (lb rfl) (fun _ _ h=>ZeS (Zmu hJ (d:=d) (gone:=(ZaK d (Zc2 d us us.length) d.frames.length)) (by omega)) call_7 rfl (Zr hS _ h.keep h.x) (h.x.1) (Za (h.get 1 rfl) (Za (h.get 0 rfl) Ze)) (jo hJ h.x)) ?_
    refine Qi (cs:=dbC (ZdF d (ZaK d (Zc2 d us us.length) d.frames.length))) ZiD rfl rfl rfl (lb rfl) rfl rfl rfl (by decide) (m:=0) rfl rfl (fun a w h=>Zr hS _ h.keep h.x _ (Nat.le_refl _)) (fun a w h w' hk'=>Yw hJ _ _ hk' h.x) ?_
    refine seK [0,4,5] [_,_,_] rfl ?_
    refine nx (Zj (ZI tb hJ [0,1,2,1002] [_,.int (Qf (ZdF d (ZaK d (Zc2 d us us.length) d.frames.length))),_] [1] [_,_,_,_] rfl ⟨iFo hS hJ (Zfr hJ (d:=(ZdF d (ZaK d (Zc2 d us us.length) d.frames.length))) (by exact fun f hf=>hw f (Zb3 hf)) (by exact hG)) ZjM,trivial⟩ ?_))
    refine cj 3 (fun hb4=>?_) fun hb4=>?_
    ·
     refine qso tb hJ [1000] [_] [_] ?_
     exact Zg (Qw (m:=0) rfl rfl rfl)
    ·
     have e7:Qf (ZdF d (ZaK d (Zc2 d us us.length) d.frames.length))=0:=ZhW hb4
     refine Zc (nx (qso tb hJ [0,1,2,1000] [_] [_,_,_,_] ?_))
     refine Zj (ZI tb hJ [0,1,2,3,1001,1002,1003] [_,_,.int (d.frames.length:Nat),_] [2] [_,_,_,_,_,_,_] rfl ⟨YG YK,trivial⟩ ?_)
     refine ln 4 fun hl5=>?_
     refine Zf (lpo (ι:=Nat×Nat) (fun(i,p)=>(i≤d.frames.length)∧(p=(ZdY (ZaK d (Zc2 d us us.length) d.frames.length) i).length)) (fun(_,_)=>[]) (fun(i,p)=>[(71,.int (i:Nat)),(11,.int (p:Nat))]) (fun(i,_)=>d.frames.length-i) [0,1,2,4,5,6,3] [_,_,_,_,_] (0,0) ⟨Nat.zero_le _,rfl⟩ ?_)
     rintro⟨i,p⟩ ⟨f2_1,f2_2⟩
     refine qso tb hJ [0,1,2,3,4,5,6,1000] [_] [_,_,_,_,_,_,_,_] ?_
     refine cjS 7 (fun hb5=>?_) fun hb5=>?_
     ·
      try simp at hb5
      have h9:p≤i:=by rw[f2_2];exact Zjp _ _
      refine Zc (nx (Zj (Zf (tsq ?_))))
      refine snK 1 tb rfl ?_
      refine sq (.ptr (frC (ge d.frames i))) rfl rfl (lb rfl) (fun _ _ h=>Yg (i:=(i:Int)) Ye rfl (h.get 4 rfl) (h.get 6 rfl) (Int.natCast_nonneg _) (Yy (xs:=d.frames) (k:=i) sfz) rfl h.x) ?_
      refine snK 1 tb rfl ?_
      refine ZP XH hJ rfl rfl rfl (lb rfl) fun b2=>?_
      refine snK 1 tb rfl ?_
      refine ZE (b:=b2) (off:=0) (cs:=[.lit (.string (⟨#[]⟩:ByteArray)),.lit (.bool false),YW ([]:List Hy),Xm ([]:List Pr),Zb ([]:List ByteArray),YW ([]:List Hy),Xm ([]:List Pr),Zb ([]:List ByteArray)]) (es:=[.lit (.string ((ge d.frames i).label)),.lit (.bool ((ge d.frames i).thm)),YW ((ge d.frames i).hyps),Xm ((ge d.frames i).apart),Zb ((ge d.frames i).text),YW ((ge d.frames i).dummies),Xm ((ge d.frames i).wide),Zb ((ge d.frames i).proof)]) (news:=[.lit (.string ((ge d.frames i).label)),.lit (.bool ((ge d.frames i).thm)),YW ((ge d.frames i).hyps),Xm ((ge d.frames i).apart),Zb ((ge d.frames i).text),YW ((ge d.frames i).dummies),Xm ((ge d.frames i).wide),Zb ((ge d.frames i).proof)]) hJ hJ0 ZbY rfl rfl rfl (lb rfl) rfl (fun a w h=>⟨(h.get 1 rfl),(h.get 2 rfl)⟩) ?_
      refine kw (fun h=>Ym hS h (m:=1) (s:=13) rfl) ?_
      refine seK [0,1,5,6,7,8,9,10,11] [_,_,_,_,_,_,_,_,_] rfl ?_
      refine nx (Zj (ZI tb hJ [0,1,2,3,4,5,6,7,8,1002] [_,_,.bool (decide ((i:Int)∈(ZaK d (Zc2 d us us.length) d.frames.length)))] [2] [_,_,_,_,_,_,_,_,_,_] rfl ⟨iFo hS hJ (ZdL hJ (xs:=(ZaK d (Zc2 d us us.length) d.frames.length)) (n:=(i:Int)) ) ZrR,trivial⟩ ?_))
      refine cj 9 (fun hb6=>?_) fun hb6=>?_
      ·
       try simp at hb6
       refine Zx (nx (YQ tb hJ [2,3,4,5,6,8,1001] [.int (i+1:Nat),_] [0] [_,_,_,_,_,_,_] rfl ⟨Yv,trivial⟩ ?_))
       exact Xi (i+1,p) [0,1,2,3,4,6,5] ⟨by omega,by first | (rw[Zfw hb6];exact f2_2) | (rw[Zcb hb6,List.length_append,←f2_2];rfl)⟩
      ·
       try simp at hb6
       refine Zc (nx (Zj (qso tb hJ [1,2,3,4,5,6,7,8,1001] [_,_] [_,_,_,_,_,_,_,_,_] ?_)))
       refine cj 8 (fun hb7=>?_) fun hb7=>?_
       ·
        try simp at hb7
        have e9:=ZsA (k:=i) (l:=Zc2 d us us.length) (by omega) e0 e7 hb6
        rw[←f2_2]at e9
        refine tsq ?_
        refine snK 2 tb rfl ?_
        refine sq (.tup [.agg (vdC ((Zct d (i:Int)).1)),.int ((Zct d (i:Int)).2)]) rfl rfl (lb rfl) (fun _ _ h=>ZeS (Zgu hJ (d:=d) (z:=(i:Int)) (by first | exact hw | exact fun f hf=>hw f (Zb3 hf)) (by exact hG) (by first | exact hpl | exact fun f hf=>hpl f (Zb3 hf))) Zn9 rfl (Zr hS _ h.keep h.x) (h.x.1) (Za (h.get 1 rfl) (Za (h.get 0 rfl) Ze)) (jo hJ h.x)) ?_
        refine snK 3 tb rfl ?_
        refine Qi (cs:=vdC ((Zct d (i:Int)).1)) ZiC rfl rfl rfl (lb rfl) rfl rfl rfl (by decide) (m:=1) rfl rfl (fun a w h=>Zr hS _ h.keep h.x _ (Nat.le_refl _)) (fun a w h w' hk'=>Yw hJ _ _ hk' h.x) ?_
        refine snK 1 tb rfl ?_
        refine seK [1,9,10,11,12,13,14,15] [_,_,_,_,_,_,_,_] rfl ?_
        refine nx (tsq ?_)
        refine snK 2 tb rfl ?_
        refine sq (.tup [.agg (vdC ((Zct (ZdF d (ZaK d (Zc2 d us us.length) d.frames.length)) (p:Int)).1)),.int ((Zct (ZdF d (ZaK d (Zc2 d us us.length) d.frames.length)) (p:Int)).2)]) rfl rfl (lb rfl) (fun _ _ h=>ZeS (Zgu hJ (d:=(ZdF d (ZaK d (Zc2 d us us.length) d.frames.length))) (z:=(p:Int)) (by first | exact hw | exact fun f hf=>hw f (Zb3 hf)) (by exact hG) (by first | exact hpl | exact fun f hf=>hpl f (Zb3 hf))) Zn9 rfl (Zr hS _ h.keep h.x) (h.x.1) (Za (h.get 1 rfl) (Za (h.get 0 rfl) Ze)) (jo hJ h.x)) ?_
        refine snK 3 tb rfl ?_
        refine Qi (cs:=vdC ((Zct (ZdF d (ZaK d (Zc2 d us us.length) d.frames.length)) (p:Int)).1)) ZiC rfl rfl rfl (lb rfl) rfl rfl rfl (by decide) (m:=1) rfl rfl (fun a w h=>Zr hS _ h.keep h.x _ (Nat.le_refl _)) (fun a w h w' hk'=>Yw hJ _ _ hk' h.x) ?_
        refine snK 1 tb rfl ?_
        refine seK [0,1,8,9,10,11,12,13,14,15] [_,_,_,_,_,_,_,_,_,_] rfl ?_
        refine nx (ZI tb hJ [3,4,5,6,7,8,9,1006] [_,_,_,_,_,.bool (!(decide (((Zct d (i:Int)).1).1=((Zct (ZdF d (ZaK d (Zc2 d us us.length) d.frames.length)) (p:Int)).1).1)&&decide (((Zct d (i:Int)).1).2=((Zct (ZdF d (ZaK d (Zc2 d us us.length) d.frames.length)) (p:Int)).1).2))),_] [5] [_,_,_,_,_,_,_,_] rfl ⟨fun _ _ _ hx hl hc=>r_neqV eqVd rfl (hl.D 3 96 rfl hc) (hl.D 4 97 rfl hc) hx,trivial⟩ ?_)
        refine cj 7 (fun hb8=>?_) fun hb8=>?_
        ·
         exact False.elim (by rw[e9.1,e9.2]at hb8;simp at hb8)
        ·
         refine Zc (nx (YQ tb hJ [0,1,2,3,4,5,1002] [_,.int (p+1:Nat),_] [1] [_,_,_,_,_,_,_] rfl ⟨Yv,trivial⟩ ?_))
         refine nx (YQ tb hJ [0,1,2,3,4,6,1001] [.int (i+1:Nat),_] [0] [_,_,_,_,_,_,_] rfl ⟨Yv,trivial⟩ ?_)
         exact Xi (i+1,p+1) [0,1,2,3,4,6,5] ⟨by omega,by first | (rw[Zfw hb6];exact f2_2) | (rw[Zcb hb6,List.length_append,←f2_2];rfl)⟩
       ·
        try simp at hb7
        refine Zc (nx (YQ tb hJ [1,2,3,4,5,6,1002] [_,.int (p+1:Nat),_] [1] [_,_,_,_,_,_,_] rfl ⟨Yv,trivial⟩ ?_))
        refine nx (YQ tb hJ [0,1,2,3,4,6,1001] [.int (i+1:Nat),_] [0] [_,_,_,_,_,_,_] rfl ⟨Yv,trivial⟩ ?_)
        exact Xi (i+1,p+1) [0,1,2,3,4,6,5] ⟨by omega,by first | (rw[Zfw hb6];exact f2_2) | (rw[Zcb hb6,List.length_append,←f2_2];rfl)⟩
     ·
      try simp at hb5
      refine Zx (nx (ZI tb hJ [1001] [.bool true,_] [0] [_] rfl ⟨iFo hS hJ (Zln hJ  (by exact hG)) ZrS,trivial⟩ ?_))
      exact Zg (Qw (m:=0) rfl rfl rfl)
end Go.Proofs.YtapelgeodldlcaaGreatDoor
