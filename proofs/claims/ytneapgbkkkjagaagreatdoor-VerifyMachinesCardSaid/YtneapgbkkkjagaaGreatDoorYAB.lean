/-
  DERIVED: the shelf's contracts at this dump, in plain words.
  CONTRACTS of the program: a proof's brackets.
  CONTRACT of the program: the letters of a compressed proof.
  THE ENGINE: a machine is built.
  THE ENGINE: a region in which several operations turn what is owned, in whatever order the text leaves open.
-/
import Derived.Test.YtneapgbkkkjagaaGreatDoorYAA
namespace Go.Proofs
open Go.Shelf
def Tryz.lays156_ren:Go.Shelf.Ren:=⟨fun | 156=>143 | 165=>165 | 166=>166 | 169=>167 | 240=>185 | 241=>186 | 276=>200 | 277=>201 | n=>n,fun | 31=>22 | 9=>9 | 3=>3 | 4=>4 | 0=>0 | 20=>20 | 72=>207 | 76=>211 | 70=>205 | 37=>192 | 75=>210 | 127=>232 | 164=>243 | 5=>5 | 80=>213 | n=>n,fun | n=>n⟩
theorem Tryz.lays156:Go.Proofs.Lays.n156 Tryz.prog Tryz.lays156_ren:= {
 mixed:=by kernel_rfl
 f156:=Tryz.func143.trans (congrArg some (by kernel_rfl))
 f165:=Tryz.func165.trans (congrArg some (by kernel_rfl))
 f166:=Tryz.func166.trans (congrArg some (by kernel_rfl))
 f169:=Tryz.func167.trans (congrArg some (by kernel_rfl))
 f240:=Tryz.func185.trans (congrArg some (by kernel_rfl))
 f241:=Tryz.func186.trans (congrArg some (by kernel_rfl))
 f276:=Tryz.func200.trans (congrArg some (by kernel_rfl))
 f277:=Tryz.func201.trans (congrArg some (by kernel_rfl))
 t0:=Tryz.underlying0
 a0:=Tryz.isAgg0
 z0:=Tryz.sizeOf0
 v0:=Tryz.zeroValue0
 t3:=Tryz.underlying3
 a3:=Tryz.isAgg3
 z3:=Tryz.sizeOf3
 v3:=Tryz.zeroValue3
 t4:=Tryz.underlying4
 a4:=Tryz.isAgg4
 z4:=Tryz.sizeOf4
 v4:=Tryz.zeroValue4
 t9:=Tryz.underlying9
 a9:=Tryz.isAgg9
 z9:=Tryz.sizeOf9
 v9:=Tryz.zeroValue9
 t20:=Tryz.underlying20
 a20:=Tryz.isAgg20
 z20:=Tryz.sizeOf20
 v20:=Tryz.zeroValue20
 t31:=Tryz.underlying22
 a31:=Tryz.isAgg22
 z31:=Tryz.sizeOf22
 v31:=Tryz.zeroValue22
 t37:=Tryz.underlying192
 a37:=Tryz.isAgg192
 z37:=Tryz.sizeOf192
 v37:=Tryz.zeroValue192
 t70:=Tryz.underlying205
 a70:=Tryz.isAgg205
 z70:=Tryz.sizeOf205
 v70:=Tryz.zeroValue205
 t72:=Tryz.underlying207
 a72:=Tryz.isAgg207
 z72:=Tryz.sizeOf207
 v72:=Tryz.zeroValue207
 t75:=Tryz.underlying210
 a75:=Tryz.isAgg210
 z75:=Tryz.sizeOf210
 v75:=Tryz.zeroValue210
 t76:=Tryz.underlying211
 a76:=Tryz.isAgg211
 z76:=Tryz.sizeOf211
 v76:=Tryz.zeroValue211
 t127:=Tryz.underlying232
 a127:=Tryz.isAgg232
 z127:=Tryz.sizeOf232
 v127:=Tryz.zeroValue232
 t164:=Tryz.underlying243
 a164:=Tryz.isAgg243
 z164:=Tryz.sizeOf243
 v164:=Tryz.zeroValue243 }
theorem Tryz.Builder_Extra_156:Builder.Extra Tryz.prog Tryz.lays156_ren:= {
 sizeBuilder:=by kernel_rfl
 liesBuilder:=by kernel_rfl
 t5:=Tryz.underlying5
 a5:=Tryz.isAgg5
 z5:=Tryz.sizeOf5
 v5:=Tryz.zeroValue5
 infoByte:=by kernel_rfl
 cellsByte:=by kernel_rfl
 sizeByte:=by kernel_rfl
 neB5:=by decide }
open Go.RowKit in
theorem Tryz.strings_Join_none (a:Option Addr) (c:Nat) (sep:ByteArray) (w:World):
 Calls Tryz.prog 143 #[.slice a 0 c,.string sep] w fun e w'=>e= .returned (.string ⟨#[]⟩)∧w'=w:=Any.strings_Join_none Tryz.lays156 Tryz.Builder_Extra_156 a c sep w
open Go.RowKit in
theorem Tryz.strings_Join (bk o c:Nat) (xs:List ByteArray) (sep:ByteArray) (w:World) (hcells:∀(j:Nat) x,xs[j]?=some x→w.cell? ⟨bk,o+j,none⟩=some (.string x)) (hbk:bk<w.heap.size) (hN:xs.length≤140737488355328) (hcap:xs.length≤c) (hlen:(Lib.join (xs.map (·.data.toList)) sep.data.toList).length≤140737488355328):
 Calls Tryz.prog 143 #[.slice (some ⟨bk,o,none⟩) xs.length c,.string sep] w fun e w'=>e= .returned (.string ⟨(Lib.join (xs.map (·.data.toList)) sep.data.toList).toArray⟩)∧Below w.heap.size w w':=Any.strings_Join Tryz.lays156 Tryz.Builder_Extra_156 bk o c xs sep w hcells hbk hN hcap hlen
end Go.Proofs
set_option maxHeartbeats 8000000
set_option maxRecDepth 100000
namespace Go.Proofs.YtneapgbkkkjagaaGreatDoor
open Go.RowKit
theorem ZrD {J:WP} (hJ:Stab J) (xs:List BA) (s:BA)  :Fn Tryz.prog J 141 [.rd (Zf xs),.str s] (.int (Yn (isV s) xs)):=by
 refine fE Tryz.func141 fun S w0 hS hJ0=>?_
 clear hJ0
 refine ln 0 fun hl1=>?_
 refine qs tb hJ [0,1] [_] U2 ?_
 refine Ze (hqs tb hJ [0,1,1001,1002] [_,.int (xs.length:Nat),_] [1] U4 rfl ⟨Z3 Zm,trivial⟩ ?_)
 refine Zc (lp (ι:=Nat) (fun k=>(k≤xs.length)∧(∀ j,j<k→isV s (ge xs j)=false)) (fun k=>[(8,.int (k:Nat))]) (fun k=>xs.length-k) [0,1,2,3] U3 0 ⟨nzl,fun j hj=>by omega⟩ ?_)
 rintro k ⟨f1_1,f1_2⟩
 refine qs tb hJ [0,1,2,3,1000] [_] U5 ?_
 refine cjS 4 (fun hb1=>?_) fun hb1=>?_
 ·
  try simp at hb1
  refine Zb (nx (Ze (Zc (qs tb hJ [0,1,2,3,1001] U2 U5 ?_))))
  refine hqs tb hJ (r5 [1005]) (V3 [.ptr [lS (ge xs k)],_,_]) [3] U6 rfl ⟨iIx Zd,trivial⟩ ?_
  refine cj 5 (fun hb2=>?_) fun hb2=>?_
  ·
   try simp at hb2
   refine qs tb hJ [1001] U2 [_] ?_
   exact tRn 0 (hE:=eI (by first | exact(Xk hb1 (by simpa [isV]using hb2) f1_2).symm | exact(YU fun j hj=>f1_2 j oz).symm))
  ·
   try simp at hb2
   refine Zb (nx (hqp tb hJ [0,1,2,1001] [.int (k+1:Nat),_] [0] U4 rfl ⟨Z7,trivial⟩ ?_))
   exact lpE (k+1) [0,1,2,3] ⟨oz,ZK f1_2 (by simpa [isV]using hb2)⟩
 ·
  try simp at hb1
  refine Zs (nx (qs tb hJ [1000] [_] [_] ?_))
  exact tRn 0 (hE:=eI (by first | exact(Xk hb1 (by simpa [isV]using hb2) f1_2).symm | exact(YU fun j hj=>f1_2 j oz).symm))
theorem ZlR {S:Nat→Prop} {w:World} {xs:List BA} {v:Value} (h:Rd S w (Zf xs) v):(xs=[]∧∃ a c,v= .slice a 0 c)∨ ∃ b off cap,v= .slice (some ⟨b,off,none⟩) xs.length cap∧xs.length≤cap∧b<w.heap.size∧∀(j:Nat) (x:BA),xs[j]?=some x→w.cell? ⟨b,off+j,none⟩=some (.string x):=by
 unfold Zf at h
 generalize hr:xs.map Zax=rows at h
 cases h with
 | nil a cap hm=>exact .inl ⟨by simpa using hr,a,cap,rfl⟩
 | sl b off cap n rows vs hl hm hb hS hn hc hrd=>
  subst hr
  refine .inr ⟨b,off,cap,by rw[List.length_map],by simpa using hl,hb,fun j x hj=>?_⟩
  have hjl:j<xs.length:=(List.getElem?_eq_some_iff.1 hj).1
  have hrow:(xs.map Zax)[j]?=some (Zax x):=by rw[List.getElem?_map,hj];rfl
  have hn1:n=1:=(hn _ (List.mem_of_getElem? hrow)).symm
  subst hn1
  have h1:=hc j 0 (by simpa using hjl) oz
  have h2:=(hrd j 0 _ _ hrow (show(Zax x)[0]?=some (lS x)from rfl)).of_lit
  rw[h2]at h1
  simpa using h1
section
variable {J:WP} (hJ:Stab J)
include hJ
theorem p_Join (xs:List BA) (s:BA) (hn:xs.length≤140737488355328) (hl:(Lib.join (xs.map (·.data.toList)) s.data.toList).length≤140737488355328):Fn Tryz.prog J 143 [.rd (Zf xs),.str s] (.str (Zbk xs s)):=by
 intro S w vs hS hJ0 h
 simp only[RelL]at h
 obtain⟨u,_,rfl,h1,u2,_,rfl,h2,rfl⟩:=h
 rw[h2.lit]
 have hok:okLit (.string (Zbk xs s)):=by
  show(Zbk xs s).size≤maxLen
  simp only[Zbk,ByteArray.size,List.size_toArray,maxLen]
  omega
 simp only[Rel]at h1
 rcases ZlR h1 with⟨rfl,a,c,rfl⟩ | ⟨b,off,cap,rfl,hcap,hb,hc⟩
 · exact Calls.mono (Tryz.strings_Join_none a c s w) fun e w' ⟨he,hw⟩=>⟨_,he,Rel.of_lit _ hok,hw▸Keeps.refl _ _,hw▸hJ0⟩
 · refine Calls.mono (Tryz.strings_Join b off cap xs s w hc hb hn hcap hl) fun e w' ⟨he,hw⟩=>?_
   have hk:Keeps All w w':=⟨hw.os,hw.tape,hw.output,hw.size,fun k hk _=>hw.block k hk⟩
   exact⟨_,he,Rel.of_lit _ hok,hk,hJ _ _ hk hJ0⟩
theorem Zh2 (l:List BA)  :Fn Tryz.prog J 103 [.rd (Zf l)] (.bool (Q0 l)):=by
 refine fE Tryz.func103 fun S w0 hS hJ0=>?_
 clear hJ0
 refine ln 0 fun hl1=>?_
 refine qs tb hJ [0] [_] [_] ?_
 refine hqs tb hJ [1009] [_,.int (l.length:Nat),_,_,_,.ptr [lS (ge l 0)],_,_,_,_] [1,5] [_] rfl ⟨Z3 Zm,gIx (k:=0) Zd (hk:=fun(hc':((decide ((0:Int)< (l.length:Int)))==true)=true)=>by(try simp at hc');first | omega | (simp;omega) | grind[Zu]),trivial⟩ ?_
 exact tRn 0 (hE:=eB (by unfold Q0;by_cases h9:0<l.length<;>simp[h9]))
theorem Zrt (s:BA)  :Fn Tryz.prog J 142 [.str s] (.bool (!QK s)):=by
 refine fE Tryz.func142 fun S w0 hS hJ0=>?_
 clear hJ0
 refine qs tb hJ [0] [_] [_] ?_
 refine hqs tb hJ [1003] [_,.bool (QK s),_,_] [1] [_] rfl ⟨iFn hS hJ (Zc4 hJ s) Zhj,trivial⟩ ?_
 exact tRn 0 (hE:=eB (by first | rfl | grind[Zu]))
theorem Zvd (l:List BA) (h0:Q0 l=true) (hn:l.length≤100000) (hs:ZaV l≤140737488355328):FnP (ι:= {q':List BA×BA // XI l=some q'}) (κ:= {c:Int // XI l=none∧c=20}) Tryz.prog J 106 [] [.rd (Zf l)] [] (fun i'=>.tup [.rd (Zf (i'.1.1)),.str (i'.1.2)]) (fun _=>[]) (fun k'=>flV k'.1) (fun _=>[]):=by
 refine fEP Tryz.func106 fun S w0 R hS hJ0 hH=>?_
 refine Yq (B:=So J S w0 24 (R) [(0,.rd (Zf l))]) ?_ fun a w h=>h
 refine ln 0 fun hl1=>?_
 refine qso tb hJ [0] U2 [_] ?_
 refine ZG tb hJ [0,1002] [_,.int (Yn (isV (⟨#[41]⟩:BA)) l),_] [1] U2 rfl ⟨iFo hS hJ (ZrD hJ l (⟨#[41]⟩:BA)) ZsW,trivial⟩ ?_
 refine Ze (qso tb hJ [0,1,1001] U2 U3 ?_)
 refine cj 2 (fun hb1=>?_) fun hb1=>?_
 ·
  try simp at hb1
  refine ZE (Qo (O:=[]) (R:=(R)) (QT hJ (c:=(20:Int)) ) Xc rfl rfl rfl (lb rfl) hS hJ0 Zv (fun a w h=>(Za (Rel.of_lit (.int .i64 20)) Zg)) (fun _=>?_) (fun i=>i.elim))
  exact fun a w h=>pnP (⟨20,⟨ZgS hb1,rfl⟩⟩: {c:Int // XI l=none∧c=20}) rfl a w h
 ·
  try simp at hb1
  have e1:¬ Yn (isV ⟨#[41]⟩) l<0:=by simpa using hb1
  have e2:=Ze7 h0 e1
  refine Zb (nx (tw (sa 1 rfl (congrArg AV.int (show Yn (isV (⟨#[41]⟩:BA)) l=(((Yn (isV ⟨#[41]⟩) l).toNat:Nat):Int)from by omega))) (tsq ?_)))
  refine snK 2 tb rfl (sy (.rd (Zf ((l.take ((Yn (isV ⟨#[41]⟩) l).toNat)).drop 1))) (fun h=>Yy (ys:=(l.take ((Yn (isV ⟨#[41]⟩) l).toNat)).drop 1) (lo:=1) (hi:=(Yn (isV ⟨#[41]⟩) l).toNat) rfl Zd (fun _=>rfl) rfl (h.get 1 rfl) (Rel.of_lit (.int .i64 1)) (h.get 0 rfl) sfz sfz h.x) ?_)
  refine Xv (O:=[]) (R:=(R)) (Zel hJ ((l.take ((Yn (isV ⟨#[41]⟩) l).toNat)).drop 1) sfz) Zft rfl rfl rfl (lb rfl) hS hJ0 Zv (fun a w h=>(Za (h.get 0 rfl) Zg)) fun z3=>?_
  refine snK 1 tb rfl (seK [0,2,5,6] U4 rfl ?_)
  refine nx (ln 1 fun hl2=>?_)
  refine Ze (ZmW tb hJ [0,2,3,1001] [_,.bool (((l.take ((Yn (isV ⟨#[41]⟩) l).toNat)).drop 1).any (fun s=>!QK s))] [1] U4 rfl ⟨fun _ _ hk hx hl _=>Y5 (YD hJ ((l.take ((Yn (isV ⟨#[41]⟩) l).toNat)).drop 1) 142 [] [] (fun s=>!QK s) (fun q'=>(Zrt hJ q').r) (ZsV)) Zdf rfl (nm hS hk) (hx.1) Zv (Za (Qa hS hx (mo 0 rfl) (hl.D 0 15 rfl rfl)) (Za (Qr 142) Zg)) (jo hJ hx),trivial⟩ ?_)
  refine cj 3 (fun hb2=>?_) fun hb2=>?_
  ·
   try simp at hb2
   refine ZE (Qo (O:=[]) (R:=(OB.row z3 9 1 (((l.take ((Yn (isV ⟨#[41]⟩) l).toNat)).drop 1).map Zax)::R)) (QT hJ (c:=(20:Int)) ) Xc rfl rfl rfl (lb rfl) hS hJ0 Zv (fun a w h=>(Za (Rel.of_lit (.int .i64 20)) Zg)) (fun _=>?_) (fun i=>i.elim))
   exact kw ZM (fun a w h=>pnP (⟨20,⟨ZhU e1 (by simpa using hb2),rfl⟩⟩: {c:Int // XI l=none∧c=20}) rfl a w h)
  ·
   try simp at hb2
   refine Zb (nx (tw (sa 2 rfl (congrArg AV.int (show(((Yn (isV ⟨#[41]⟩) l).toNat:Nat):Int)=(((Yn (isV ⟨#[41]⟩) l).toNat:Nat):Int)from by omega))) (ZG tb hJ [1004,1006,1007] (V3 [.int ((Yn (isV ⟨#[41]⟩) l).toNat+1:Nat),.rd (Zf (l.drop ((Yn (isV ⟨#[41]⟩) l).toNat+1))),.str (Zbk (l.drop ((Yn (isV ⟨#[41]⟩) l).toNat+1)) (⟨#[]⟩:BA)),_,_]) [3,4,5] U3 rfl ⟨Z7,fun _ _ _ hx hl _=>Yy (ys:=l.drop ((Yn (isV ⟨#[41]⟩) l).toNat+1)) (lo:=(Yn (isV ⟨#[41]⟩) l).toNat+1) (hi:=l.length) (by rw[List.take_length]) Zd (fun _=>rfl) rfl (hl.D 1 19 rfl rfl) (hl.D 3 21 rfl rfl) rfl sfz sfz hx,iFo hS hJ (p_Join hJ (l.drop ((Yn (isV ⟨#[41]⟩) l).toNat+1)) (⟨#[]⟩:BA) (by simp;omega) (by exact Nat.le_trans (Ziq l _) hs)) ZsU,trivial⟩ ?_)))
   refine ln 0 fun hl3=>?_
   exact tw (fun h=>ZO hS h (m:=1) (s:=2) rfl) (ZA (fun a w h=>lvP (ZbM  (m:=0) (k:=2) ⟨((l.take (Yn (isV ⟨#[41]⟩) l).toNat).drop 1,Zbk (l.drop ((Yn (isV ⟨#[41]⟩) l).toNat+1)) ⟨#[]⟩),ZkJ e1 (by simpa using hb2)⟩ rfl h rfl rfl (ZtK (congrArg (fun z=>AV.rd (Zf z)) (show((l.take ((Yn (isV ⟨#[41]⟩) l).toNat)).drop 1)=((l.take (Yn (isV ⟨#[41]⟩) l).toNat).drop 1)from by first | rfl | grind[Zu])) (eS (by first | rfl | grind[Zu]))))))
end
theorem Zgo:Zcy Tryz.prog 157 [.int .i64 0,.bool false]:=⟨fun i=>(#[(0,1),(1,1)]:Array (Nat×Nat))[i]?,fun j hj=>by rcases j with _ | _ | j<;>first | rfl | (simp at hj;omega),fun parts=>by kernel_rfl⟩
theorem Zmd {J:WP} (hJ:Stab J) (s:BA) (hs:s.size≤1000000000):SeqE Tryz.prog J 144 [] [.ptr [lS s]] Zxf ((Zj s).1) (if(Zj s).2 then some (flV 21)else none):=by
 refine ZiA (N:=86) Tryz.func144 rfl rfl (lb rfl) fun S w0 R l κ μ σ I pv O3 O4 k0 hS hJ0 hH hY=>?_
 refine Yq (B:=So J S w0 86 (I ([]) k0++R) [(0,.rd (.lit (.func (.yield l) #[] #[]))),(1,.ptr [lS s])]) ?_ fun a w h=>h
 refine qso tb hJ [0,1,1000,1001] U2 U4 ?_
 refine Ze (qso tb hJ [0,1,2,3,1000] [_] U5 ?_)
 refine Zc (lpo (ι:=Nat×Int×Bool×(List Lt)×κ) (fun(p,m,ins,pre,_)=>(p≤s.size)∧(0≤m∧m≤1000000)∧(Zj s=(pre++(lettersD (s.data.toList.drop p) m ins).1,(lettersD (s.data.toList.drop p) m ins).2))) (fun(_,_,_,pre,kk)=>(I pre kk++R)) (fun(p,m,ins,_,_)=>[(5,.int (p:Nat)),(3,.int m),(4,.bool ins)]) (fun(p,_,_,_,_)=>s.size-p) [0,1,4,2,3] U2 (0,0,false,[],k0) ⟨nzl,⟨oz,oz⟩,rfl⟩ ?_)
 rintro⟨p,m,ins,pre,kk⟩ ⟨f1_1,f1_2,f1_3⟩
 refine Ze (ZG tb hJ (r5 [1003]) [_,_,.int (s.size:Nat),_] [2] U6 rfl ⟨Zmp ZU,trivial⟩ ?_)
 refine cj 5 (fun hb1=>?_) fun hb1=>?_
 try simp at hb1
 have e1:p<s.data.toList.length:=hb1
 refine Zb (nx (Ze (Zc (ZG tb hJ (r5 [1003]) [_,_,.rd (.lit (.int .u8 ((ge s.data.toList p).toNat:Int))),_] [2] U6 rfl ⟨fun _ _ _ hx hl _=>ZdV (i:=(p:Int)) ZU rfl (hl.D 0 14 rfl rfl) (hl.D 1 15 rfl rfl) nnn (ZaJ (s:=s) (k:=p) sfz) hx,trivial⟩ ?_))))
 refine Zc (qso tb hJ (r6 [1006]) U7 U7 ?_)
 refine cj 6 (fun hb2=>?_) fun hb2=>?_
 try simp at hb2
 have e2:85≤(ge s.data.toList p).toNat∧(ge s.data.toList p).toNat≤89:=by omega
 refine Ze (ZG tb hJ [0,1,2,1007] [_,.int ((5:Int)*m),_,.rd (.lit (.int .u8 (((ge s.data.toList p).toNat:Int)-(85:Int)))),.int (((ge s.data.toList p).toNat:Int)-(85:Int)),.int ((5:Int)*m+(((ge s.data.toList p).toNat:Int)-(85:Int))),.int ((5:Int)*m+(((ge s.data.toList p).toNat:Int)-(85:Int))+(1:Int)),_] [1,3,4,5,6] U4 rfl ⟨fun _ _ _ hx hl _=>Zrf (i:=(5:Int)) (j:=m) rfl (Rel.of_lit (.int .i64 5)) (hl.D 0 25 rfl rfl) sfz sfz hx,fun _ _ _ hx hl _=>ZkA (i:=((ge s.data.toList p).toNat:Int)) (j:=(85:Int)) rfl (hl.D 2 27 rfl rfl) (Rel.of_lit (.int .u8 85)) sfz sfz hx,fun _ _ _ hx hl _=>Zej (i:=((ge s.data.toList p).toNat:Int)-(85:Int)) ZaU XT rfl (hl.D 3 28 rfl rfl) sfz sfz hx,Z7,Z7,trivial⟩ ?_)
 refine qso tb hJ [0,1,2,3,1001] U2 U5 ?_
 refine cj 4 (fun hb3=>?_) fun hb3=>?_
 try simp at hb3
 have e7:=ZrS (n:=m) (ins:=ins) e1 e2
 rw[if_pos oz]at e7
 refine ZE (Qo (O:=[]) (R:=(I pre kk++R)) (QT hJ (c:=(21:Int)) ) Xc rfl rfl rfl (lb rfl) hS hJ0 Zv (fun a w h=>(Za (Rel.of_lit (.int .i64 21)) Zg)) (fun _=>?_) (fun i=>i.elim))
 exact ZkZ (by rw[f1_3,e7];rfl) (by rw[f1_3,e7];simp) kk
 try simp at hb3
 have e7:=ZrS (n:=m) (ins:=ins) e1 e2
 rw[if_neg oz]at e7
 refine Zb (nx (qpo tb hJ [0,1,2,3,1000] [_] U5 ?_))
 refine nx (Yo tb hJ [0,1,3,4,1002] [_,.int (p+1:Nat),_] [1] U5 rfl ⟨Z7,trivial⟩ ?_)
 exact YE (p+1,(5:Int)*m+(((ge s.data.toList p).toNat:Int)-(85:Int))+(1:Int),true,pre,kk) [0,1,4,2,3] ⟨oz,⟨oz,oz⟩,by rw[f1_3,e7]⟩
 try simp at hb2
 have e2:¬ (85≤(ge s.data.toList p).toNat∧(ge s.data.toList p).toNat≤89):=by omega
 refine qso tb hJ (r6 [1006]) U7 U7 ?_
 refine cj 6 (fun hb4=>?_) fun hb4=>?_
 try simp at hb4
 have e4:65≤(ge s.data.toList p).toNat∧(ge s.data.toList p).toNat≤84:=by omega
 refine Ze (ZG tb hJ [0,1,2,1007] [_,.int ((20:Int)*m),_,.rd (.lit (.int .u8 (((ge s.data.toList p).toNat:Int)-(65:Int)))),.int (((ge s.data.toList p).toNat:Int)-(65:Int)),.int ((20:Int)*m+(((ge s.data.toList p).toNat:Int)-(65:Int))),.int ((20:Int)*m+(((ge s.data.toList p).toNat:Int)-(65:Int))+(1:Int)),_] [1,3,4,5,6] U4 rfl ⟨fun _ _ _ hx hl _=>Zrf (i:=(20:Int)) (j:=m) rfl (Rel.of_lit (.int .i64 20)) (hl.D 0 42 rfl rfl) sfz sfz hx,fun _ _ _ hx hl _=>ZkA (i:=((ge s.data.toList p).toNat:Int)) (j:=(65:Int)) rfl (hl.D 2 44 rfl rfl) (Rel.of_lit (.int .u8 65)) sfz sfz hx,fun _ _ _ hx hl _=>Zej (i:=((ge s.data.toList p).toNat:Int)-(65:Int)) ZaU XT rfl (hl.D 3 45 rfl rfl) sfz sfz hx,Z7,Z7,trivial⟩ ?_)
 refine qso tb hJ [0,1,2,3,1001] U2 U5 ?_
 refine cj 4 (fun hb5=>?_) fun hb5=>?_
 try simp at hb5
 have e7:=ZoO (n:=m) (ins:=ins) e1 e2 e4 oz
 refine ZE (Qo (O:=[]) (R:=(I pre kk++R)) (QT hJ (c:=(21:Int)) ) Xc rfl rfl rfl (lb rfl) hS hJ0 Zv (fun a w h=>(Za (Rel.of_lit (.int .i64 21)) Zg)) (fun _=>?_) (fun i=>i.elim))
 exact ZkZ (by rw[f1_3,e7];rfl) (by rw[f1_3,e7];simp) kk
 try simp at hb5
 refine Zb (nx (tsq (snK 1 tb rfl (sq (.agg (ltC (⟨(20:Int)*m+(((ge s.data.toList p).toNat:Int)-(65:Int))+(1:Int),false⟩:Lt))) rfl rfl (lb rfl) (fun a _ h=>Yh (ps:=[(0,a.eval (.tmp 52))]) (us:=[a.eval (.tmp 52),.bool false]) Zgo rfl yz (Zcx (lb rfl) (Rel.oneC (h.get 0 rfl)) ZcJ) rfl (Zi (h.get 0 rfl) (Ys (.lit _ True.intro) ZJ)) h.x) ?_))))
 refine ZT Zi3 hJ rfl rfl rfl (lb rfl) fun b5=>?_
 refine ZB (b:=b5) (off:=0) (es:=U2) (news:=U2) hJ hJ0 ZlV rfl rfl rfl (lb rfl) rfl (fun a w h=>⟨(h.get 0 rfl),(h.get 1 rfl)⟩) ?_
 refine seK [0,3,4,5] U4 rfl (nx (Ze (ZG tb hJ [0,1,2,3,1011] [_,.int (p+1:Nat),_,.int (s.size:Nat),_,_,_,_,.int (p+1:Nat),.rd (.lit (.int .u8 ((ge s.data.toList (p+1)).toNat:Int))),_,_] [1,3,8,9] U5 rfl ⟨Z7,Zmp ZU,fun _ _ _ hx hl hc=>ZeR (i:=(p:Int)) (j:=(1:Int)) rfl (hl.D 7 61 rfl hc) (Rel.of_lit (.int .i64 1)) (by have hc':((decide (((p+1:Nat):Int)< (s.size:Int)))==true)=true:=hc;(try simp at hc');(first | omega | (simp;omega) | grind[Zu])) (by have hc':((decide (((p+1:Nat):Int)< (s.size:Int)))==true)=true:=hc;(try simp at hc');(first | omega | (simp;omega) | grind[Zu])) hx,fun _ _ _ hx hl hc=>ZdV (i:=((p+1:Nat):Int)) ZU rfl (hl.D 6 60 rfl hc) (hl.D 8 62 rfl hc) nnn (ZaJ (s:=s) (k:=p+1) (by have hc':((decide (((p+1:Nat):Int)< (s.size:Int)))==true)=true:=hc;(try simp at hc');(first | omega | (simp;omega) | grind[Zu]))) hx,trivial⟩ ?_)))
 refine cj 4 (fun hb6=>?_) fun hb6=>?_
 try simp at hb6
 have e0:s.data.toList.length=s.size:=rfl
 have e6:p+1<s.data.toList.length∧(ge s.data.toList (p+1)).toNat=90:=⟨oz,oz⟩
 have e7:=let_Z (n:=m) (ins:=ins) e1 e2 e4 oz e6.1 e6.2
 refine tsq (sy (.at b5 1) (fun h=>Zr ZjI rfl (h.get 0 rfl) h.x) ?_)
 refine Z5 (b:=b5) (off:=1) (es:=U2) hJ hJ0 ZaC rfl rfl rfl (lb rfl) rfl (fun a w h=>⟨(h.get 0 rfl),(Rel.of_lit (.bool true))⟩) ?_
 refine seK [1,2,3,4] U4 rfl (nx (Yo tb hJ [0,1,2,1002] [_,.int (p+1:Nat),_] [1] U4 rfl ⟨Z7,trivial⟩ ?_))
 refine nx (qso tb hJ [0,1,2,3,1000,1001] U2 U6 ?_)
 refine tsq (snK 1 tb rfl (sy (.agg [lI ((⟨(20:Int)*m+(((ge s.data.toList p).toNat:Int)-(65:Int))+(1:Int),false⟩:Lt).number),lB true]) (fun h=>Yz (ds:=[lI ((⟨(20:Int)*m+(((ge s.data.toList p).toNat:Int)-(65:Int))+(1:Int),false⟩:Lt).number),lB true]) ZiY rfl (Zh h.x (mo 0 rfl)) (h.get 1 rfl) rfl rfl h.x) ?_))
 refine kw (Znu [OB.var b5 [lI ((⟨(20:Int)*m+(((ge s.data.toList p).toNat:Int)-(65:Int))+(1:Int),false⟩:Lt).number),lB true]]) (Zef (O:=I pre kk) (R:=([OB.var b5 [lI ((⟨(20:Int)*m+(((ge s.data.toList p).toNat:Int)-(65:Int))+(1:Int),false⟩:Lt).number),lB true]]++R)) (v:=Zxf (⟨(⟨(20:Int)*m+(((ge s.data.toList p).toNat:Int)-(65:Int))+(1:Int),false⟩:Lt).number,true⟩:Lt)) rfl rfl rfl rfl (lb rfl) (fun a w h=>(h.get 1 rfl).lit) (fun a w h=>ZnQ (x:=(⟨(⟨(20:Int)*m+(((ge s.data.toList p).toNat:Int)-(65:Int))+(1:Int),false⟩:Lt).number,true⟩:Lt)) (h.get 0 rfl)) (fun m' R' w1 hk hx=>hY m' R' pre (⟨(⟨(20:Int)*m+(((ge s.data.toList p).toNat:Int)-(65:Int))+(1:Int),false⟩:Lt).number,true⟩:Lt) kk w1 (by rw[f1_3,e7];exact pfx) hk hx) (fun q=>Zo4 [OB.var b5 [lI ((⟨(20:Int)*m+(((ge s.data.toList p).toNat:Int)-(65:Int))+(1:Int),false⟩:Lt).number),lB true]] q) (fun s6=>?_) (fun z7=>?_))
 refine kw (ZeH [OB.var b5 [lI ((⟨(20:Int)*m+(((ge s.data.toList p).toNat:Int)-(65:Int))+(1:Int),false⟩:Lt).number),lB true]]) (snK 1 tb rfl ?_)
 refine seK [0,5,6,7,8,9] U6 rfl (nx (cj 0 (fun hb7=>?_) fun hb7=>?_))
 try simp at hb7
 exact tw ZM (ZA (fun a w h=>ZkY s6 rfl h))
 exact False.elim (by simp at hb7)
 refine kw (ZeH [OB.var b5 [lI ((⟨(20:Int)*m+(((ge s.data.toList p).toNat:Int)-(65:Int))+(1:Int),false⟩:Lt).number),lB true]]) (snK 1 tb rfl ?_)
 refine seK [0,5,6,7,8,9] U6 rfl (nx (cj 0 (fun hb7=>?_) fun hb7=>?_))
 exact False.elim (by simp at hb7)
 try simp at hb7
 refine Zb (nx (Yo tb hJ [1,2,4,5,1002] [_,.int (p+1+1:Nat),_] [1] U5 rfl ⟨Z7,trivial⟩ ?_))
 exact kw ZM (YE (p+1+1,0,false,(pre++[(⟨(⟨(20:Int)*m+(((ge s.data.toList p).toNat:Int)-(65:Int))+(1:Int),false⟩:Lt).number,true⟩:Lt)]),z7) [0,1,4,2,3] ⟨oz,⟨oz,oz⟩,by rw[f1_3,e7];simp⟩)
 try simp at hb6
 have e0:s.data.toList.length=s.size:=rfl
 have e6:¬ (p+1<s.data.toList.length∧(ge s.data.toList (p+1)).toNat=90):=by omega
 have e7:=let_N (n:=m) (ins:=ins) e1 e2 e4 oz e6
 refine Zb (nx (qso tb hJ [0,1,2,3,1000,1001] U2 U6 ?_))
 refine tsq (snK 1 tb rfl (sy (.agg (ltC (⟨(20:Int)*m+(((ge s.data.toList p).toNat:Int)-(65:Int))+(1:Int),false⟩:Lt))) (fun h=>Yz (ds:=[lI ((⟨(20:Int)*m+(((ge s.data.toList p).toNat:Int)-(65:Int))+(1:Int),false⟩:Lt).number),lB ((⟨(20:Int)*m+(((ge s.data.toList p).toNat:Int)-(65:Int))+(1:Int),false⟩:Lt).tagged)]) ZiY rfl (Zh h.x (mo 0 rfl)) (h.get 1 rfl) rfl rfl h.x) ?_))
 refine kw (Znu [OB.var b5 (ltC (⟨(20:Int)*m+(((ge s.data.toList p).toNat:Int)-(65:Int))+(1:Int),false⟩:Lt))]) (Zef (O:=I pre kk) (R:=([OB.var b5 (ltC (⟨(20:Int)*m+(((ge s.data.toList p).toNat:Int)-(65:Int))+(1:Int),false⟩:Lt))]++R)) (v:=Zxf (⟨(20:Int)*m+(((ge s.data.toList p).toNat:Int)-(65:Int))+(1:Int),false⟩:Lt)) rfl rfl rfl rfl (lb rfl) (fun a w h=>(h.get 1 rfl).lit) (fun a w h=>ZnQ (x:=(⟨(20:Int)*m+(((ge s.data.toList p).toNat:Int)-(65:Int))+(1:Int),false⟩:Lt)) (h.get 0 rfl)) (fun m' R' w1 hk hx=>hY m' R' pre (⟨(20:Int)*m+(((ge s.data.toList p).toNat:Int)-(65:Int))+(1:Int),false⟩:Lt) kk w1 (by rw[f1_3,e7];exact pfx) hk hx) (fun q=>Zo4 [OB.var b5 (ltC (⟨(20:Int)*m+(((ge s.data.toList p).toNat:Int)-(65:Int))+(1:Int),false⟩:Lt))] q) (fun s8=>?_) (fun z9=>?_))
 refine kw (ZeH [OB.var b5 (ltC (⟨(20:Int)*m+(((ge s.data.toList p).toNat:Int)-(65:Int))+(1:Int),false⟩:Lt))]) (snK 1 tb rfl ?_)
 refine seK [0,5,6,7,8,9] U6 rfl (nx (cj 0 (fun hb7=>?_) fun hb7=>?_))
 try simp at hb7
 exact tw ZM (ZA (fun a w h=>ZkY s8 rfl h))
 exact False.elim (by simp at hb7)
 refine kw (ZeH [OB.var b5 (ltC (⟨(20:Int)*m+(((ge s.data.toList p).toNat:Int)-(65:Int))+(1:Int),false⟩:Lt))]) (snK 1 tb rfl ?_)
 refine seK [0,5,6,7,8,9] U6 rfl (nx (cj 0 (fun hb7=>?_) fun hb7=>?_))
 exact False.elim (by simp at hb7)
 try simp at hb7
 refine Zb (nx (Yo tb hJ [1,2,4,5,1002] [_,.int (p+1:Nat),_] [1] U5 rfl ⟨Z7,trivial⟩ ?_))
 exact kw ZM (YE (p+1,0,false,(pre++[(⟨(20:Int)*m+(((ge s.data.toList p).toNat:Int)-(65:Int))+(1:Int),false⟩:Lt)]),z9) [0,1,4,2,3] ⟨oz,⟨oz,oz⟩,by rw[f1_3,e7];simp⟩)
 try simp at hb4
 have e4:¬ (65≤(ge s.data.toList p).toNat∧(ge s.data.toList p).toNat≤84):=by omega
 refine qso tb hJ (r5 [1006]) U7 U6 ?_
 refine cj 5 (fun hb8=>?_) fun hb8=>?_
 try simp at hb8
 have e7:=let_Q (n:=m) e1 e2 e4 oz hb8.2
 refine tsq (snK 1 tb rfl (sy (.agg (ltC (⟨0,false⟩:Lt))) (fun h=>Yh (ps:=[]) (us:=[.int .i64 0,.bool false]) Zgo rfl yz ZcJ rfl (Ys (.lit _ True.intro) (Ys (.lit _ True.intro) ZJ)) h.x) ?_))
 refine Zef (O:=I pre kk) (R:=R) (v:=Zxf (⟨0,false⟩:Lt)) rfl rfl rfl rfl (lb rfl) (fun a w h=>(h.get 1 rfl).lit) (fun a w h=>ZnQ (x:=(⟨0,false⟩:Lt)) (h.get 0 rfl)) (fun m' R' w1 hk hx=>hY m' R' pre (⟨0,false⟩:Lt) kk w1 (by rw[f1_3,e7];exact pfx) hk hx) (fun q=>itPan q) (fun s10=>?_) (fun z11=>?_)
 refine snK 1 tb rfl (seK [0,4,5,6,7,8] U6 rfl ?_)
 refine nx (cj 0 (fun hb9=>?_) fun hb9=>?_)
 try simp at hb9
 exact ZA (fun a w h=>ZkY s10 rfl h)
 exact False.elim (by simp at hb9)
 refine snK 1 tb rfl (seK [0,4,5,6,7,8] U6 rfl ?_)
 refine nx (cj 0 (fun hb9=>?_) fun hb9=>?_)
 exact False.elim (by simp at hb9)
 try simp at hb9
 refine Zb (nx (Yo tb hJ [1,2,4,5,1002] [_,.int (p+1:Nat),_] [1] U5 rfl ⟨Z7,trivial⟩ ?_))
 exact YE (p+1,m,ins,(pre++[(⟨0,false⟩:Lt)]),z11) [0,1,4,2,3] ⟨oz,⟨oz,oz⟩,by rw[f1_3,e7];simp⟩
 try simp at hb8
 have e7:=Zjx (n:=m) (ins:=ins) e1 e2 e4 (by grind)
 refine ZE (Qo (O:=[]) (R:=(I pre kk++R)) (QT hJ (c:=(21:Int)) ) Xc rfl rfl rfl (lb rfl) hS hJ0 Zv (fun a w h=>(Za (Rel.of_lit (.int .i64 21)) Zg)) (fun _=>?_) (fun i=>i.elim))
 exact ZkZ (by rw[f1_3,e7];rfl) (by rw[f1_3,e7];simp) kk
 try simp at hb1
 have e1:¬ p<s.data.toList.length:=by have h9:s.size=s.data.toList.length:=rfl;omega
 refine Zs (nx (qso tb hJ [1000] [_] [_] ?_))
 refine cj 0 (fun hb10=>?_) fun hb10=>?_
 try simp at hb10
 have e7:=Zjw (n:=m) (ins:=ins) e1
 refine ZE (Qo (O:=[]) (R:=(I pre kk++R)) (QT hJ (c:=(21:Int)) ) Xc rfl rfl rfl (lb rfl) hS hJ0 Zv (fun a w h=>(Za (Rel.of_lit (.int .i64 21)) Zg)) (fun _=>?_) (fun i=>i.elim))
 exact ZkZ (by rw[f1_3,e7,hb10];rfl) (by rw[f1_3,e7];simp) kk
 try simp at hb10
 have e7:=Zjw (n:=m) (ins:=ins) e1
 exact Zb (fun a w h=>Zud (by rw[f1_3,e7,hb10];rfl) (by rw[f1_3,e7];simp) kk rfl h)
theorem Zom {J:WP} (hJ:Stab J) (s:BA)  :Fn Tryz.prog J 110 [.str s] (.fn 144 [.ptr [lS s]]):=by
 refine fE Tryz.func110 fun S w0 hS hJ0=>?_
 clear hJ0
 refine hqs tb hJ [1000] [.ptr [lS s],_] [0] [_] rfl ⟨fun _ _ hk hx hl _=>Zct rfl (hl.env 0 0 _ rfl rfl) (hS _ hk.size) (js hJ hx),trivial⟩ ?_
 refine hqs tb hJ [1001] [.fn 144 [.ptr [lS s]],_] [0] [_] rfl ⟨fun _ _ _ hx hl _=>XB (caps:=[(.tmp 1)]) rfl (Za (hl.env 0 1 _ rfl rfl) Zg) hx,trivial⟩ ?_
 exact tRn 0 (hE:=rfl)
def Zus (P:Program) (t:TypeId):Prop:=∀(x1 x2 x3 y1 y2 y3 y4 y5 y6 y7 y8:Value) (m:Nat),P.built t [(0,.agg #[x1,x2,x3]),(1,.agg #[y1,y2,y3,y4,y5,y6,y7,y8]),(2,.map (some m))]=
 some #[x1,x2,x3,y1,y2,y3,y4,y5,y6,y7,y8,.map (some m),.slice none 0 0,.slice none 0 0,.slice none 0 0,.int .i64 0,.bool false,.int .i64 0,.int .i64 0]
abbrev mzC (m:Nat):List CD:=[.lit (.map (some m)),.lit (.slice none 0 0),.lit (.slice none 0 0),.lit (.slice none 0 0),.lit (.int .i64 0),.lit (.bool false),.lit (.int .i64 0),.lit (.int .i64 0)]
theorem Zrm {P:Program} {n:Rn} {S:Nat→Prop} {X:WP} {o:Oper} {a:Act} {w:World} {t:TypeId} {x y z:Operand} {d:Db} {f:Fr} {m:Nat} (ht:Zus P t) (hop:o.op= .build t #[(0,x),(1,y),(2,z)]) (h:Rel S w (.agg (dbC d)) (a.eval x)) (h2:Rel S w (.agg (frC f)) (a.eval y)) (hz:a.eval z= .map (some m)) (hx:X w):
 Yj n P o a w (YB S X (.agg (dbC d++(frC f++mzC m))) w):=by
 simp only[Rel]at h h2
 obtain⟨us,hv,hr⟩:=h
 obtain⟨vs,hw,hq⟩:=h2
 match us,hr,vs,hq with
 | [u1,u2,u3],hr,[y1,y2,y3,y4,y5,y6,y7,y8],hq=>
  refine ZC (v:=.agg (([u1,u2,u3]:List Value)++(([y1,y2,y3,y4,y5,y6,y7,y8]:List Value)++[Value.map (some m),.slice none 0 0,.slice none 0 0,.slice none 0 0,.int .i64 0,.bool false,.int .i64 0,.int .i64 0])).toArray) ?_ (by simp only[Rel];exact⟨_,rfl,hr.append (hq.append (ds:=mzC m) ⟨.lit _ True.intro,.lit _ True.intro,.lit _ True.intro,.lit _ True.intro,.lit _ True.intro,.lit _ True.intro,.lit _ True.intro,.lit _ True.intro,trivial⟩)⟩) hx
  have hrun:=run_build (P:=P) w t #[(0,a.eval x),(1,a.eval y),(2,a.eval z)] #[u1,u2,u3,y1,y2,y3,y4,y5,y6,y7,y8,.map (some m),.slice none 0 0,.slice none 0 0,.slice none 0 0,.int .i64 0,.bool false,.int .i64 0,.int .i64 0] (by rw[hv,hw,hz];exact ht u1 u2 u3 y1 y2 y3 y4 y5 y6 y7 y8 m)
  rw[execOp,hop]
  simp only[List.map_toArray,List.map_cons,List.map_nil,Sem.run_bind,hrun]
  rfl
theorem d_map {κ α:Type} [DecidableEq κ] {n:Rn} {P:Program} {J:WP} {S:Nat→Prop} {O:List OB} {w0 w:World} {o:Oper} {a:Act} {t:TypeId} (Kd:Zbq κ) (f:α→AV) (hJ:Stab J) (hop:o.op= .makeMap t none) (hk0:Keeps All w0 w) (hx:XO J S w0.heap.size O w):
 Yj n P o a w fun v w'=>∃ M:Nat,v= .map (some M)∧Zbp J S w0 O w (OB.map Kd f M []::O) w':=by
 have hk:Keeps All w (w.alloc (.map #[] 0)):=(Keeps.refl _ _).alloc _
 refine Z8 (v:=.map (some w.heap.size)) (w':=w.alloc (.map #[] 0)) ?_ ⟨w.heap.size,rfl,Qn hJ hk0 hx hk (fun b hb=>Nat.le_of_eq hb.symm) ⟨hk0.size,[],IsMap.new w,trivial⟩⟩
 simp[execOp,hop,Instr.makeMap,newObj,Sem.run]
theorem perm_3 {a b c:OB} {l:List OB}:(a::b::c::l).Perm (c::a::b::l):=List.perm_middle (l₁:=[a,b]) (l₂:=l) (a:=c)
section
variable {n:Rn} {P:Program} {l:List Oper} {Q:Exit→Act→WP}
variable {N:Nat} {J:WP} {S:Nat→Prop} {O:List OB} {w0:World} {env:List (Nat×AV)} {avs:Nat→AV} {conds:Nat→Bool} {T:Array Value} {γ:Type}
def ZlY (D:Nat→Bool) (k:Nat):Nat→Bool:=fun j=>if j=k then true else D j
def EffR (n:Rn) (P:Program) (J:WP) (S:Nat→Prop) (w0:World) (env:List (Nat×AV)) (l:List Oper) (avs:Nat→AV) (conds:Nat→Bool) (Stg:(Nat→Bool)→γ→List OB) (sv:Nat→γ→Value) (ch:List Nat) (k i:Nat):Prop:=
 ∃ o,l[i]?=some o∧o.guard=none∧conds i=true∧
  ∀ D g a w,D k=false→(∀ k' i',ch[k']?=some i'→Zck l l.length i i'=true→D k'=true)→(∀ k1 k2 i1 i2,ch[k1]?=some i1→ch[k2]?=some i2→D k1=true→Zck l l.length i1 i2=true→D k2=true)→
   Keeps All w0 w→XO J S w0.heap.size (Stg D g) w→Look (SO S (Stg D g)) w env l avs conds i a→(∀(k' i':Nat) (o':Oper) (d:Nat),D k'=true→ch[k']?=some i'→l[i']?=some o'→o'.dst=some d→a.eval (.tmp d)=sv k' g)→
   Yj n P o a w fun v w'=>∃ g',(∀ k',D k'=true→sv k' g'=sv k' g)∧(o.dst.isSome=true→v=sv k g')∧Rel (SO S (Stg (ZlY D k) g')) w' (avs i) v∧Zbp J S w0 (Stg D g) w (Stg (ZlY D k) g') w'
structure DInv (J:WP) (S:Nat→Prop) (w0:World) (N:Nat) (env:List (Nat×AV)) (l:List Oper) (avs:Nat→AV) (conds:Nat→Bool) (T:Array Value) (Stg:(Nat→Bool)→γ→List OB) (sv:Nat→γ→Value) (ch:List Nat) (D:Nat→Bool) (g:γ) (b:Nat→Bool) (a:Act) (w:World):Prop where
 inv:RInv All (SO S (Stg D g)) (SO S (Stg D g)) w0 N env (XO J S w0.heap.size (Stg D g)) l avs conds T b a w
 done:∀(k i:Nat),ch[k]?=some i→b i=D k
 out:∀ k,ch.length≤k→D k=false
 slot:∀(k i:Nat) (o:Oper) (d:Nat),D k=true→ch[k]?=some i→l[i]?=some o→o.dst=some d→a.tmps.getD d undef=sv k g
theorem Zq5 (Or:List OB) {id:Nat} {draw:Bool} {a:Act} {w:World} (avs:Nat→AV) (conds:Nat→Bool) (env':List (Nat×(γ→AV))) (Stg:(Nat→Bool)→γ→List OB) (sv:Nat→γ→Value) (ch:List Nat) (g0:γ) (h0:∀ g,Stg (fun _=>false) g=O)
 (h:So J S w0 N O env a w) (hJ:Stab J) (hm:P.follows .mixedOrders=true) (hu:Xs l=true) (hN:Zbm l N=true) (hback:Zcq l=true) (hnd:ZkP ch=true)
 (hsub:∀ D g p,p∈Or→p∈Stg D g) (ob:Obs (ObP n P J S Or w0 env l avs conds ch) 0 l) (eff:Effs (EffR n P J S w0 env l avs conds Stg sv ch) 0 ch) (hf:FromGs env l avs conds sv ch env')
 (hq:∀ g a w,So J S w0 N (Stg (fun k=>decide (k<ch.length)) g) (env'.map fun p=>(p.1,p.2 g)) a w→Q .normal a w):(Code.region id l.toArray draw).wpIn n.F n.d P Q a w:=by
 have start:∀ w',Keeps All w w'→DInv J S w0 N env l avs conds a.tmps Stg sv ch (fun _=>false) g0 (fun _=>false) a w':=fun w' hk=>
  ⟨by
   rw[h0]
   exact⟨h.defs,h.size,h.keep.trans hk,YA hJ _ _ hk h.x,fun _ _=>rfl,fun _ _ _ _ _ e _=>(by cases e),fun _ _ _ _ _ e _=>(by cases e),fun _ _ _ e=>(by cases e),fun _ h=>h,fun p hp=>⟨(h.env p hp).1,(h.env p hp).2.on hk⟩⟩,
   fun _ _ _=>rfl,fun _ _=>rfl,fun _ _ _ _ hk=>by cases hk⟩
 have hnodup:∀(k k' i:Nat),ch[k]?=some i→ch[k']?=some i→k=k':=fun k k' i h1 h2=>by
  have g1:=List.all_eq_true.1 hnd (i,k) (by rw[List.mem_zipIdx_iff_getElem?];simpa using h1)
  have g2:=List.all_eq_true.1 g1 (i,k') (by rw[List.mem_zipIdx_iff_getElem?];simpa using h2)
  simpa using g2
 refine Zkv (I:=fun b a' w'=>∃ D g,DInv J S w0 N env l avs conds a.tmps Stg sv ch D g b a' w') hm hback ?_ ?_ ⟨_,g0,start w (Keeps.refl _ _)⟩ ⟨_,g0,start _ (Keeps.refl _ _).drew⟩
 · rintro Q b a1 w1 i o rest hi hb hd ⟨D,g,hg⟩ hK
   by_cases hin:∃ k:Nat,ch[k]?=some i
   · obtain⟨k,hk⟩:=hin
     obtain⟨o',ho',hgd,hc,hob⟩:=eff.get k i hk
     rw[hi]at ho';cases ho'
     simp only[Nat.zero_add]at hob
     refine wpListIn_plain hgd fun K' hKr=>?_
     refine hob D g a1 w1 (by rw[←hg.done k i hk];exact hb) (fun k' i' hk' hun=>?_) (fun k1 k2 i1 i2 h1 h2 hD hun=>?_) hg.inv.keep hg.inv.x (hg.inv.look hi hb hd) (fun k' i' o' d hk' hi' hl' hd'=>hg.slot k' i' o' d hk' hi' hl' hd') K' Q fun u w2 ⟨g',e2,e3,e4,hs⟩=>?_
     · rw[←hg.done k' i' hk']
       exact Q9 hg.inv.closed _ i _ o hi hd hun
     · rw[←hg.done k2 i2 h2]
       rw[←hg.done k1 i1 h1]at hD
       cases hl:l[i1]? with
       | none=>
        have:∀ f,Zck l f i1 i2=false:=fun f=>by cases f<;>simp[Zck,hl]
        rw[this]at hun;cases hun
       | some p=>exact Q9 hg.inv.closed _ _ _ p hl (hg.inv.closed _ p hl hD) hun
     refine hKr _ _ (hK _ _ ⟨ZlY D k,g',hg.inv.step3 hu hN hi hd u hs.1 hs.2.2 hs.2.1 hc e4,fun k' i' hk'=>?_,fun k' hk'=>?_,fun k' i' o' d hk' hi' hl' hd'=>?_⟩)
     · by_cases e:i'=i
       · subst e
         have:=hnodup k' k i' hk' hk
         subst this
         simp[Ym,ZlY]
       · simp only[Ym,if_neg e]
         rw[hg.done k' i' hk']
         have:k'≠k:=fun e'=>by subst e';rw[hk]at hk';cases hk';exact e rfl
         simp[ZlY,this]
     · have hkl:k<ch.length:=(List.getElem?_eq_some_iff.1 hk).1
       have:k'≠k:=by omega
       simp[ZlY,this,hg.out k' hk']
     · by_cases e:k'=k
       · subst e
         rw[hk]at hi';cases hi'
         rw[hi]at hl';cases hl'
         rw[hd',X9 _ _ _ (by rw[hg.inv.size];exact Yw hN hi hd')]
         exact e3 (by simp[hd'])
       · have hne:i'≠i:=fun e'=>e (by subst e';exact hnodup k' k i' hi' hk)
         have hk'':D k'=true:=by simpa [ZlY,e]using hk'
         rw[YQ _ _ _ _ (fun e'=>hne (Yt hu hl' hi hd' e'))]
         rw[hg.slot k' i' o' d hk'' hi' hl' hd',e2 k' hk'']
   · have hnin:ch.contains i=false:=by
      simp only[List.contains_eq_mem,decide_eq_false_iff_not]
      intro hmem
      obtain⟨k,hk,he⟩:=List.getElem_of_mem hmem
      exact hin ⟨k,by rw[List.getElem?_eq_getElem hk,he]⟩
     have hobi:=ZcC l 0 ob i o hi
     rw[Nat.zero_add]at hobi
     refine hg.inv.does2 hu hN hi hb hd (hobi hnin _ (hsub D g)) fun a' w' h' hsl=>hK _ _ ⟨D,g,h',fun k' i' hk'=>?_,hg.out,fun k' i' o' d hk' hi' hl' hd'=>?_⟩
     · have:i'≠i:=fun e=>hin ⟨k',e▸hk'⟩
       simp only[Ym,if_neg this]
       exact hg.done k' i' hk'
     · have hne:i'≠i:=fun e=>hin ⟨k',e▸hi'⟩
       rw[hsl d (fun e'=>hne (Yt hu hl' hi hd' e'))]
       exact hg.slot k' i' o' d hk' hi' hl' hd'
 · rintro a1 w1 ⟨D,g,hg⟩
   have hall:∀ k,k<ch.length→D k=true:=fun k hk=>by
    have hget:ch[k]?=some (ch[k]'hk):=List.getElem?_eq_getElem _
    obtain⟨o',ho',_⟩:=eff.get k _ hget
    have hb:=hg.done k _ hget
    have hlt2:ch[k]<l.length:=(List.getElem?_eq_some_iff.1 ho').1
    simpa [hlt2]using hb.symm
   have hD:D=fun k=>decide (k<ch.length):=by
    funext k
    by_cases hk:k<ch.length
    · rw[hall k hk];simp[hk]
    · rw[hg.out k oz];simp[hk]
   subst hD
   refine hq g a1 w1 ⟨hg.inv.defs,hg.inv.size,hg.inv.keep,hg.inv.x,fun p hp=>?_⟩
   obtain⟨q,hq',rfl⟩:=List.mem_map.1 hp
   cases hf.mem q hq' with
   | old m s av he hn=>
    have h1:=hg.inv.env (s,av) (List.mem_of_getElem? he)
    refine⟨h1.1,?_⟩
    show Rel _ w1 av (a1.tmps.getD s undef)
    rw[hg.inv.old s fun i o hi ho=>by
     have:=List.all_eq_true.1 hn o (List.mem_of_getElem? hi)
     simp[ho]at this]
    exact h1.2
   | new i s av hs hc he=>
    cases hi:l[i]? with
    | none=>rw[hi]at hs;cases hs
    | some o=>
     rw[hi]at hs
     have hs':o.dst=some s:=hs
     have hlt:i<l.length:=(List.getElem?_eq_some_iff.1 hi).1
     refine⟨Yw hN hi hs',?_⟩
     have hr:=hg.inv.new i o s hi hs' (by simpa using hlt) hc
     rw[he]at hr
     exact hr
   | eff k i s f hk hs hf ho=>
    cases hi:l[i]? with
    | none=>rw[hi]at hs;cases hs
    | some o=>
     rw[hi]at hs
     have hs':o.dst=some s:=hs
     refine⟨Yw hN hi hs',?_⟩
     have hr:=hg.slot k i o s (by simpa using(List.getElem?_eq_some_iff.1 hk).1) hk hi hs'
     simp only
     rw[hr,hf]
     exact Rel.of_lit _ (ho g)
def EffD (n:Rn) (P:Program) (J:WP) (S:Nat→Prop) (w0:World) (env:List (Nat×AV)) (l:List Oper) (avs:Nat→AV) (conds:Nat→Bool) (Stg:(Nat→Bool)→γ→List OB) (sv:Nat→γ→Value) (ch:List Nat) (k i:Nat):Prop:=
 ∃ o,l[i]?=some o∧o.guard=none∧avs i= .any∧conds i=true∧
  ∀ D g a w,D k=false→(∀ k' i',ch[k']?=some i'→Zck l l.length i i'=true→D k'=true)→(∀ k1 k2 i1 i2,ch[k1]?=some i1→ch[k2]?=some i2→D k1=true→Zck l l.length i1 i2=true→D k2=true)→
   Keeps All w0 w→XO J S w0.heap.size (Stg D g) w→Look (SO S (Stg D g)) w env l avs conds i a→(∀(k' i':Nat) (o':Oper) (d:Nat),D k'=true→ch[k']?=some i'→l[i']?=some o'→o'.dst=some d→a.eval (.tmp d)=sv k' g)→
   Yj n P o a w fun v w'=>∃ g',(∀ k',D k'=true→sv k' g'=sv k' g)∧(o.dst.isSome=true→v=sv k g')∧Zbp J S w0 (Stg D g) w (Stg (ZlY D k) g') w'
theorem Zuf {Stg:(Nat→Bool)→γ→List OB} {sv:Nat→γ→Value} {ch:List Nat}:∀ {k:Nat} {l':List Nat},Effs (EffD n P J S w0 env l avs conds Stg sv ch) k l'→Effs (EffR n P J S w0 env l avs conds Stg sv ch) k l'
 | _,[],_=>trivial
 | _,_::_,⟨⟨o,h1,h2,h3,h4,h5⟩,hr⟩=>⟨⟨o,h1,h2,h4,fun D g a w q1 q2 q3 q4 q5 q6 q7=>Zx (h5 D g a w q1 q2 q3 q4 q5 q6 q7) fun _ _ ⟨g',e1,e2,e3⟩=>⟨g',e1,e2,by rw[h3];simp only[Rel],e3⟩⟩,Zuf hr⟩
theorem Zq6 {id:Nat} {draw:Bool} {a:Act} {w:World} (avs:Nat→AV) (conds:Nat→Bool) (env':List (Nat×(γ→AV))) (Stg:(Nat→Bool)→γ→List OB) (sv:Nat→γ→Value) (ch:List Nat) (g0:γ) (h0:∀ g,Stg (fun _=>false) g=O)
 (h:So J S w0 N O env a w) (hJ:Stab J) (hm:P.follows .mixedOrders=true) (hu:Xs l=true) (hN:Zbm l N=true) (hback:Zcq l=true) (hnd:ZkP ch=true)
 (hsub:∀ D g p,p∈O→p∈Stg D g) (ob:Obs (ObP n P J S O w0 env l avs conds ch) 0 l) (eff:Effs (EffD n P J S w0 env l avs conds Stg sv ch) 0 ch) (hf:FromGs env l avs conds sv ch env')
 (hq:∀ g a w,So J S w0 N (Stg (fun k=>decide (k<ch.length)) g) (env'.map fun p=>(p.1,p.2 g)) a w→Q .normal a w):(Code.region id l.toArray draw).wpIn n.F n.d P Q a w:=
 Zq5 O avs conds env' Stg sv ch g0 h0 h hJ hm hu hN hback hnd hsub ob (Zuf eff) hf hq
end
end Go.Proofs.YtneapgbkkkjagaaGreatDoor
