/-
  DERIVED: the shelf's contracts at this dump, in plain words.
  CONTRACTS of the program: frames' small functions.
  CONTRACTS of the program: classes of bytes, labels, symbols.
  CONTRACTS of the program: whether a word can stand in a proof.
  CONTRACTS of the program: what is known of a database.
  CONTRACTS of the program: the sets of a frame, closures.
  CONTRACTS of the library: room, rows in a row, copies of maps.
  CONTRACTS of the program: a frame.
  CONTRACTS of the program: the check of a database.
-/
import Derived.Test.YtdfadihhfppjaaaGreatDoorQT
import Derived.Test.YtdfadihhfppjaaaGreatDoorQO
namespace Go.Proofs
open Go.Shelf
def Tryz.lays106_ren:Go.Shelf.Ren:=⟨fun | 106=>241 | 213=>256 | 265=>263 | n=>n,fun | 9=>9 | 3=>3 | n=>n,fun | n=>n⟩
theorem Tryz.lays106:Go.Proofs.Lays.n106 Tryz.prog Tryz.lays106_ren:= {
 mixed:=by kernel_rfl
 f106:=Tryz.func241.trans (congrArg some (by kernel_rfl))
 f213:=Tryz.func256.trans (congrArg some (by kernel_rfl))
 f265:=Tryz.func263.trans (congrArg some (by kernel_rfl))
 t3:=Tryz.underlying3
 a3:=Tryz.isAgg3
 z3:=Tryz.sizeOf3
 v3:=Tryz.zeroValue3
 t9:=Tryz.underlying9
 a9:=Tryz.isAgg9
 z9:=Tryz.sizeOf9
 v9:=Tryz.zeroValue9 }
open Go.RowKit in
theorem Tryz.strings_Compare (a b:ByteArray) (w:World):
 Calls Tryz.prog 241 #[.string a,.string b] w fun e w'=>e= .returned (.int .i64 (Lib.compareBytes a.data.toList b.data.toList))∧w'=w:=Any.strings_Compare Tryz.lays106 a b w
end Go.Proofs
set_option maxHeartbeats 8000000
set_option maxRecDepth 100000
namespace Go.Proofs.YtdfadihhfppjaaaGreatDoor
open Go.Proofs.Tryz (prog)
open Go.RowKit
theorem Ziq {J:WP} (_:Stab J) (x y:BA):Fn prog J 241 [.str x,.str y] (.int (Zvb x y)):=fun S w vs hS hJ0 h=>by
 simp only[RelL]at h
 obtain⟨u,_,rfl,h1,u2,_,rfl,h2,rfl⟩:=h
 rw[h1.lit,h2.lit]
 exact Calls.mono (Tryz.strings_Compare x y w) fun e w' ⟨he,hw⟩=>⟨_,he,Rel.of_lit _,hw▸Keeps.refl _ _,hw▸hJ0⟩
section
variable {J:WP} (hJ:Stab J)
include hJ
theorem Zfy (x y:Pr)  :Fn prog J 217 [.agg (prC x),.agg (prC y)] (.int (Zi6 x y)):=by
 refine fE Tryz.func217 fun S w0 hS hJ0=>?_
 clear hJ0
 refine hqs tb hJ [1000,1001] [.ptr (prC x),.ptr (prC y),_] [0,1] U2 Y ⟨iBs hS hJ,iBs hS hJ,U⟩ ?_
 refine Zf (hqs tb hJ [0,1,1005] (V4 [.int (Zvb x.a y.a),_]) [4] U3 Y ⟨iFn hS hJ (Ziq hJ (x:=x.a) (y:=y.a) ) Zmh,U⟩ ?_)
 refine qs tb hJ [0,1,2,1001] U2 U4 ?_
 refine cj 3 (fun hb1=>?_) fun hb1=>?_
 ·
  try simp at hb1
  refine qs tb hJ [1001] U2 [_] ?_
  exact tRn 0 (hE:=eI (by grind[Zi6]))
 ·
  try simp at hb1
  refine Zb (nx (hqs tb hJ [1005] (V4 [.int (Zvb x.b y.b),_]) [4] [_] Y ⟨iFn hS hJ (Ziq hJ (x:=x.b) (y:=y.b) ) Zmh,U⟩ ?_))
  exact tRn 0 (hE:=eI (by grind[Zi6]))
theorem Zid (x y:Hy)  :Fn prog J 213 [.agg (hyC x),.agg (hyC y)] (.bool (Zu3 x y)):=by
 refine fE Tryz.func213 fun S w0 hS hJ0=>?_
 clear hJ0
 refine hqs tb hJ [1000,1001] [.ptr (hyC x),.ptr (hyC y),_] [0,1] U2 Y ⟨iBs hS hJ,iBs hS hJ,U⟩ ?_
 refine hqs tb hJ [1019] (V10 [.bool (x.floating==y.floating),_,_,_,_,_,_,.bool (decide (x.text=y.text)),_,_]) [10,17] [_] Y ⟨fun _ _ _ hx hl hc=>r_eqlB undb_4 Y (hl.D 7 12 Y hc) (hl.D 9 14 Y hc) hx,iFn hS hJ (ZdR hJ x.text y.text) Zhm,U⟩ ?_
 exact tRn 0 (hE:=eB (by first | rfl | grind[Zp]))
theorem Znh (hs:List Hy) (t:List BA) (b:hs.length≤40):Fn prog J 216 [.rd (XQ hs),.rd (Zg t)] (.rd (Yc (t::(QQ hs).map Hy.text))):=by
 refine fE Tryz.func216 fun S w0 hS hJ0=>?_
 refine tw Z4 (ln 0 fun hl1=>?_)
 refine ln 1 fun hl2=>?_
 refine qso tb hJ [0,1] [_] U2 ?_
 refine tsq (snK 1 tb Y (ZvN Z8 ZjA hJ Y Y Y (lb Y) (fun _ _ h=>(h.get 0 Y)) fun v1=>?_))
 refine snK 1 tb Y (seK [0,3] U2 Y ?_)
 refine nx (Zf (ZF tb hJ [0,1000,1001,1002] [_,.int (hs.length:Nat),_] [1] U4 Y ⟨Ym ZC,U⟩ ?_))
 refine Zd (lpo (ι:=Nat×Value×(List (List BA))) (fun(k,_,out)=>(k≤hs.length)∧(out=t::(QQ (hs.take k)).map Hy.text)∧(out.length≤k+1)) (fun(_,v,out)=>[OB.row v 22 1 (out.map Zen)]) (fun(k,v,_)=>[(12,.int (k:Nat)),(5,.lit v)]) (fun(k,_,_)=>hs.length-k) [1,2,3,0] U2 (0,v1,[t]) ⟨nzl,by simp[QQ],by simp⟩ ?_)
 rintro⟨k,v,out⟩ ⟨f1_1,f1_2,f1_3⟩
 refine qso tb hJ [0,1,2,3,1000] [_] U5 ?_
 refine cjS 4 (fun hb1=>?_) fun hb1=>?_
 ·
  try simp at hb1
  refine Zb (nx (Zf (Zd (tsq (sy (.ptr (hyC (ge hs k))) (fun h=>ZM (i:=(k:Int)) ZI Y (h.get 0 Y) (h.get 2 Y) nnn (ZT (xs:=hs) (k:=k) sfz) Y h.x) ?_)))))
  refine snK 1 tb Y (Qk (cs:=hyC (ge hs k)) ZaG Y Y Y (lb Y) Y Y Y dz (m:=0) Y Y (fun a w h=>Zk hS _ h.keep h.x _ nlr) (fun a w h w' hk'=>Yw hJ _ _ hk' h.x) ?_)
  refine seK [0,3,4,5,6] U5 Y (nx (qso tb hJ (r5 [1002]) U3 U6 ?_))
  refine cj 5 (fun hb2=>?_) fun hb2=>?_
  ·
   try simp at hb2
   refine ZO (snK 3 tb Y (sy (.rd (Yc ([(ge hs k).text]))) (fun h=>YI Z8 ZjA Y (h.get 0 Y) (Zk hS _ h.keep h.x _ nlr) (jo hJ h.x)) ?_))
   refine YD (f:=Zen) (m:=3) (s:=19) out ([(ge hs k).text]) (fun _=>Y) Zjo hJ hJ0 Y Y Y (lb Y) Y Y (fun a w h=>(h.get 0 Y)) sfz sfz fun v2=>?_
   refine snK 1 tb Y (seK [0,2,3,7,8,9] U6 Y ?_)
   refine nx (ln 1 fun hl3=>?_)
   refine ln 2 fun hl4=>?_
   refine YU tb hJ [0,3,4,1001] [.int (k+1:Nat),_] [0] U4 Y ⟨YT,U⟩ ?_
   exact Xk (k+1,v2,out++([(ge hs k).text])) [1,2,3,0] ⟨oz,by rw[QQ,Xs oz,f1_2];simp[QQ,hb2],by simp;omega⟩
  ·
   try simp at hb2
   refine Zb (nx (YU tb hJ [1,2,4,1001] [.int (k+1:Nat),_] [0] U4 Y ⟨YT,U⟩ ?_))
   exact Xk (k+1,v,out) [0,1,3,2] ⟨oz,by rw[QQ,Xs oz,f1_2];simp[QQ,hb2],oz⟩
 ·
  try simp at hb1
  refine Zu (nx (qso tb hJ [1001] U2 [_] ?_))
  exact tw (fun h=>Ya hS h (m:=0) (s:=4) Y) (tRo 0 (hE:=congrArg (fun z=>AV.rd (Yc z)) (show out=(t::(QQ hs).map Hy.text)from by rw[f1_2,ZX oz])))
theorem Zj1 (M:Nat) (vs:List BA) (l:List (List BA))  :FnM (ι:=Nat) prog J 215 [OB.set keyS M vs] [.lit (.map (some M)),.rd (Yc l)] [] (fun i'=>.lit (.map (some (i')))) (fun i'=>[OB.set keyS (i') (Zci vs l.flatten)]):=by
 refine fEM Tryz.func215 fun S w0 R hS hJ0 hH=>?_
 refine YS (B:=So J S w0 31 (R) [(0,.lit (.map (some M))),(1,.rd (Yc l))]) ?_ fun a w h=>h
 refine ln 1 fun hl1=>?_
 refine ZF tb hJ [0,1] [.rd (.lit (.map none))] [0] U2 Y ⟨fun _ _ _ hx _ _=>YA Y (Rel.of_lit (.map none)) hx,U⟩ ?_
 refine tsq (Zce keyS hJ Y Y Y (lb Y) fun m1=>?_)
 refine snK 1 tb Y (seK [0,2,3] U3 Y ?_)
 refine nx (Zf (ZF tb hJ [0,1,1000,1001,1002] [_,.int (l.length:Nat),_] [1] U5 Y ⟨Ym ZfL,U⟩ ?_))
 refine Zd (lpo (ι:=Nat×(List BA)) (fun(k,ys)=>(k≤l.length)∧(ys=Zci vs (l.take k).flatten)) (fun(_,ys)=>(OB.set keyS m1 ys::R)) (fun(k,_)=>[(13,.int (k:Nat))]) (fun(k,_)=>l.length-k) (r5 []) U4 (0,([]:List BA)) ⟨nzl,by simp[Zci]⟩ ?_)
 rintro⟨k,ys⟩ ⟨f1_1,f1_2⟩
 refine qso tb hJ (r5 [1000]) [_] U6 ?_
 refine cjS 5 (fun hb1=>?_) fun hb1=>?_
 ·
  try simp at hb1
  refine Zb (nx (Zf (Zd (ZF tb hJ (r5 [1001,1002]) [.ptr [Zg (ge l k)],_,_] [0] U7 Y ⟨iIx Z8,U⟩ ?_))))
  refine ln 5 fun hl2=>?_
  refine ZF tb hJ (r5 [1000,1001,1002]) [_,.int ((ge l k).length:Nat),_] [1] U8 Y ⟨Ym ZA,U⟩ ?_
  refine Zd (lpo (ι:=Nat×(List BA)) (fun(j,zs)=>(j≤(ge l k).length)∧(zs=Zci vs ((l.take k).flatten++(ge l k).take j))) (fun(_,zs)=>(OB.set keyS m1 zs::R)) (fun(j,_)=>[(19,.int (j:Nat))]) (fun(j,_)=>(ge l k).length-j) (r8 []) U7 (0,ys) ⟨nzl,by simp[f1_2]⟩ ?_)
  rintro⟨j,zs⟩ ⟨f2_1,f2_2⟩
  refine qso tb hJ (r8 [1000]) [_] U9 ?_
  refine cjS 8 (fun hb2=>?_) fun hb2=>?_
  ·
   try simp at hb2
   refine Zb (nx (Zf (Zd (ZF tb hJ (r8 [1002]) [.ptr [lS (ge (ge l k) j)],_,_] [0] U9 Y ⟨iIx Zj,U⟩ ?_))))
   refine ZF tb hJ (r9 [1002]) [_,_,.bool (decide ((ge (ge l k) j)∈vs))] [2] U10 Y ⟨fun _ _ hk hx hl _=>YM (Kd:=keyS) (xs:=vs) ZR Yf (ge (ge l k) j) Y (ZJ hH hk hx (mo 0 Y)) (hl.D 0 23 Y Y) (hl.D 1 24 Y Y) hx,U⟩ ?_
   refine cj 9 (fun hb3=>?_) fun hb3=>?_
   ·
    try simp at hb3
    refine ZO (snK 2 tb Y (Zc8 ZR hJ hJ0 (ge (ge l k) j) Y Y (.inl Y) (fun a w h=>⟨(h.get 1 Y),(h.get 0 Y),(Rel.of_lit (.bool true))⟩) ?_))
    refine seK [2,3,4,5,6,7,8,9] U8 Y (nx (YU tb hJ (r7 [1001]) [.int (j+1:Nat),_] [0] U8 Y ⟨YT,U⟩ ?_))
    exact Xk (j+1,QE zs (ge (ge l k) j)) (r8 []) ⟨oz,by rw[ZZ oz,←List.append_assoc,ZeL,←f2_2];first | (simp[hb3,QE];done) | (simp[hb3,QE];grind)⟩
   ·
    try simp at hb3
    refine Zb (nx (YU tb hJ (r7 [1001]) [.int (j+1:Nat),_] [0] U8 Y ⟨YT,U⟩ ?_))
    exact Xk (j+1,zs) (r8 []) ⟨oz,by rw[ZZ oz,←List.append_assoc,ZeL,←f2_2];first | (simp;done) | (simp[hb3];done) | (simp;grind)⟩
  ·
   try simp at hb2
   refine Zu (nx (YU tb hJ [0,1,2,3,1001] [.int (k+1:Nat),_] [0] U5 Y ⟨YT,U⟩ ?_))
   exact Xk (k+1,zs) (r5 []) ⟨oz,by rw[f2_2,ZX (xs:=ge l k) oz,ZZ oz];simp⟩
 ·
  try simp at hb1
  refine Zu (nx (qso tb hJ [1001] U2 [_] ?_))
  exact tw (ob0 (congrArg (fun z'=>OB.set keyS m1 (z')) (show ys=(Zci vs l.flatten)from by rw[f1_2,ZX oz]))) (Zs (fun a w h=>ZK  (m:=0) m1 Y h Y Y))
theorem Zo5 (M:Nat) (ms:List BA) (p:Pr)  :FnR prog J 244 [OB.set keyS M ms] [.agg (prC p),.ptr [.lit (.map (some M))]] (.bool (!decide (p.a∈ms)|| !decide (p.b∈ms))):=by
 refine fER Tryz.func244 fun S w0 hS hJ0 hH=>?_
 clear hJ0
 refine hqs tb hJ [1,1000] [.ptr (prC p),_] [0] U2 Y ⟨iBs hS hJ,U⟩ ?_
 refine hqs tb hJ [1012] (V3 [.bool (decide (p.a∈ms)),_,_,_,_,_,.bool (decide (p.b∈ms)),_,_,_]) [3,9] [_] Y ⟨fun a _ hk hx hl _=>YM (Kd:=keyS) (xs:=ms) ZR Yf p.a Y (YZ hH hk (mo 0 Y)) (hl.D 0 4 Y Y) (hl.D 2 6 Y Y) hx,fun _ _ hk hx hl hc=>YM (Kd:=keyS) (xs:=ms) ZR Yf p.b Y (YZ hH hk (mo 0 Y)) (hl.D 6 10 Y hc) (hl.D 8 12 Y hc) hx,U⟩ ?_
 exact tRn 0 (hE:=eB (by first | rfl | grind[Zp]))
theorem ZrX (M:Nat) (ms:List BA) (l:List Pr) (b:l.length*32≤140737488351232):FnR prog J 219 [OB.set keyS M ms] [.lit (.map (some M)),.rd (X8 l)] (.rd (X8 (l.filter (inV ms)))):=by
 refine fER Tryz.func219 fun S w0 hS hJ0 hH=>?_
 refine tw Z4 (ln 1 fun hl1=>?_)
 refine ZF tb hJ [1,1000] [.ptr [.lit (.map (some M))],_] [0] U2 Y ⟨fun _ _ hk hx hl _=>ZaM Y (hl.env 0 0 _ Y Y) (Zk hS _ hk hx _ nlr) (jo hJ hx),U⟩ ?_
 refine tsq (snK 1 tb Y (QK (O:=[]) (R:=[]) (Zsf hJ l (b)) Ztx Y Y Y (lb Y) hS hJ0 Zq (fun a w h=>(Za (h.get 0 Y) Zc)) fun z1=>?_))
 refine sy (.fn 244 [.ptr [.lit (.map (some M))]]) (fun h=>YR (caps:=[(.tmp 2)]) Y (Za (h.get 3 Y) Zc) h.x) ?_
 refine QK (O:=[OB.row z1 162 2 (l.map prC)]) (R:=[]) (ZgT hJ z1 l 244 [.ptr [.lit (.map (some M))]] [] [OB.set keyS M ms] (fun x':Pr=>!decide (x'.a∈ms)|| !decide (x'.b∈ms)) (fun q'=>Zo5 hJ M ms q') (Ztw) oz) Zty Y Y Y (lb Y) hS hJ0 (ZH (hH _ (mo 0 Y)) Zq) (fun a w h=>(Za (h.get 1 Y) (Za (h.get 0 Y) Zc))) fun _=>?_
 refine snK 1 tb Y (seK [0,1] U2 Y ?_)
 refine nx (ln 0 fun hl2=>?_)
 exact tRo 0 (hE:=congrArg (fun z=>AV.rd (X8 z)) (show(l.filter fun x'=>!(fun x':Pr=>!decide (x'.a∈ms)|| !decide (x'.b∈ms)) x')=(l.filter (inV ms))from by congr 1;funext x';simp[inV]))
theorem ZgN (y:Hy)  :Fn prog J 184 [.agg (hyC y)] (.bool y.floating):=by
 refine fE Tryz.func184 fun S w0 hS hJ0=>?_
 clear hJ0
 refine hqs tb hJ [1000] [.ptr (hyC y),_] [0] [_] Y ⟨iBs hS hJ,U⟩ ?_
 refine qs tb hJ [1002] U3 [_] ?_
 exact tRn 0 (hE:=Y)
theorem Zdx (f:Fr) (b:f.hyps.length*48≤140737488351232):Fn prog J 139 [.agg (frC f)] (.rd (XQ (QQ f.hyps))):=by
 refine fE Tryz.func139 fun S w0 hS hJ0=>?_
 refine tw Z4 (ZF tb hJ [1000] [.ptr (frC f),_] [0] [_] Y ⟨iBo hS hJ,U⟩ ?_)
 refine tsq (snK 2 tb Y (QK (O:=[]) (R:=[]) (Zsg hJ f.hyps (b)) ZtK Y Y Y (lb Y) hS hJ0 Zq (fun a w h=>(Za (h.get 0 Y) Zc)) fun z1=>?_))
 refine QK (O:=[OB.row z1 119 3 (f.hyps.map hyC)]) (R:=[]) (ZgU hJ z1 f.hyps 184 [] [] [] (fun x':Hy=>x'.floating) (fun q'=>(ZgN hJ q').r) (ZtJ) oz) ZtL Y Y Y (lb Y) hS hJ0 Zq (fun a w h=>(Za (h.get 0 Y) (Za (Qt 184) Zc))) fun _=>?_
 refine snK 1 tb Y (seK [0,1,3] U3 Y ?_)
 refine nx (ln 0 fun hl1=>?_)
 refine ln 2 fun hl2=>?_
 exact tRo 0 (hE:=congrArg (fun z=>AV.rd (XQ z)) (show(f.hyps.filter fun x'=>!(fun x':Hy=>x'.floating) x')=(QQ f.hyps)from Y))
theorem Zr8 (xs ys:List Hy)  :Fn prog J 179 [.rd (XQ xs),.rd (XQ ys)] (.int (Zhh (xs.map Hy.label) (ys.map Hy.label):Nat)):=by
 refine fE Tryz.func179 fun S w0 hS hJ0=>?_
 clear hJ0
 refine ln 0 fun hl1=>?_
 refine ln 1 fun hl2=>?_
 refine qs tb hJ [0,1] [_] U2 ?_
 refine qs tb hJ [0,1,1000] [_] U3 ?_
 refine Zf (Zd (lp (ι:=Nat) (fun k=>(k≤xs.length)∧(k≤ys.length)∧(∀ j,j<k→(ge xs j).label=(ge ys j).label)) (fun k=>[(5,.int (k:Nat))]) (fun k=>xs.length-k) [0,1,2] U2 0 ⟨nzl,nzl,fun j hj=>by omega⟩ ?_))
 rintro k ⟨f1_1,f1_2,f1_3⟩
 refine Zf (hqs tb hJ [0,1,2,1022] [_,_,.int (xs.length:Nat),_,_,_,_,.int (ys.length:Nat),_,_,_,_,_,.ptr (hyC (ge xs k)),_,_,_,_,.ptr (hyC (ge ys k)),_,_,_,_] [2,7,13,18] U4 Y ⟨Ym ZC,Ym ZC,gIx ZI (hk:=fun(hc':(((decide ((k:Int)< (xs.length:Int)))&& (decide ((k:Int)< (ys.length:Int))))==true)=true)=>by(try simp at hc');first | omega | (simp;omega) | grind[Zp]),gIx ZI (hk:=fun(hc':(((decide ((k:Int)< (xs.length:Int)))&& (decide ((k:Int)< (ys.length:Int))))==true)=true)=>by(try simp at hc');first | omega | (simp;omega) | grind[Zp]),U⟩ ?_)
 refine cj 3 (fun hb1=>?_) fun hb1=>?_
 ·
  try simp at hb1
  refine Zb (nx (Zd (hqp tb hJ [0,1,1002] [_,.int (k+1:Nat),_] [1] U3 Y ⟨YT,U⟩ ?_)))
  exact lpE (k+1) [0,1,2] ⟨oz,oz,Z2 f1_3 (by simp_all)⟩
 ·
  try simp at hb1
  refine Zu (nx (qs tb hJ [1001] U2 [_] ?_))
  exact tRn 0 (hE:=eI (by exact congrArg _ (Zqx (xs.map Hy.label) (ys.map Hy.label) k (by simpa using f1_1) (by simpa using f1_2) (fun j hj=>by rw[ZlV oz,ZlV oz];exact f1_3 j hj) (by rw[List.length_map,List.length_map];rintro⟨h1,h2,h3⟩;rw[ZlV h1,ZlV h2]at h3;simp_all))))
theorem Zly (y:Hy) (b:y.text.length*16≤140737488351232):Fn prog J 113 [.agg (hyC y)] (.agg (hyC y)):=by
 refine fE Tryz.func113 fun S w0 hS hJ0=>?_
 refine tw Z4 (tsq ?_)
 refine Zcf (cs:=[lS y.label,lB y.floating,Zg y.text]) hJ Y Y Y (lb Y) (fun a w h=>(h.get 0 Y)) fun b1=>?_
 refine Zv Yy hJ Y Y Y (lb Y) fun b2=>?_
 refine seK [0,1] U2 Y (nx (tsq ?_))
 refine sy (.at b1 2) (fun h=>Zx Xb Y (h.get 1 Y) h.x) ?_
 refine sy (.rd (Zg y.text)) (fun h=>Zo Qy Y (Ze h.x (mo 1 Y)) (h.get 0 Y) Y h.x) ?_
 refine QK (O:=[]) (R:=[OB.var b2 [lS (⟨#[]⟩:BA),lB false,Zg ([]:List BA)],OB.var b1 (hyC y)]) (ZlA hJ y.text sfz) ZqM Y Y Y (lb Y) hS hJ0 Zq (fun a w h=>(Za (h.get 0 Y) Zc)) fun z3=>?_
 refine sy (.at b1 2) (fun h=>Zx Xb Y (h.get 4 Y) h.x) ?_
 refine kw pm2 (kw pm1 ?_)
 refine kw (fun h=>Ya hS h (m:=1) (s:=5) Y) (Z6 (b:=b1) (off:=2) (es:=U3) hJ hJ0 ZoC Y Y Y (lb Y) Y (fun a w h=>⟨(h.get 1 Y),(h.get 0 Y)⟩) ?_)
 refine seK [0,2,4,5] U4 Y (nx (ln 0 fun hl1=>?_))
 refine tsq (sy (.agg [lS y.label,lB y.floating,Zg y.text]) (fun h=>Yb (ds:=[lS y.label,lB y.floating,Zg y.text]) Za2 Y (Ze h.x (mo 0 Y)) (h.get 3 Y) Y Y h.x) ?_)
 refine kw pm1 (Zn (b:=b2) (off:=0) (es:=U3) (news:=U3) hJ hJ0 YQ Y Y Y (lb Y) Y (fun a w h=>⟨(h.get 3 Y),(h.get 0 Y)⟩) ?_)
 exact seK [3] [_] Y (nx (Zs (fun a w h=>Zb7 (m:=0) Y Za2 h Y Y Y)))
theorem ZuL (M1 M2:Nat) (M3 M4 M5:Nat) (cs vs l:List BA)  :FnR prog J 175 [OB.set keyS M1 cs,OB.set keyS M2 vs] [.ptr (mpC [M1,M2,M3,M4,M5]),.rd (Zg l)] (.int (ZmR cs vs l)):=by
 refine fER Tryz.func175 fun S w0 hS hJ0 hH=>?_
 clear hJ0
 refine ln 1 fun hl1=>?_
 refine hqs tb hJ [1,1000] [.ptr [.ptr (mpC [M1,M2,M3,M4,M5])],_] [0] U2 Y ⟨fun _ _ hk hx hl _=>ZgJ Y (hl.env 0 0 _ Y Y) (hS _ hk.size) (js hJ hx),U⟩ ?_
 refine Zf (Zd (hqs tb hJ [0,1,1008] [_,.int (l.length:Nat),_,_,_,.int (l.length:Nat),_,_,_] [1,5] U3 Y ⟨Ym ZA,Ym ZA,U⟩ ?_))
 refine cj 2 (fun hb1=>?_) fun hb1=>?_
 ·
  refine qs tb hJ [1000] [_] [_] ?_
  exact tRn 0 (hE:=eI (by grind[ZmR]))
 ·
  refine hqs tb hJ [1015] (V5 [.ptr [lS (ge l 0)],_,.bool (decide ((ge l 0)∈cs)),_,_,_,.rd (Zg (l.drop 1)),.fn 214 [.ptr [.ptr (mpC [M1,M2,M3,M4,M5])]],.bool ((l.drop 1).any (fun s=>!(decide (s∈cs)||decide (s∈vs)))),_,_]) [5,7,11,12,13] [_] Y ⟨iIx (k:=0) Zj,fun _ _ hk hx hl _=>YM (Kd:=keyS) (xs:=cs) ZR Yf (ge l 0) Y (YZ hH hk (mo 0 Y)) (hl.D 3 18 Y Y) (hl.D 6 21 Y Y) hx,fun _ _ _ hx hl hc=>Zam (ys:=l.drop 1) (lo:=1) (hi:=l.length) (by rw[List.take_length]) Zj (fun _=>Y) Y (hl.D 10 25 Y hc) (Rel.of_lit (.int .i64 1)) Y (by have hc':((!(decide ((ge l 0)∈cs)))==false)=true:=hc;(try simp at hc');(first | omega | (simp;omega) | grind[Zp])) (by have hc':((!(decide ((ge l 0)∈cs)))==false)=true:=hc;(try simp at hc');(first | omega | (simp;omega) | grind[Zp])) hx,fun _ _ _ hx hl _=>YR (caps:=[(.tmp 2)]) Y (Za (hl.env 1 2 _ Y Y) Zc) hx,fun _ _ hk hx hl hc=>Y3 (XE hJ (l.drop 1) 214 [.ptr [.ptr (mpC [M1,M2,M3,M4,M5])]] [OB.set keyS M1 cs,OB.set keyS M2 vs] (fun s=>!(decide (s∈cs)||decide (s∈vs))) (fun q'=>Zv7 hJ M1 M2 M3 M4 M5 cs vs q') (ZtH)) ZcV Y (nm hS hk) (hx) (ZH (YZ hH hk (mo 0 Y)) (ZH (YZ hH hk (mo 1 Y)) Zq)) (Za (hl.D 11 26 Y hc) (Za (hl.D 12 27 Y hc) Zc)) (js hJ hx),U⟩ ?_
  refine cj 0 (fun hb2=>?_) fun hb2=>?_
  ·
   refine qs tb hJ [1000] [_] [_] ?_
   exact tRn 0 (hE:=eI (by grind[ZmR]))
  ·
   refine Zb (nx (qs tb hJ [1000] [_] [_] ?_))
   exact tRn 0 (hE:=eI (by grind[ZmR]))
end
section
variable {J:WP} (hJ:Stab J)
include hJ
theorem Zpd   :Fn prog J 239 [] (.agg (clsL.map u8D)):=by
 refine fE Tryz.func239 fun S w0 hS hJ0=>?_
 refine tw Z4 (tsq ?_)
 refine Zv Zcq hJ Y Y Y (lb Y) fun b1=>?_
 refine seK [0] [_] Y (nx (Zf (qso tb hJ [0,1000] [_] U2 ?_)))
 refine Zd (lpo (ι:=Nat×(List UInt8)) (fun(k,xs)=>(k≤256)∧(xs.length=256)∧(∀ j,j<k→ge xs j=Zfh (UInt8.ofNat j))∧(∀ j,k≤j→j<256→ge xs j=0)) (fun(_,xs)=>[OB.var b1 (xs.map u8D)]) (fun(k,_)=>[(3,.int (k:Nat))]) (fun(k,_)=>256-k) [0,1] [_] (0,(List.replicate 256 (0:UInt8))) ⟨nzl,by simp,fun j hj=>by omega,fun j _ h=>by rw[Yj (by simpa using h)];exact List.getElem_replicate _⟩ ?_)
 rintro⟨k,xs⟩ ⟨f1_1,f1_2,f1_3,f1_4⟩
 refine qso tb hJ [0,1,1000] [_] U3 ?_
 refine cjS 2 (fun hb1=>?_) fun hb1=>?_
 ·
  try simp at hb1
  refine Zb (nx (Zf (Zd (qso tb hJ [0,1,1001] U2 U3 ?_))))
  refine ZF tb hJ [0,1,2,1002] [_,.rd (.lit (.int .u8 ((UInt8.ofNat k).toNat:Int))),_] [1] U4 Y ⟨fun _ _ _ hx hl _=>ZrQ (k:=k) QU Zei Y (hl.D 0 6 Y Y) sfz hx,U⟩ ?_
  refine Zd (qso tb hJ [0,1,2,3,1014] U15 U5 ?_)
  refine cj 4 (fun hb2=>?_) fun hb2=>?_
  ·
   replace hb2:c2B (UInt8.ofNat k)=true:=hb2
   refine ZO (snK 1 tb Y (sy (.at b1 k) (fun h=>Zbu (i:=k) XX Y (h.get 1 Y) (h.get 0 Y) sfz h.x) ?_))
   refine Z6 (b:=b1) (off:=k) (c:=u8D (1:UInt8)) hJ hJ0 ZdO Y Y Y (by rw[List.length_map];exact sfz) (Zhw sfz) (fun a w h=>⟨(h.get 0 Y),(Rel.of_lit (.int .u8 1))⟩) ?_
   refine seK [2,3] U2 Y (nx (YU tb hJ [0,1001] [.int (k+1:Nat),_] [0] U2 Y ⟨YT,U⟩ ?_))
   exact Xk (k+1,xs.set k (1:UInt8)) [0,1] ⟨oz,by rw[List.length_set];exact f1_2,Zd2 f1_2 oz f1_3 (by simp[Zfh,hb2]),Zd3 f1_2 oz f1_4⟩
  ·
   replace hb2:c2B (UInt8.ofNat k)=false:=hb2
   refine qso tb hJ [0,1,2,3,1002] U3 U5 ?_
   refine cj 4 (fun hb3=>?_) fun hb3=>?_
   ·
    replace hb3:c3B (UInt8.ofNat k)=true:=hb3
    refine ZO (snK 1 tb Y (sy (.at b1 k) (fun h=>Zbu (i:=k) XX Y (h.get 1 Y) (h.get 0 Y) sfz h.x) ?_))
    refine Z6 (b:=b1) (off:=k) (c:=u8D (4:UInt8)) hJ hJ0 ZdO Y Y Y (by rw[List.length_map];exact sfz) (Zhw sfz) (fun a w h=>⟨(h.get 0 Y),(Rel.of_lit (.int .u8 4))⟩) ?_
    refine seK [2,3] U2 Y (nx (YU tb hJ [0,1001] [.int (k+1:Nat),_] [0] U2 Y ⟨YT,U⟩ ?_))
    exact Xk (k+1,xs.set k (4:UInt8)) [0,1] ⟨oz,by rw[List.length_set];exact f1_2,Zd2 f1_2 oz f1_3 (by simp[Zfh,hb2,hb3]),Zd3 f1_2 oz f1_4⟩
   ·
    replace hb3:c3B (UInt8.ofNat k)=false:=hb3
    refine qso tb hJ [0,1,2,3,1034] [_,_,_,_,_,_,_,_,_,_,_,_,_,_,_,_,_,_,_,_,_,_,_,_,_,_,_,_,_,_,_,_,_,_,_] U5 ?_
    refine cj 4 (fun hb4=>?_) fun hb4=>?_
    ·
     replace hb4:c4B (UInt8.ofNat k)=true:=hb4
     refine ZO (snK 1 tb Y (sy (.at b1 k) (fun h=>Zbu (i:=k) XX Y (h.get 1 Y) (h.get 0 Y) sfz h.x) ?_))
     refine Z6 (b:=b1) (off:=k) (c:=u8D (2:UInt8)) hJ hJ0 ZdO Y Y Y (by rw[List.length_map];exact sfz) (Zhw sfz) (fun a w h=>⟨(h.get 0 Y),(Rel.of_lit (.int .u8 2))⟩) ?_
     refine seK [2,3] U2 Y (nx (YU tb hJ [0,1001] [.int (k+1:Nat),_] [0] U2 Y ⟨YT,U⟩ ?_))
     exact Xk (k+1,xs.set k (2:UInt8)) [0,1] ⟨oz,by rw[List.length_set];exact f1_2,Zd2 f1_2 oz f1_3 (by simp[Zfh,hb2,hb3,hb4]),Zd3 f1_2 oz f1_4⟩
    ·
     replace hb4:c4B (UInt8.ofNat k)=false:=hb4
     refine qso tb hJ [0,1,2,1006] U7 U4 ?_
     refine cj 3 (fun hb5=>?_) fun hb5=>?_
     ·
      replace hb5:c5B (UInt8.ofNat k)=true:=hb5
      refine ZO (snK 1 tb Y (sy (.at b1 k) (fun h=>Zbu (i:=k) XX Y (h.get 1 Y) (h.get 0 Y) sfz h.x) ?_))
      refine Z6 (b:=b1) (off:=k) (c:=u8D (3:UInt8)) hJ hJ0 ZdO Y Y Y (by rw[List.length_map];exact sfz) (Zhw sfz) (fun a w h=>⟨(h.get 0 Y),(Rel.of_lit (.int .u8 3))⟩) ?_
      refine seK [2,3] U2 Y (nx (YU tb hJ [0,1001] [.int (k+1:Nat),_] [0] U2 Y ⟨YT,U⟩ ?_))
      exact Xk (k+1,xs.set k (3:UInt8)) [0,1] ⟨oz,by rw[List.length_set];exact f1_2,Zd2 f1_2 oz f1_3 (by simp[Zfh,hb2,hb3,hb4,hb5]),Zd3 f1_2 oz f1_4⟩
     ·
      replace hb5:c5B (UInt8.ofNat k)=false:=hb5
      refine Zb (nx (YU tb hJ [0,1001] [.int (k+1:Nat),_] [0] U2 Y ⟨YT,U⟩ ?_))
      exact Xk (k+1,xs) [0,1] ⟨oz,f1_2,Z2 f1_3 (by rw[f1_4 k (Nat.le_refl k) oz];simp[Zfh,hb2,hb3,hb4,hb5]),fun j h1 h2=>f1_4 j oz h2⟩
 ·
  try simp at hb1
  refine Zu (nx (tsq (sy (.agg (xs.map u8D)) (fun h=>Yb (ds:=xs.map u8D) Zfq Y (Ze h.x (mo 0 Y)) (h.get 0 Y) (by rw[List.drop_zero,List.take_of_length_le (by rw[List.length_map];omega)]) (by rw[List.length_map];omega) h.x) ?_)))
  refine Zn (b:=b1) (off:=0) (news:=xs.map u8D) hJ hJ0 (by rw[List.length_map,show xs.length=256 from(f1_2)];exact Zdv) Y Y Y (by simp only[List.length_map];exact oz) (Zq6 (by rw[List.length_map]<;>exact(Y))) (fun a w h=>⟨(h.get 1 Y),(h.get 0 Y)⟩) ?_
  exact seK [1] [_] Y (nx (Zs (fun a w h=>Zb7 (m:=0) Y Zfq h Y (by rw[List.length_map];exact(f1_2)) (congrArg (fun z':List UInt8=>z'.map u8D) (show xs=clsL from Zxk f1_2 fun j hj=>f1_3 j oz)))))
theorem Zsc (xs:List UInt8) (c:UInt8)  :Fn prog J 255 [.rd (u8sC xs),.rd (.lit (.int .u8 (c.toNat:Int)))] (.int (Qj (fun x':UInt8=>decide (((c).toNat:Int)=((x').toNat:Int))) xs)):=by
 refine fE Tryz.func255 fun S w0 hS hJ0=>?_
 clear hJ0
 refine ln 0 fun hl1=>?_
 refine qs tb hJ [0,1] [_] U2 ?_
 refine Zf (hqs tb hJ [0,1,1001,1002] [_,.int (xs.length:Nat),_] [1] U4 Y ⟨Ym ZmP,U⟩ ?_)
 refine Zd (lp (ι:=Nat) (fun k=>(k≤xs.length)∧(∀ j,j<k→(fun x':UInt8=>decide (((c).toNat:Int)=((x').toNat:Int))) (ge xs j)=false)) (fun k=>[(8,.int (k:Nat))]) (fun k=>xs.length-k) [0,1,2,3] U3 0 ⟨nzl,fun j hj=>by omega⟩ ?_)
 rintro k ⟨f1_1,f1_2⟩
 refine qs tb hJ [0,1,2,3,1000] [_] U5 ?_
 refine cjS 4 (fun hb1=>?_) fun hb1=>?_
 ·
  try simp at hb1
  refine Zb (nx (Zf (Zd (qs tb hJ [0,1,2,3,1001] U2 U5 ?_))))
  refine hqs tb hJ (r5 [1005]) (V3 [.ptr [.lit (.int .u8 ((ge xs k).toNat:Int))],_,_]) [3] U6 Y ⟨iIx ZbE,U⟩ ?_
  refine cj 5 (fun hb2=>?_) fun hb2=>?_
  ·
   try simp at hb2
   refine qs tb hJ [1001] U2 [_] ?_
   exact tRn 0 (hE:=eI (by first | exact(Xh (p:=fun x':UInt8=>decide (((c).toNat:Int)=((x').toNat:Int))) hb1 (by simpa using hb2) f1_2).symm | exact(YV (p:=fun x':UInt8=>decide (((c).toNat:Int)=((x').toNat:Int))) fun j hj=>f1_2 j oz).symm))
  ·
   try simp at hb2
   refine Zb (nx (hqp tb hJ [0,1,2,1001] [.int (k+1:Nat),_] [0] U4 Y ⟨YT,U⟩ ?_))
   exact lpE (k+1) [0,1,2,3] ⟨oz,Z2 f1_2 (by simpa using hb2)⟩
 ·
  try simp at hb1
  refine Zu (nx (qs tb hJ [1000] [_] [_] ?_))
  exact tRn 0 (hE:=eI (by first | exact(Xh (p:=fun x':UInt8=>decide (((c).toNat:Int)=((x').toNat:Int))) hb1 (by simpa using hb2) f1_2).symm | exact(YV (p:=fun x':UInt8=>decide (((c).toNat:Int)=((x').toNat:Int))) fun j hj=>f1_2 j oz).symm))
theorem Zj5 (xs:List UInt8) (c:UInt8)  :Fn prog J 240 [.rd (u8sC xs),.rd (.lit (.int .u8 (c.toNat:Int)))] (.bool (decide (c∈xs))):=by
 refine fE Tryz.func240 fun S w0 hS hJ0=>?_
 clear hJ0
 refine ln 0 fun hl1=>?_
 refine qs tb hJ [0,1] [_] U2 ?_
 refine hqs tb hJ [1004] [_,_,.int (Qj (fun x':UInt8=>decide (((c).toNat:Int)=((x').toNat:Int))) xs),_,_] [2] [_] Y ⟨iFn hS hJ (Zsc hJ xs c) Ztr,U⟩ ?_
 exact tRn 0 (hE:=eB (by rw[Zbf,Zsu]))
theorem ZuM (s:BA) (bs:List UInt8)  :Fn prog J 211 [.str s,.rd (u8sC bs)] (.bool (Zb1 s bs)):=by
 refine fE Tryz.func211 fun S w0 hS hJ0=>?_
 refine tw Z4 (lnS 0 fun hl1=>?_)
 refine ln 1 fun hl2=>?_
 refine qso tb hJ [0,1] [_] U2 ?_
 refine Zf (ZF tb hJ [0,1,1006] (V4 [.int (s.size:Nat),_,_]) [4] U3 Y ⟨iLeS Zbq,U⟩ ?_)
 refine cj 2 (fun hb1=>?_) fun hb1=>?_
 ·
  refine qso tb hJ [1000] [_] [_] ?_
  exact tRo 0 (hE:=eB (by first | (rw[Zb1,if_pos hb1];done) | (rw[Zb1,if_neg (by rw[hb1];decide)];symm;exact Zdf (p:=fun c=>decide (Zfh c∈bs)) hb2 (by simpa [Zhj]using hb3)) | (rw[Zb1,if_neg (by rw[hb1];decide)];symm;exact Zq9 fun j hj=>f1_2 j oz)))
 ·
  refine Zb (nx (tsq (sy (.agg (clsL.map u8D)) (fun h=>ZaL (Zpd hJ  ) ZtA Y (Zk hS _ h.keep h.x) (h.x.1) Zc (jo hJ h.x)) ?_)))
  refine Zv Zcq hJ Y Y Y (lb Y) fun b1=>?_
  refine Zn (b:=b1) (off:=0) (news:=clsL.map u8D) hJ hJ0 (by rw[List.length_map,show clsL.length=256 from(Zbh)];exact Zdv) Y Y Y (by simp only[List.length_map];exact(by rw[Zbh,List.length_replicate];exact Nat.le_of_ble_eq_true Y)) (Zq6 (by rw[List.length_map]<;>exact(by rw[Zbh,List.length_replicate]))) (fun a w h=>⟨(h.get 0 Y),(h.get 1 Y)⟩) ?_
  refine seK [0,2,3] U3 Y (nx (Zf (ZF tb hJ [0,1,2,1001,1002] [_,.int (s.size:Nat),_] [1] U5 Y ⟨iLeS Zbq,U⟩ ?_)))
  refine Zd (lpo (ι:=Nat) (fun k=>(k≤s.size)∧(∀ j,j<k→decide (Zfh (bt s j)∈bs)=true)) (fun _=>[OB.var b1 (clsL.map u8D)]) (fun k=>[(17,.int (k:Nat))]) (fun k=>s.size-k) (r5 []) U4 0 ⟨nzl,fun j hj=>by omega⟩ ?_)
  rintro k ⟨f1_1,f1_2⟩
  refine qso tb hJ (r5 [1000]) [_] U6 ?_
  refine cjS 5 (fun hb2=>?_) fun hb2=>?_
  ·
   try simp at hb2
   refine Zb (nx (Zf (Zd (qso tb hJ (r5 [1001]) U2 U6 ?_))))
   refine ZF tb hJ (r5 [1007]) (V3 [.rd (.lit (.int .u8 ((ge s.data.toList k).toNat:Int))),.at b1 ((ge s.data.toList k).toNat),.rd (.lit (.int .u8 ((ge clsL (ge s.data.toList k).toNat).toNat:Int))),.bool (decide ((ge clsL (ge s.data.toList k).toNat)∈bs)),_]) [3,4,5,6] U6 Y ⟨fun _ _ _ hx hl _=>r_idxS (i:=(k:Int)) Zbq Y (hl.D 1 21 Y Y) (hl.D 2 22 Y Y) nnn (Zuf (s:=s) (k:=k) sfz) hx,fun _ _ _ hx hl _=>Zbu (i:=(ge s.data.toList k).toNat) XX Y (hl.env 0 5 _ Y Y) (hl.D 3 23 Y Y) (UInt8.toNat_lt _) hx,fun _ _ _ hx hl _=>Zo one_5 Y (Ze hx (mo 0 Y)) (hl.D 4 24 Y Y) (ZxW (by rw[Zbh];exact UInt8.toNat_lt _)) hx,iFo hS hJ (Zj5 hJ bs (ge clsL (ge s.data.toList k).toNat)) Ztz,U⟩ ?_
   refine cj 5 (fun hb3=>?_) fun hb3=>?_
   ·
    try simp at hb3
    refine qso tb hJ [1000] [_] [_] ?_
    exact tRo 0 (hE:=eB (by first | (rw[Zb1,if_pos hb1];done) | (rw[Zb1,if_neg (by rw[hb1];decide)];symm;exact Zdf (p:=fun c=>decide (Zfh c∈bs)) hb2 (by simpa [Zhj]using hb3)) | (rw[Zb1,if_neg (by rw[hb1];decide)];symm;exact Zq9 fun j hj=>f1_2 j oz)))
   ·
    try simp at hb3
    refine Zb (nx (YU tb hJ [0,1,2,3,1001] [.int (k+1:Nat),_] [0] U5 Y ⟨YT,U⟩ ?_))
    exact Xk (k+1) (r5 []) ⟨oz,Z2 f1_2 (by simpa [Zhj]using hb3)⟩
  ·
   try simp at hb2
   refine Zu (nx (qso tb hJ [1000] [_] [_] ?_))
   exact tRo 0 (hE:=eB (by first | (rw[Zb1,if_pos hb1];done) | (rw[Zb1,if_neg (by rw[hb1];decide)];symm;exact Zdf (p:=fun c=>decide (Zfh c∈bs)) hb2 (by simpa [Zhj]using hb3)) | (rw[Zb1,if_neg (by rw[hb1];decide)];symm;exact Zq9 fun j hj=>f1_2 j oz)))
theorem ZeE (s:BA)  :Fn prog J 172 [.str s] (.bool (ZiI s)):=by
 refine fE Tryz.func172 fun S w0 hS hJ0=>?_
 clear hJ0
 refine qs tb hJ [0] [_] [_] ?_
 refine hqs tb hJ [1001,1003] [_,.rd (u8sC ([(2:UInt8)])),.bool (Zb1 s ([(2:UInt8)])),_] [1,2] U2 Y ⟨fun _ _ hk hx _ _=>YI ZbE zero_5 Y (Rel.of_lit (.int .u8 2)) (hS _ hk.size) (js hJ hx),iFn hS hJ (ZuM hJ s ([(2:UInt8)])) Zmj,U⟩ ?_
 refine ln 0 fun hl1=>?_
 exact tRn 1 (hE:=eB (Zpo s))
theorem Zdd (s:BA)  :Fn prog J 170 [.str s] (.bool (ZfP s)):=by
 refine fE Tryz.func170 fun S w0 hS hJ0=>?_
 clear hJ0
 refine qs tb hJ [0] [_] [_] ?_
 refine hqs tb hJ [1001,1003] [_,.rd (u8sC ([2,3]:List UInt8)),.bool (Zb1 s ([2,3]:List UInt8)),_] [1,2] U2 Y ⟨fun a _ hk hx _ _=>Zan (k:=2) (us:=[a.eval (.const (.int .u8 2)),a.eval (.const (.int .u8 3))]) ZbE ZnT Y yz (Zt (Rel.of_lit (.int .u8 2)) (Zt (Rel.of_lit (.int .u8 3)) Z0)) Y dz dz (hS _ hk.size) (js hJ hx),iFn hS hJ (ZuM hJ s ([2,3]:List UInt8)) Zmj,U⟩ ?_
 refine ln 0 fun hl1=>?_
 exact tRn 1 (hE:=eB (Zpn s))
end
theorem ZkH:Zb9 prog 287 4:=⟨#[.int .i64 0,.string ⟨#[]⟩,.slice none 0 0,.slice none 0 0],Y,fun i=>(#[(0,1),(1,1),(2,1),(3,1)]:Array (Nat×Nat))[i]?,fun j hj=>by rcases j with _ | _ | _ | _ | j<;>first | rfl | omega,fun parts=>by kernel_rfl⟩
theorem Znf {J:WP} (hJ:Stab J) (s:BA):Fn prog J 261 [.str s] (.bool (Qe s)):=by
 intro S w vs hS hJ0 ha
 simp only[RelL]at ha
 obtain⟨u,us,rfl,h1,rfl⟩:=ha
 rw[h1.lit]
 exact(Znm s w).mono fun e w' ⟨he,hb⟩=>by
  have hk:Keeps All w w':=(Keeps.of_below hb).sub fun k hk _=>hk
  exact⟨_,he,Rel.of_lit _,hk,hJ w w' hk hJ0⟩
def fm7 (s:Sm):Bool:=((ZiI s.label&& (decide ((1:Int)≤(s.text.length:Int))&&decide ((s.text.length:Int)≤200)))&&s.text.all ZfP)&&s.proof.all Qe
def wd7 (s:Sm):List BA:=((([s.label]++[⟨#[36,112]⟩]++s.text)++[⟨#[36,61]⟩])++s.proof)++[⟨#[36,46]⟩]
section
variable {J:WP} (hJ:Stab J)
include hJ
theorem Zii (g:FuncId)  :Fn prog J 259 [.lit (.func (.func g) #[] #[])] (.fn 260 [.ptr [.lit (.func (.func g) #[] #[])]]):=by
 refine fE Tryz.func259 fun S w0 hS hJ0=>?_
 clear hJ0
 refine hqs tb hJ [1000] [.ptr [.lit (.func (.func g) #[] #[])],_] [0] [_] Y ⟨fun _ _ hk hx hl _=>ZaM Y (hl.env 0 0 _ Y Y) (hS _ hk.size) (js hJ hx),U⟩ ?_
 refine hqs tb hJ [1001] [.fn 260 [.ptr [.lit (.func (.func g) #[] #[])]],_] [0] [_] Y ⟨fun _ _ _ hx hl _=>YR (caps:=[(.tmp 1)]) Y (Za (hl.env 0 1 _ Y Y) Zc) hx,U⟩ ?_
 exact tRn 0 (hE:=Y)
theorem Zf3 (g:FuncId) (p:BA→Bool) (q:BA) (hk0:Zi prog g) (hf:∀ q',Fn prog J g [.str q'] (.bool (p q'))):Fn prog J 260 [.str q,.ptr [.lit (.func (.func g) #[] #[])]] (.bool (!p q)):=by
 refine fE Tryz.func260 fun S w0 hS hJ0=>?_
 clear hJ0
 refine qs tb hJ [0,1] [_] U2 ?_
 refine hqs tb hJ [1004] [_,_,.bool (p q),_,_] [2] [_] Y ⟨fun _ _ hk hx hl _=>Zax ((hf q).r) hk0 Y (Zqd (hl.D 0 4 Y Y)) (nm hS hk) (hx) Zq (Za (hl.D 1 5 Y Y) Zc) (js hJ hx),U⟩ ?_
 exact tRn 0 (hE:=eB (by first | rfl | grind[Zp]))
theorem Zr7 (s:Sm) (hG:Xm J) (h7:s.kind=7):Fn prog J 247 [.agg (stC s)] (.bool (fm7 s)):=by
 refine fE Tryz.func247 fun S w0 hS hJ0=>?_
 refine tw Z4 (ZF tb hJ [1000] [.ptr (stC s),_] [0] [_] Y ⟨iBo hS hJ,U⟩ ?_)
 refine Zf (qso tb hJ [0,1007] U8 U2 ?_)
 refine cj 1 (fun hb1=>?_) fun hb1=>?_
 ·
  try simp at hb1
  refine qso tb hJ [1000] [_] [_] ?_
  exact tRo 0 (hE:=eB (by first | (exfalso;omega) | (unfold fm7;grind) | (simp only[fm7,List.all_eq_not_any_not];grind)))
 ·
  try simp at hb1
  refine Zb (nx (tsq (snK 2 tb Y (sy (.at 1 28) (fun h=>Zf0 (k:=7) Zbp ZbL Y (h.get 0 Y) (h7) dz h.x) ?_))))
  refine sy (.agg [lS (⟨#[36,112]⟩:BA),lB true,lI (1:Int),lI (200:Int)]) (fun h=>ZfZ Zjs Y (hG _ (h.x.1)) (h.get 0 Y) h.x) ?_
  refine Zv Zcp hJ Y Y Y (lb Y) fun b1=>?_
  refine Zn (b:=b1) (off:=0) (es:=U4) (news:=U4) hJ hJ0 ZbL Y Y Y (lb Y) Y (fun a w h=>⟨(h.get 0 Y),(h.get 1 Y)⟩) ?_
  refine kw (fun h=>ZP hS h (m:=0) (s:=3) Y) (seK [0,5] U2 Y ?_)
  refine nx (Zf (ZF tb hJ [1,1033] (V5 [.bool (ZiI s.label),_,_,_,_,_,_,_,_,_,_,_,_,_,_,_,.int (s.text.length:Nat),_,_,_,_,_,_,_,.int (s.text.length:Nat),_,_,_,_]) [5,21,29] U2 Y ⟨iFo hS hJ (ZeE hJ s.label) Zhp,Ym ZA,Ym ZA,U⟩ ?_))
  refine cj 1 (fun hb2=>?_) fun hb2=>?_
  ·
   try simp at hb2
   refine qso tb hJ [1000] [_] [_] ?_
   exact tRo 0 (hE:=eB (by first | (exfalso;omega) | (unfold fm7;grind) | (simp only[fm7,List.all_eq_not_any_not];grind)))
  ·
   try simp at hb2
   refine Zb (nx (qso tb hJ [0,1000] [_] U2 ?_))
   refine ZF tb hJ [1001,1025] (V3 [.fn 260 [.ptr [.lit (.func (.func 170) #[] #[])]],.bool (s.text.any (fun w'=>!ZfP w')),_,_,_,_,_,.fn 260 [.ptr [.lit (.func (.func 261) #[] #[])]],.bool (s.proof.any (fun w'=>!Qe w')),_,_,_,_,_,_,_,_,_,.int (s.proof.length:Nat),_,_,_,_]) [3,4,10,11,21] U2 Y ⟨fun _ _ hk hx hl _=>Zax ((Zii hJ 170).r) Zmg Y (hl.D 2 53 Y Y) (Zk hS _ hk hx) (hx.1) Zq (Za (Zh6 170) Zc) (jo hJ hx),fun _ w hk hx hl _=>Y3 (XE hJ s.text 260 [.ptr [.lit (.func (.func 170) #[] #[])]] [] (fun w'=>!ZfP w') (fun q'=>(Zf3 hJ 170 ZfP q' Zhq fun z'=>Zdd hJ z').r) (Zmf)) ZcV Y (Zk hS _ hk hx) (hx.1) Zq (Za (hl.D 1 52 Y Y) (Za (hl.D 3 54 Y Y) Zc)) (jo hJ hx),fun _ _ hk hx hl hc=>Zax ((Zii hJ 261).r) Zmg Y (hl.D 9 60 Y hc) (Zk hS _ hk hx) (hx.1) Zq (Za (Zh6 261) Zc) (jo hJ hx),fun _ w hk hx hl hc=>Y3 (XE hJ s.proof 260 [.ptr [.lit (.func (.func 261) #[] #[])]] [] (fun w'=>!Qe w') (fun q'=>(Zf3 hJ 261 Qe q' Zto fun z'=>Znf hJ z').r) (Zmf)) ZcV Y (Zk hS _ hk hx) (hx.1) Zq (Za (hl.D 8 59 Y hc) (Za (hl.D 10 61 Y hc) Zc)) (jo hJ hx),Ym ZA,U⟩ ?_
   refine ln 0 fun hl1=>?_
   exact tRo 1 (hE:=eB (by first | (exfalso;omega) | (unfold fm7;grind) | (simp only[fm7,List.all_eq_not_any_not];grind)))
theorem Zsa (s:Sm) (hG:Xm J) (h7:s.kind=7):Fn prog J 246 [.agg (stC s)] (.bool (!fm7 s)):=by
 refine fE Tryz.func246 fun S w0 hS hJ0=>?_
 refine tw Z4 (ZF tb hJ [1000] [.ptr (stC s),_] [0] [_] Y ⟨iBo hS hJ,U⟩ ?_)
 refine ZF tb hJ [1003] [_,.bool (fm7 s),_,_] [1] [_] Y ⟨iFo hS hJ (Zr7 hJ s (hG) (h7)) Ztt,U⟩ ?_
 exact tRo 0 (hE:=eB (by first | rfl | grind[Zp]))
theorem Zil (xs:List Sm) (f:FuncId) (caps:List AV) (Os:List OB) (p:Sm→Bool) (hf:∀ q'∈xs,FnR prog J f Os ([.agg (stC (q'))]++caps) (.bool (p q'))) (hk0:Zi prog f):FnR prog J 258 Os [.rd (stsC xs),.fn f caps] (.int (Qj p xs)):=by
 refine fER Tryz.func258 fun S w0 hS hJ0 hH=>?_
 clear hJ0
 refine ln 0 fun hl1=>?_
 refine qs tb hJ [0,1] [_] U2 ?_
 refine Zf (hqs tb hJ [0,1,1001,1002] [_,.int (xs.length:Nat),_] [1] U4 Y ⟨Ym Zbo,U⟩ ?_)
 refine Zd (lp (ι:=Nat) (fun k=>(k≤xs.length)∧(∀ j,j<k→p (ge xs j)=false)) (fun k=>[(8,.int (k:Nat))]) (fun k=>xs.length-k) [0,1,2,3] U3 0 ⟨nzl,fun j hj=>by omega⟩ ?_)
 rintro k ⟨f1_1,f1_2⟩
 refine qs tb hJ [0,1,2,3,1000] [_] U5 ?_
 refine cjS 4 (fun hb1=>?_) fun hb1=>?_
 ·
  try simp at hb1
  refine Zb (nx (Zf (Zd (qs tb hJ [0,1,2,3,1001] U2 U5 ?_))))
  refine hqs tb hJ (r5 [1005]) (V3 [.ptr (stC (ge xs k)),_,.bool (p (ge xs k))]) [3,5] U6 Y ⟨iIx ZaA,fun _ _ hk hx hl _=>Zax (hf (ge xs k) (Zp oz)) hk0 Y (hl.D 0 11 Y Y) (nm hS hk) (hx) (fun _ ho=>YZ hH hk ho) (Za (hl.D 4 15 Y Y) Zc) (js hJ hx),U⟩ ?_
  refine cj 5 (fun hb2=>?_) fun hb2=>?_
  ·
   try simp at hb2
   refine qs tb hJ [1001] U2 [_] ?_
   exact tRn 0 (hE:=eI (by first | exact(Xh hb1 hb2 f1_2).symm | exact(YV fun j hj=>f1_2 j oz).symm))
  ·
   try simp at hb2
   refine Zb (nx (hqp tb hJ [0,1,2,1001] [.int (k+1:Nat),_] [0] U4 Y ⟨YT,U⟩ ?_))
   exact lpE (k+1) [0,1,2,3] ⟨oz,Z2 f1_2 hb2⟩
 ·
  try simp at hb1
  refine Zu (nx (qs tb hJ [1000] [_] [_] ?_))
  exact tRn 0 (hE:=eI (by first | exact(Xh hb1 hb2 f1_2).symm | exact(YV fun j hj=>f1_2 j oz).symm))
theorem ZeF (xs:List Sm) (f:FuncId) (caps:List AV) (Os:List OB) (p:Sm→Bool) (hf:∀ q'∈xs,FnR prog J f Os ([.agg (stC (q'))]++caps) (.bool (p q'))) (hk0:Zi prog f):FnR prog J 245 Os [.rd (stsC xs),.fn f caps] (.bool (xs.any p)):=by
 refine fER Tryz.func245 fun S w0 hS hJ0 hH=>?_
 clear hJ0
 refine ln 0 fun hl1=>?_
 refine qs tb hJ [0,1] [_] U2 ?_
 refine hqs tb hJ [1004] [_,_,.int (Qj p xs),_,_] [2] [_] Y ⟨fun _ _ hk hx hl _=>Y3 (Zil hJ xs f caps Os p (hf) (hk0)) Ztp Y (nm hS hk) (hx) (fun _ ho=>YZ hH hk ho) (Za (hl.D 0 5 Y Y) (Za (hl.D 1 6 Y Y) Zc)) (js hJ hx),U⟩ ?_
 exact tRn 0 (hE:=eB (by rw[←Zbf]))
theorem Zo4 (s:Sm) (hG:Xm J) (h7:s.kind=7) (hl:s.text.length+s.proof.length≤100):Fn prog J 248 [.agg (stC s)] (.rd (Zg (wd7 s))):=by
 refine fE Tryz.func248 fun S w0 hS hJ0=>?_
 refine tw Z4 (ZF tb hJ [1000] [.ptr (stC s),_] [0] [_] Y ⟨iBo hS hJ,U⟩ ?_)
 refine tsq (snK 2 tb Y (sy (.at 1 28) (fun h=>Zf0 (k:=7) Zbp ZbL Y (h.get 0 Y) (h7) dz h.x) ?_))
 refine sy (.agg [lS (⟨#[36,112]⟩:BA),lB true,lI (1:Int),lI (200:Int)]) (fun h=>ZfZ Zjs Y (hG _ (h.x.1)) (h.get 0 Y) h.x) ?_
 refine Zv Zcp hJ Y Y Y (lb Y) fun b1=>?_
 refine Zn (b:=b1) (off:=0) (es:=U4) (news:=U4) hJ hJ0 ZbL Y Y Y (lb Y) Y (fun a w h=>⟨(h.get 0 Y),(h.get 1 Y)⟩) ?_
 refine kw (fun h=>ZP hS h (m:=0) (s:=3) Y) (seK [0,5] U2 Y ?_)
 refine nx (qso tb hJ [0,1,1000] [_] U3 ?_)
 refine Zf (qso tb hJ [0,1,2,1001] U2 U4 ?_)
 refine cj 3 (fun hb1=>?_) fun hb1=>?_
 ·
  refine tw (Yd 9 1 hJ) (ZO (snK 3 tb Y ?_))
  refine sy (.rd (Zg ([s.label]))) (fun h=>YI Zj Zbn Y (h.get 0 Y) (Zk hS _ h.keep h.x _ nlr) (jo hJ h.x)) ?_
  refine YD (f:=ZbZ) (m:=3) (s:=11) ([]:List BA) ([s.label]) (fun _=>Y) Qu hJ hJ0 Y Y Y (lb Y) Y Y (fun a w h=>(h.get 0 Y)) (by first | omega | (simp;done) | (simp;omega)) (by first | omega | (simp;done) | (simp;omega)) fun v2=>?_
  refine snK 1 tb Y (seK [0,2,6,7] U4 Y ?_)
  refine nx (ln 1 fun hl1=>?_)
  refine Zf (fun a w h=>Zbt [] (γ:=Value×Value) (fun ix'=>([.lit v2,.ptr [lS (⟨#[36,112]⟩:BA),lB true,lI (1:Int),lI (200:Int)],.str (⟨#[36,112]⟩:BA),.rd (Zg ([(⟨#[36,112]⟩:BA)])),.any,.ptr [Zg s.text,Zg s.proof],.rd (Zg s.text),.any,.any]:List AV).getD ix' .any) (fun _=>true) [(3,fun _=>.ptr [lS (⟨#[36,112]⟩:BA),lB true,lI (1:Int),lI (200:Int)]),(1,fun _=>.ptr (stC s)),(4,fun g=>.lit g.2)] (fun j' g=>match j' with | 0=>[OB.row v2 9 1 ((([]:List BA)++([s.label])).map ZbZ)] | 1=>[OB.row g.1 9 1 (((([]:List BA)++([s.label]))++([(⟨#[36,112]⟩:BA)])).map ZbZ)] | _=>[OB.row g.2 9 1 ((((([]:List BA)++([s.label]))++([(⟨#[36,112]⟩:BA)]))++s.text).map ZbZ)]) (fun k' g=>match k' with | 0=>g.1 | 1=>g.2 | 2=>g.2 | _=>undef) [4,7,8] 3 ((.slice none 0 0),(.slice none 0 0)) (fun _=>Y) h hJ Yo Y Y Y Y Y Y hsb ⟨?_,?_,?_,?_,?_,?_,?_,?_,?_,U⟩ ⟨?e5_1_0,?e5_1_1,?e5_1_2,U⟩ ⟨.old 2 3 _,.old 3 1 _,.eff 2 8 4 (fun(g:Value×Value)=>g.2) Y Y (fun _=>Y) (fun _ _ hx=>Zbr (hx.2.1 _ (mo 0 Y))),U⟩ ?n5_1)
  exact oX Y fun hx hl=>ZV Y (hl.env 0 4 _ Y Y) hx
  exact oX Y fun hx hl=>ZG Zkj Y (hl.env 2 3 _ Y Y) hx
  exact oX Y fun hx hl=>ZB Qx Y (hl.D 1 17 Y Y) hx
  exact oY Y fun hk hx hl=>YI Zj Zbn Y (hl.D 2 18 Y Y) (Zk hS _ hk hx _ nlr) (jo hJ hx)
  exact Zh Y
  exact oX Y fun hx hl=>ZG Zkl Y (hl.env 3 1 _ Y Y) hx
  exact oX Y fun hx hl=>ZB Qy Y (hl.D 5 21 Y Y) hx
  exact Zh Y
  exact Zh Y
  case e5_1_0=>exact⟨_,Y,Y,Y,Y,fun g _ w hk hx hl _=>Zl (ZbU (f:=ZbZ) (([]:List BA)++([s.label])) ([(⟨#[36,112]⟩:BA)]) (fun _=>rfl) Qu hJ hJ0 Y hk hx (hl.D 0 16 Y Y).lit (hl.D 3 19 Y Y) (by first | omega | (simp;done) | (simp;omega)) (by first | omega | (simp;done) | (simp;omega))) fun v w' hp=>⟨(v,g.2),Y,fun k' hk'=>absurd hk' (Nat.not_lt_zero _),fun _=>rfl,hp⟩⟩
  case e5_1_1=>exact⟨_,Y,Y,Y,Y,fun g _ w hk hx hl hs=>Zl (ZbU (f:=ZbZ) ((([]:List BA)++([s.label]))++([(⟨#[36,112]⟩:BA)])) s.text (fun _=>rfl) Qu hJ hJ0 Y hk hx (hs 0 4 _ 20 oz Y Y Y) (hl.D 6 22 Y Y) (by first | omega | (simp;done) | (simp;omega)) (by first | omega | (simp;done) | (simp;omega))) fun v w' hp=>⟨(g.1,v),Y,fun k' hk'=>by rcases k' with _ | _ | _ | k'<;>first | rfl | omega,fun _=>rfl,hp⟩⟩
  case e5_1_2=>exact⟨_,Y,Y,Y,Y,fun g _ w hk hx _ hs=>Zl (Zd1 (.inl Y) (hs 1 7 _ 23 oz Y Y Y) hk hx) fun v w' hp=>⟨g,Y,fun _ _=>rfl,fun _=>hp.1,hp.2⟩⟩
  clear a w h
  rintro⟨v3,v4⟩
  dsimp only[List.map]
  refine nx (Zf (qso tb hJ [0,1,2,1002] U3 U4 ?_))
  refine cj 3 (fun hb2=>?_) fun hb2=>?_
  ·
   refine fun a w h=>Zbt [] (γ:=Value×Value) (fun ix'=>([.lit v4,.rd (Zg ([(⟨#[36,61]⟩:BA)])),.any,.ptr [Zg s.proof],.rd (Zg s.proof),.any,.any]:List AV).getD ix' .any) (fun _=>true) [(3,fun _=>.ptr [lS (⟨#[36,112]⟩:BA),lB true,lI (1:Int),lI (200:Int)]),(4,fun g=>.lit g.2)] (fun j' g=>match j' with | 0=>[OB.row v4 9 1 ((((([]:List BA)++([s.label]))++([(⟨#[36,112]⟩:BA)]))++s.text).map ZbZ)] | 1=>[OB.row g.1 9 1 (((((([]:List BA)++([s.label]))++([(⟨#[36,112]⟩:BA)]))++s.text)++([(⟨#[36,61]⟩:BA)])).map ZbZ)] | _=>[OB.row g.2 9 1 ((((((([]:List BA)++([s.label]))++([(⟨#[36,112]⟩:BA)]))++s.text)++([(⟨#[36,61]⟩:BA)]))++s.proof).map ZbZ)]) (fun k' g=>match k' with | 0=>g.1 | 1=>g.2 | 2=>g.2 | _=>undef) [2,5,6] 3 ((.slice none 0 0),(.slice none 0 0)) (fun _=>Y) h hJ Yo Y Y Y Y Y Y hsb ⟨?_,?_,?_,?_,?_,?_,?_,U⟩ ⟨?e7_2_0,?e7_2_1,?e7_2_2,U⟩ ⟨.old 0 3 _,.eff 2 6 4 (fun(g:Value×Value)=>g.2) Y Y (fun _=>Y) (fun _ _ hx=>Zbr (hx.2.1 _ (mo 0 Y))),U⟩ ?n7_2
   exact oX Y fun hx hl=>ZV Y (hl.env 2 4 _ Y Y) hx
   exact fun _ O' _=>⟨Y,fun _ _ hk hx _ _=>YI Zj Zbn Y (Rel.of_lit (.string { data:= #[36,61] }) (lb Y)) (Zk hS _ hk hx _ nlr) (jo hJ hx)⟩
   exact Zh Y
   exact oX Y fun hx hl=>ZG Zkk Y (hl.env 1 1 _ Y Y) hx
   exact oX Y fun hx hl=>ZB Qy Y (hl.D 3 30 Y Y) hx
   exact Zh Y
   exact Zh Y
   case e7_2_0=>exact⟨_,Y,Y,Y,Y,fun g _ w hk hx hl _=>Zl (ZbU (f:=ZbZ) (((([]:List BA)++([s.label]))++([(⟨#[36,112]⟩:BA)]))++s.text) ([(⟨#[36,61]⟩:BA)]) (fun _=>rfl) Qu hJ hJ0 Y hk hx (hl.D 0 27 Y Y).lit (hl.D 1 28 Y Y) (by first | omega | (simp;done) | (simp;omega)) (by first | omega | (simp;done) | (simp;omega))) fun v w' hp=>⟨(v,g.2),Y,fun k' hk'=>absurd hk' (Nat.not_lt_zero _),fun _=>rfl,hp⟩⟩
   case e7_2_1=>exact⟨_,Y,Y,Y,Y,fun g _ w hk hx hl hs=>Zl (ZbU (f:=ZbZ) ((((([]:List BA)++([s.label]))++([(⟨#[36,112]⟩:BA)]))++s.text)++([(⟨#[36,61]⟩:BA)])) s.proof (fun _=>rfl) Qu hJ hJ0 Y hk hx (hs 0 2 _ 29 oz Y Y Y) (hl.D 4 31 Y Y) (by first | omega | (simp;done) | (simp;omega)) (by first | omega | (simp;done) | (simp;omega))) fun v w' hp=>⟨(g.1,v),Y,fun k' hk'=>by rcases k' with _ | _ | _ | k'<;>first | rfl | omega,fun _=>rfl,hp⟩⟩
   case e7_2_2=>exact⟨_,Y,Y,Y,Y,fun g _ w hk hx _ hs=>Zl (Zd1 (.inl Y) (hs 1 5 _ 32 oz Y Y Y) hk hx) fun v w' hp=>⟨g,Y,fun _ _=>rfl,fun _=>hp.1,hp.2⟩⟩
   clear a w h
   rintro⟨v5,v6⟩
   dsimp only[List.map]
   refine nx (Zf (qso tb hJ [1,1002] U3 U2 ?_))
   refine cj 1 (fun hb3=>?_) fun hb3=>?_
   ·
    refine ZO (snK 1 tb Y (sy (.rd (Zg ([(⟨#[36,46]⟩:BA)]))) (fun h=>YI Zj Zbn Y (Rel.of_lit (.string { data:= #[36,46] }) (lb Y)) (Zk hS _ h.keep h.x _ nlr) (jo hJ h.x)) ?_))
    refine YD (f:=ZbZ) (m:=1) (s:=36) (((((([]:List BA)++([s.label]))++([(⟨#[36,112]⟩:BA)]))++s.text)++([(⟨#[36,61]⟩:BA)]))++s.proof) ([(⟨#[36,46]⟩:BA)]) (fun _=>Y) Qu hJ hJ0 Y Y Y (lb Y) Y Y (fun a w h=>(h.get 0 Y)) (by first | omega | (simp;done) | (simp;omega)) (by first | omega | (simp;done) | (simp;omega)) fun v7=>?_
    refine snK 1 tb Y (seK [0,2] U2 Y ?_)
    refine nx (ln 1 fun hl2=>?_)
    refine qso tb hJ [1001] U2 [_] ?_
    exact tw (fun h=>Ya hS h (m:=0) (s:=2) Y) (tRo 0 (hE:=congrArg (fun z=>AV.rd (Zg z)) (show((((((([]:List BA)++([s.label]))++([(⟨#[36,112]⟩:BA)]))++s.text)++([(⟨#[36,61]⟩:BA)]))++s.proof)++([(⟨#[36,46]⟩:BA)]))=(wd7 s)from by simp[wd7])))
   ·
    exact False.elim (by simp at hb3)
  ·
   exact False.elim (by simp[h7]at hb2)
 ·
  exact False.elim (by cases hb1)
end
theorem ZnW (s:Sm):(wd7 s).length=s.text.length+s.proof.length+4:=by simp[wd7];omega
theorem Zwg {J:WP} (hJ:Stab J) (l:List Sm) (hG:Xm J) (h1:l.length=1) (h7:(ge l 0).kind=7) (hl:(ge l 0).text.length+(ge l 0).proof.length≤100):Fn prog J 220 [.rd (stsC l)] (.tup [.rd (Zg (if fm7 (ge l 0)then wd7 (ge l 0)else [])),.int (if fm7 (ge l 0)then 0 else 2:Int)]):=by
 refine fE Tryz.func220 fun S w0 hS hJ0=>?_
 refine tw Z4 (ln 0 fun hl1=>?_)
 refine qso tb hJ [0] U2 [_] ?_
 refine Zf (ZF tb hJ [0,1002] [_,.int (l.length:Nat),_] [1] U2 Y ⟨Ym Zbo,U⟩ ?_)
 refine cj 1 (fun hb1=>?_) fun hb1=>?_
 ·
  exact False.elim (by rw[h1]at hb1;exact absurd hb1 dz)
 ·
  refine Zb (nx (Zf (ZF tb hJ [0,1001] [_,.bool (l.any (fun s'=>!fm7 s'))] [1] U2 Y ⟨fun _ _ hk hx hl _=>Y3 (ZeF hJ l 246 [] [] (fun s'=>!fm7 s') (fun q' hq'=>(Zsa hJ q' hG (by obtain⟨j,hj,rfl⟩:=Xc hq';obtain rfl:j=0:=oz;exact h7)).r) (Ztu)) Ztv Y (Zk hS _ hk hx) (hx.1) Zq (Za (hl.D 0 10 Y Y) (Za (Qt 246) Zc)) (jo hJ hx),U⟩ ?_)))
  refine cj 1 (fun hb2=>?_) fun hb2=>?_
  ·
   have e2:fm7 (ge l 0)=false:=by obtain⟨x,hx,hn⟩:=List.any_eq_true.1 hb2;obtain⟨q,hq,rfl⟩:=Xc hx;obtain rfl:q=0:=oz;simpa using hn
   refine qso tb hJ [1000,1001] U2 U2 ?_
   exact tw (fun h=>Xx h (m:=0) (s:=2) Y) (Zs (fun a w h=>Yz (m:=0) (k:=1) Y (ZY h) Y Y (congrArg (fun z=>AV.rd (Zg z)) (show([]:List BA)=(if fm7 (ge l 0)then wd7 (ge l 0)else [])from by first | (rw[e2];rfl) | (rw[f1_2,if_neg oz,e2];rfl))) (eI (by first | (rw[e2];rfl) | (rw[f1_2,if_neg oz,e2];rfl)))))
  ·
   have e2:fm7 (ge l 0)=true:=by have:=List.any_eq_false.1 hb2 (ge l 0) (Zp oz);simpa using this
   refine Zb (nx (qso tb hJ [0,1000] [_] U2 ?_))
   refine Zf (ZF tb hJ [1,1000,1001,1002] [_,.int (l.length:Nat),_] [1] U4 Y ⟨Ym Zbo,U⟩ ?_)
   refine Zd (tw (Yd 9 1 hJ) (lpo (ι:=Nat×Value×(List BA)) (fun(k,_,out)=>(k≤l.length)∧(out=if k=0 then []else wd7 (ge l 0))) (fun(_,vo,out)=>[OB.row vo 9 1 (out.map ZbZ)]) (fun(k,vo,_)=>[(14,.int (k:Nat)),(4,.lit vo)]) (fun(k,_,_)=>l.length-k) [1,2,3,0] U2 (0,(.slice none 0 0),([]:List BA)) ⟨nzl,Y⟩ ?_))
   rintro⟨k,vo,out⟩ ⟨f1_1,f1_2⟩
   refine qso tb hJ [0,1,2,3,1000] [_] U5 ?_
   refine cjS 4 (fun hb3=>?_) fun hb3=>?_
   ·
    try simp at hb3
    have e0:k=0:=by omega
    have e1:k=0→out=[]:=fun e=>by rw[f1_2,if_pos e]
    have e5:=ZnW (ge l k)
    refine Zb (nx (Zf (Zd (tsq (sy (.ptr (stC (ge l k))) (fun h=>ZM (i:=(k:Int)) ZaA Y (h.get 0 Y) (h.get 2 Y) nnn (ZT (xs:=l) (k:=k) sfz) Y h.x) ?_)))))
    refine snK 1 tb Y (Qk (cs:=stC (ge l k)) Zn3 Y Y Y (lb Y) Y Y Y dz (m:=0) Y Y (fun a w h=>Zk hS _ h.keep h.x _ nlr) (fun a w h w' hk'=>Yw hJ _ _ hk' h.x) ?_)
    refine seK [0,3,4,5,6] U5 Y (nx (tsq ?_))
    refine snK 2 tb Y (sy (.rd (Zg (wd7 (ge l k)))) (fun h=>ZaL (Zo4 hJ (ge l k) (hG) (by rw[e0];exact h7) (by rw[e0];exact hl)) Zts Y (Zk hS _ h.keep h.x) (h.x.1) (Za (h.get 0 Y) Zc) (jo hJ h.x)) ?_)
    refine YD (f:=ZbZ) (m:=2) (s:=18) out (wd7 (ge l k)) (fun _=>Y) Qu hJ hJ0 Y Y Y (lb Y) Y Y (fun a w h=>(h.get 0 Y)) (by rw[e1 e0,e5,e0];simp only[List.length_nil];omega) (by rw[e1 e0,e5,e0];simp only[List.length_nil];omega) fun v1=>?_
    refine snK 1 tb Y (seK [0,2,6,7,8] U5 Y ?_)
    refine nx (ln 1 fun hl2=>?_)
    refine ZsP tb hJ [0,2,3,4,1002] [_,.int ((out++(wd7 (ge l k))).length:Nat),_] [1] U5 Y ⟨fun _ _ _ hx hl _=>Qw ZA Y (XY hS hx (mo 0 Y) (hl.D 0 22 Y Y)) hx,U⟩ ?_
    refine cj 4 (fun hb4=>?_) fun hb4=>?_
    ·
     exact False.elim (by have:=ZnW (ge l k);rw[e0]at this;simp only[List.length_append,e1 e0,e0,decide_eq_true_eq]at hb4;simp at hb4;omega)
    ·
     refine Zb (nx (YU tb hJ [0,1,2,1001] [.int (k+1:Nat),_] [0] U4 Y ⟨YT,U⟩ ?_))
     exact Xk (k+1,v1,out++(wd7 (ge l k))) [1,2,3,0] ⟨oz,by rw[e1 e0,e0];simp⟩
   ·
    try simp at hb3
    refine Zu (nx (qso tb hJ [1001,1002] U3 U2 ?_))
    exact tw (fun h=>Ya hS h (m:=0) (s:=2) Y) (Zs (fun a w h=>Yz (m:=0) (k:=1) Y (ZY h) Y Y (congrArg (fun z=>AV.rd (Zg z)) (show out=(if fm7 (ge l 0)then wd7 (ge l 0)else [])from by first | (rw[e2];rfl) | (rw[f1_2,if_neg oz,e2];rfl))) (eI (by first | (rw[e2];rfl) | (rw[f1_2,if_neg oz,e2];rfl)))))
theorem fm7_x (s:BA):fm7 ⟨7,⟨#[120]⟩,[⟨#[120]⟩],[s]⟩=Qe s:=by
 have h1:ZiI ⟨#[120]⟩=true:=by decide+kernel
 have h2:ZfP ⟨#[120]⟩=true:=by decide+kernel
 simp[fm7,h1,h2]
theorem Zo8 {J:WP} (hJ:Stab J) (s:BA) (hG:Xm J):Fn prog J 178 [.str s] (.bool (Qe s)):=by
 refine fE Tryz.func178 fun S w0 hS hJ0=>?_
 refine tw Z4 (qso tb hJ [0] [_] [_] ?_)
 refine ZF tb hJ [1000,1002,1004,1007,1009,1010] [.rd (Zg ([(⟨#[120]⟩:BA)])),_,.rd (Zg ([s])),.agg (stC (⟨(7:Int),(⟨#[120]⟩:BA),[(⟨#[120]⟩:BA)],[s]⟩:Sm)),.rd (stsC ([(⟨(7:Int),(⟨#[120]⟩:BA),[(⟨#[120]⟩:BA)],[s]⟩:Sm)])),.tup [.rd (Zg (if fm7 (ge ([(⟨(7:Int),(⟨#[120]⟩:BA),[(⟨#[120]⟩:BA)],[s]⟩:Sm)]) 0)then wd7 (ge ([(⟨(7:Int),(⟨#[120]⟩:BA),[(⟨#[120]⟩:BA)],[s]⟩:Sm)]) 0)else [])),.int (if fm7 (ge ([(⟨(7:Int),(⟨#[120]⟩:BA),[(⟨#[120]⟩:BA)],[s]⟩:Sm)]) 0)then 0 else 2:Int)],_,_,_,_,_] [0,2,3,4,5] U6 Y ⟨fun _ _ hk hx _ _=>YI Zj Zbn Y (Rel.of_lit (.string { data:= #[120] }) (lb Y)) (Zk hS _ hk hx _ nlr) (jo hJ hx),fun _ _ hk hx hl _=>YI Zj Zbn Y (hl.D 1 7 Y Y) (Zk hS _ hk hx _ nlr) (jo hJ hx),fun a _ _ hx hl _=>XR (us:=[a.eval (.const (.int .i64 7)),a.eval (.const (.string { data:= #[120] })),a.eval (.tmp 6),a.eval (.tmp 8)]) ZkH Y yz (Zt (Rel.of_lit (.int .i64 7)) (Zt (Rel.of_lit (.string { data:= #[120] }) (lb Y)) (Zt (hl.D 0 6 Y Y) (Zt (hl.D 2 8 Y Y) Z0)))) Y hx,fun _ _ hk hx hl _=>ZoS ZaA Zrl Y Y (hl.D 3 9 Y Y) (Zk hS _ hk hx _ nlr) (jo hJ hx),iFo hS hJ (Zwg hJ ([(⟨(7:Int),(⟨#[120]⟩:BA),[(⟨#[120]⟩:BA)],[s]⟩:Sm)]) (hG) (Y) (Y) (lb Y)) ZtB,U⟩ ?_
 refine ln 0 fun hl1=>?_
 refine ln 1 fun hl2=>?_
 refine ln 2 fun hl3=>?_
 refine ln 3 fun hl4=>?_
 refine qso tb hJ [1002] U3 [_] ?_
 exact tRo 0 (hE:=eB (by rw[←fm7_x s];simp only[ge,List.getD_cons_zero];cases fm7 ⟨7,⟨#[120]⟩,[⟨#[120]⟩],[s]⟩<;>simp))
end Go.Proofs.YtdfadihhfppjaaaGreatDoor
set_option maxHeartbeats 8000000
set_option maxRecDepth 100000
namespace Go.Proofs.YtdfadihhfppjaaaGreatDoor
open Go.RowKit
theorem Zo6 {J:WP} (hJ:Stab J) (M1 M2:Nat) (M3 M4 M5:Nat) (d:Db)  :FnM (ι:= { p':List BA×List BA // Zdu d=0→p'=(d.consts,d.vars) }) Tryz.prog J 137 [] [.ptr (mpC [M1,M2,M3,M4,M5]),.agg (dbC d)] [OB.set keyS M1 ([]:List BA),OB.set keyS M2 ([]:List BA)] (fun _=>.int (Zdu d)) (fun i'=>[OB.set keyS M1 (i'.1.1),OB.set keyS M2 (i'.1.2)]):=by
 refine fEM Tryz.func137 fun S w0 R hS hJ0 hH=>?_
 refine YS (B:=So J S w0 50 (OB.set keyS M1 ([]:List BA)::OB.set keyS M2 ([]:List BA)::R) [(0,.ptr (mpC [M1,M2,M3,M4,M5])),(1,.agg (dbC d))]) ?_ fun a w h=>h
 refine ZF tb hJ [0,1000] [.ptr (dbC d),_] [0] U2 Y ⟨iBo hS hJ,U⟩ ?_
 refine Zf (ZF tb hJ [0,1,1001,1002,1003] [_,_,.int (d.consts.length:Nat),_] [2] U5 Y ⟨Ym ZA,U⟩ ?_)
 refine ln 2 fun hl1=>?_
 refine Zd (lpo (ι:=Nat×(List BA)) (fun(k,cs)=>(k≤d.consts.length)∧(cs=d.consts.take k)∧(∀ j,j<k→ZhI d j=0)) (fun(_,cs)=>(OB.set keyS M1 cs::OB.set keyS M2 ([]:List BA)::R)) (fun(k,_)=>[(12,.int (k:Nat))]) (fun(k,_)=>d.consts.length-k) (r5 []) U4 (0,([]:List BA)) ⟨nzl,Y,fun j hj=>by omega⟩ ?_)
 rintro⟨k,cs⟩ ⟨f1_1,f1_2,f1_3⟩
 refine qso tb hJ (r5 [1000]) [_] U6 ?_
 refine cjS 5 (fun hb1=>?_) fun hb1=>?_
 ·
  try simp at hb1
  refine Zb (nx (Zf (Zd (ZF tb hJ (r5 [1002]) [.ptr [lS (ge d.consts k)],_,_] [0] U6 Y ⟨iIx Zj,U⟩ ?_))))
  refine Zf (ZF tb hJ (r6 [1002]) [_,.bool (ZfP (ge d.consts k)),_] [1] U7 Y ⟨iFo hS hJ (Zdd hJ (ge d.consts k)) Zhq,U⟩ ?_)
  refine cj 6 (fun hb2=>?_) fun hb2=>?_
  ·
   try simp at hb2
   have q2:ZhI d k=2:=by simp[ZhI,hb2]
   have e9:Zdu d=2:=Zuz oz f1_3 (by rw[q2];decide) q2
   refine qso tb hJ [1000] [_] [_] ?_
   exact Zs (fun a w h=>ZK  (m:=0) ⟨(cs,([]:List BA)),by first | (intro h9;rw[e9]at h9;exact absurd h9 dz) | (intro _;rw[e1c,f2_2,ZX oz])⟩ Y h Y (eI (e9.symm)))
  ·
   try simp at hb2
   refine Zb (nx (Zf (ZF tb hJ (r6 [1005]) (V5 [.bool (decide ((ge d.consts k)∈cs))]) [5] U7 Y ⟨fun _ _ _ hx hl _=>YM (Kd:=keyS) (xs:=cs) ZR Yf (ge d.consts k) Y (Ze hx (mo 0 Y)) (hl.D 3 22 Y Y) (hl.D 4 23 Y Y) hx,U⟩ ?_)))
   refine cj 6 (fun hb3=>?_) fun hb3=>?_
   ·
    try simp at hb3
    have q2:ZhI d k=6:=by simp[ZhI,hb2,←f1_2,hb3]
    have e9:Zdu d=6:=Zuz oz f1_3 (by rw[q2];decide) q2
    refine qso tb hJ [1000] [_] [_] ?_
    exact Zs (fun a w h=>ZK  (m:=0) ⟨(cs,([]:List BA)),by first | (intro h9;rw[e9]at h9;exact absurd h9 dz) | (intro _;rw[e1c,f2_2,ZX oz])⟩ Y h Y (eI (e9.symm)))
   ·
    try simp at hb3
    refine Zb (nx (ZO (snK 5 tb Y (Zc8 ZR hJ hJ0 (ge d.consts k) Y Y (.inl Y) (fun a w h=>⟨(h.get 1 Y),(h.get 0 Y),(Rel.of_lit (.bool true))⟩) ?_))))
    refine seK [5,6,7,8,9] U5 Y (nx (YU tb hJ [0,1,2,3,1001] [.int (k+1:Nat),_] [0] U5 Y ⟨YT,U⟩ ?_))
    exact Xk (k+1,QE cs (ge d.consts k)) (r5 []) ⟨oz,by rw[ZZ oz,←f1_2];simp[QE,hb3],Z2 f1_3 (by simp[ZhI,hb2,←f1_2,hb3])⟩
 ·
  try simp at hb1
  have e1c:cs=d.consts:=by rw[f1_2,ZX oz]
  have e1:Xy d.consts.length (ZhI d)=0:=ZaW fun j hj=>f1_3 j oz
  refine Zu (nx (Zf (ZF tb hJ [0,1001,1002,1003] [_,_,.int (d.vars.length:Nat),_] [2] U4 Y ⟨Ym ZA,U⟩ ?_)))
  refine ln 1 fun hl2=>?_
  refine Zd (lpo (ι:=Nat×(List BA)) (fun(k,vs)=>(k≤d.vars.length)∧(vs=d.vars.take k)∧(∀ j,j<k→ZkU d j=0)) (fun(_,vs)=>(OB.set keyS M1 cs::OB.set keyS M2 vs::R)) (fun(k,_)=>[(34,.int (k:Nat))]) (fun(k,_)=>d.vars.length-k) [0,1,2,3] U3 (0,([]:List BA)) ⟨nzl,Y,fun j hj=>by omega⟩ ?_)
  rintro⟨k,vs⟩ ⟨f2_1,f2_2,f2_3⟩
  refine qso tb hJ [0,1,2,3,1000] [_] U5 ?_
  refine cjS 4 (fun hb4=>?_) fun hb4=>?_
  ·
   try simp at hb4
   refine Zb (nx (Zf (Zd (ZF tb hJ [0,1,2,3,1002] [.ptr [lS (ge d.vars k)],_,_] [0] U5 Y ⟨iIx Zj,U⟩ ?_))))
   refine Zf (ZF tb hJ (r5 [1002]) [_,.bool (ZfP (ge d.vars k)),_] [1] U6 Y ⟨iFo hS hJ (Zdd hJ (ge d.vars k)) Zhq,U⟩ ?_)
   refine cj 5 (fun hb5=>?_) fun hb5=>?_
   ·
    try simp at hb5
    have q5:ZkU d k=2:=by simp[ZkU,hb5]
    have e9:Zdu d=2:=Zuy e1 oz f2_3 (by rw[q5];decide) q5
    refine qso tb hJ [1000] [_] [_] ?_
    exact Zs (fun a w h=>ZK  (m:=0) ⟨(cs,vs),by first | (intro h9;rw[e9]at h9;exact absurd h9 dz) | (intro _;rw[e1c,f2_2,ZX oz])⟩ Y h Y (eI (e9.symm)))
   ·
    try simp at hb5
    refine Zb (nx (Zf (ZF tb hJ (r5 [1002]) [_,_,.bool (decide ((ge d.vars k)∈cs)||decide ((ge d.vars k)∈vs))] [2] U6 Y ⟨fun _ _ hk hx hl _=>Y3 (ZbO hJ M1 M2 M3 M4 M5 cs vs (ge d.vars k)) Zd6 Y (Zk hS _ hk hx) (hx.1) (ZH (Ze hx (mo 0 Y)) (ZH (Ze hx (mo 1 Y)) Zq)) (Za (hl.D 0 41 Y Y) (Za (hl.D 1 42 Y Y) Zc)) (jo hJ hx),U⟩ ?_)))
    refine cj 5 (fun hb6=>?_) fun hb6=>?_
    ·
     try simp at hb6
     have q5:ZkU d k=6:=by rw[ZkU,if_neg (by simp[hb5]),if_pos (by rw[←f2_2,←e1c];simpa using hb6)]
     have e9:Zdu d=6:=Zuy e1 oz f2_3 (by rw[q5];decide) q5
     refine qso tb hJ [1000] [_] [_] ?_
     exact Zs (fun a w h=>ZK  (m:=0) ⟨(cs,vs),by first | (intro h9;rw[e9]at h9;exact absurd h9 dz) | (intro _;rw[e1c,f2_2,ZX oz])⟩ Y h Y (eI (e9.symm)))
    ·
     try simp at hb6
     refine Zb (nx (ZO (snK 5 tb Y (kw pm1 ?_))))
     refine Zc8 ZR hJ hJ0 (ge d.vars k) Y Y (.inl Y) (fun a w h=>⟨(h.get 1 Y),(h.get 0 Y),(Rel.of_lit (.bool true))⟩) ?_
     refine seK [5,6,7,8] U4 Y (nx (YU tb hJ [0,1,2,1001] [.int (k+1:Nat),_] [0] U4 Y ⟨YT,U⟩ ?_))
     exact kw pm1 (Xk (k+1,QE vs (ge d.vars k)) [0,1,2,3] ⟨oz,by rw[ZZ oz,←f2_2];simp only[QE];rw[if_neg hb6.2],Z2 f2_3 (by rw[ZkU,if_neg (by simp[hb5]),if_neg (by rw[←f2_2,←e1c];simpa using hb6)])⟩)
  ·
   try simp at hb4
   have e9:Zdu d=0:=ZvG e1 (ZaW fun j hj=>f2_3 j oz)
   refine Zu (nx (qso tb hJ [1000] [_] [_] ?_))
   exact Zs (fun a w h=>ZK  (m:=0) ⟨(cs,vs),by first | (intro h9;rw[e9]at h9;exact absurd h9 dz) | (intro _;rw[e1c,f2_2,ZX oz])⟩ Y h Y (eI (e9.symm)))
theorem p_hyp {J:WP} (hJ:Stab J) (M1 M2:Nat) (M3 M4:Nat) (M5 L1 T1:Nat) (cs vs fs:List BA) (hm:List (BA×Hy)) (tm:List (BA×BA)) (ls:List BA) (ts:List (BA×BA)) (y:Hy) (dm:Bool)  :FnR Tryz.prog J 174 [OB.set keyS M1 cs,OB.set keyS M2 vs,OB.set keyS M3 fs,OB.mH M4 hm,OB.mT M5 tm,OB.set keyS L1 ls,OB.mT T1 ts] [.ptr (mpC [M1,M2,M3,M4,M5]),.agg [.lit (.map (some L1)),.lit (.map (some T1))],.agg (hyC y),.bool dm] (.int (Zg8 cs vs fs hm tm ls ts y dm)):=by
 refine fER Tryz.func174 fun S w0 hS hJ0 hH=>?_
 refine tw Z4 (ZF tb hJ [0,3,1000,1001] [.ptr (mpC [L1,T1]),.ptr (hyC y),_] [0,1] U4 Y ⟨iBo hS hJ,iBo hS hJ,U⟩ ?_)
 refine Zf (ZF tb hJ [0,2,3,1038] [_,_,.bool (ZiI y.label),_,_,_,_,_,_,_,_,_,_,_,_,_,_,_,.int (y.text.length:Nat),_,_,_,_,_,_,_,_,_,_,.int (y.text.length:Nat),_,_,_,_,.int (y.text.length:Nat),_,_,_,_] [2,18,29,34] U4 Y ⟨iFo hS hJ (ZeE hJ y.label) Zhp,Ym ZA,Ym ZA,Ym ZA,U⟩ ?_)
 refine cj 3 (fun hb1=>?_) fun hb1=>?_
 ·
  replace hb1:ZaS y dm=true:=hb1
  refine qso tb hJ [1000] [_] [_] ?_
  exact tRo 0 (hE:=eI (by grind[Zg8]))
 ·
  replace hb1:ZaS y dm=false:=hb1
  have hy1:=Zp3 hb1
  refine Zb (nx (Zf (ZF tb hJ [0,1,2,1019] (V3 [.bool (decide (y.label∈cs)||decide (y.label∈vs)),_,_,_,_,_,_,_,.bool (decide (y.label∈fs)),_,_,_,_,_,_,.bool (decide (y.label∈ls)),_]) [3,11,18] U4 Y ⟨fun _ _ hk hx hl _=>Y3 (ZbO hJ M1 M2 M3 M4 M5 cs vs y.label) Zd6 Y (Zk hS _ hk hx) (hx.1) (ZH (ZJ hH hk hx (mo 0 Y)) (ZH (ZJ hH hk hx (mo 1 Y)) Zq)) (Za (hl.D 0 55 Y Y) (Za (hl.D 2 57 Y Y) Zc)) (jo hJ hx),fun _ _ hk hx hl hc=>YM (Kd:=keyS) (xs:=fs) ZR Yf y.label Y (ZJ hH hk hx (mo 2 Y)) (hl.D 8 63 Y hc) (hl.D 10 65 Y hc) hx,fun _ _ hk hx hl hc=>YM (Kd:=keyS) (xs:=ls) ZR Yf y.label Y (ZJ hH hk hx (mo 5 Y)) (hl.D 15 70 Y hc) (hl.D 17 72 Y hc) hx,U⟩ ?_)))
  refine cj 3 (fun hb2=>?_) fun hb2=>?_
  ·
   refine qso tb hJ [1000] [_] [_] ?_
   exact tRo 0 (hE:=eI (by grind[Zg8]))
  ·
   refine Zb (nx (Zf (qso tb hJ [0,1,2,1001] U2 U4 ?_)))
   refine cj 3 (fun hb3=>?_) fun hb3=>?_
   ·
    refine Zf (ZF tb hJ [0,1,2,1005,1021] (V6 [.ptr [lS (ge y.text 0)],_,.bool (decide ((ge y.text 0)∈cs)),_,_,_,_,_,_,_,_,.ptr [lS (ge y.text 1)],_,.bool (decide ((ge y.text 1)∈vs)),_,_]) [6,8,17,19] U5 Y ⟨iIx (k:=0) Zj (hk:=by have:=YN hb1 hb3;omega),fun _ _ hk hx hl _=>YM (Kd:=keyS) (xs:=cs) ZR Yf (ge y.text 0) Y (ZJ hH hk hx (mo 0 Y)) (hl.D 3 80 Y Y) (hl.D 7 84 Y Y) hx,gIx (k:=1) Zj (hk:=fun(hc':((!(decide ((ge y.text 0)∈cs)))==false)=true)=>by(try simp at hc');have:=YN hb1 hb3;omega),fun _ _ hk hx hl hc=>YM (Kd:=keyS) (xs:=vs) ZR Yf (ge y.text 1) Y (ZJ hH hk hx (mo 1 Y)) (hl.D 14 91 Y hc) (hl.D 18 95 Y hc) hx,U⟩ ?_)
    refine ln 3 fun hl1=>?_
    refine cj 4 (fun hb4=>?_) fun hb4=>?_
    ·
     refine qso tb hJ [1000] [_] [_] ?_
     exact tRo 0 (hE:=eI (by grind[Zg8]))
    ·
     refine Zb (nx (ZF tb hJ [0,2,1010,1011] (V4 [.ptr [lS (ge y.text 1)],_,.tup [.str ((Zy ts (ge y.text 1)).getD default),.bool ((Zy ts (ge y.text 1)).isSome)],_,_,_,_,_]) [4,6] U4 Y ⟨iIx (k:=1) Zj (hk:=by have:=YN hb1 hb3;omega),fun _ _ hk hx hl _=>XD (Kd:=keyS) (f:=(fun z':BA=>AV.str z')) (L:=ts) Zar Zee (ge y.text 1) Y (ZJ hH hk hx (mo 6 Y)) (hl.D 1 101 Y Y) (hl.D 5 105 Y Y) hx,U⟩ ?_))
     refine Zf (ZF tb hJ [0,1,2,3,1012,1013] (V6 [.ptr [lS (ge y.text 1)],_,.tup [.str ((Zy tm (ge y.text 1)).getD default),.bool ((Zy tm (ge y.text 1)).isSome)],_,_,_,_,_]) [6,8] U6 Y ⟨iIx (k:=1) Zj (hk:=by have:=YN hb1 hb3;omega),fun _ _ hk hx hl _=>XD (Kd:=keyS) (f:=(fun z':BA=>AV.str z')) (L:=tm) Zar Zee (ge y.text 1) Y (ZJ hH hk hx (mo 4 Y)) (hl.D 3 113 Y Y) (hl.D 7 117 Y Y) hx,U⟩ ?_)
     refine ZF tb hJ [0,1,3,1019] (V5 [.ptr [lS (ge y.text 0)],_,_,_,_,_,_,_,_,_,.ptr [lS (ge y.text 0)],_,_,_,_]) [5,15] U4 Y ⟨gIx (k:=0) Zj (hk:=fun(hc':(((Zy tm (ge y.text 1)).isSome)==true)=true)=>by(try simp at hc');have:=YN hb1 hb3;omega),gIx (k:=0) Zj (hk:=fun(hc':(((((Zy tm (ge y.text 1)).isSome)&& (!decide (((Zy tm (ge y.text 1)).getD default)=(ge y.text 0))))==false)&& (((Zy ts (ge y.text 1)).isSome)==true))=true)=>by(try simp at hc');have:=YN hb1 hb3;omega),U⟩ ?_
     refine cj 3 (fun hb5=>?_) fun hb5=>?_
     ·
      refine qso tb hJ [1000] [_] [_] ?_
      exact tRo 0 (hE:=eI (by grind[Zg8]))
     ·
      refine Zb (nx (qso tb hJ [0,1,1000] [_] U3 ?_))
      refine cj 2 (fun hb6=>?_) fun hb6=>?_
      ·
       refine qso tb hJ [1000] [_] [_] ?_
       exact tRo 0 (hE:=eI (by grind[Zg8]))
      ·
       refine Zb (nx (Zf (Zf (fun a w h=>YH (γ:=Nat) (fun ix'=>([.ptr (mpC [M1,M2,M3,M4,M5]),.ptr (mpC [M1,M2,M3,M4,M5]),.ptr (mpC [M4,M5]),.lit (.map (some M4)),.ptr (hyC y),.str y.label,.tup [.agg (hyC ((Zy hm y.label).getD default)),.bool ((Zy hm y.label).isSome)],.tup [.agg (hyC ((Zy hm y.label).getD default)),.bool ((Zy hm y.label).isSome)],.agg (hyC ((Zy hm y.label).getD default)),.bool ((Zy hm y.label).isSome),.any,.any,.bool ((Zy hm y.label).isSome)]:List AV).getD ix' .any) (fun _=>true) [(6,fun _=>.ptr (hyC y)),(14,fun g=>.at g 0),(15,fun _=>.bool ((Zy hm y.label).isSome))] (fun j' g=>match j' with | 0=>[] | 1=>[OB.var g [lS (⟨#[]⟩:BA),lB false,Zg ([]:List BA)]] | _=>[OB.var g (hyC ((Zy hm y.label).getD default))]) (fun k' g=>match k' with | 0=>(.pointer (some ⟨g,0,none⟩)) | _=>undef) [10,11] 2 0 (fun _=>Y) h hJ Yo Y Y Y Y Y Y hsb ⟨?_,?_,?_,?_,?_,?_,?_,?_,?_,?_,?_,?_,?_,U⟩ ⟨?e17_1_0,?e17_1_1,U⟩ ⟨.old 1 6 _,.eff 0 10 14 (fun g=>(.pointer (some ⟨g,0,none⟩))) Y Y (fun _=>Y) (fun _=>True.intro),.new 12 15 _,U⟩ ?n17_1))))
       exact oX Y fun hx hl=>ZV Y (hl.env 0 0 _ Y Y) hx
       exact oX Y fun hx hl=>YE Y (hl.D 0 150 Y Y) hx
       exact oX Y fun hx hl=>ZG Q6 Y (hl.D 1 151 Y Y) hx
       exact oX Y fun hx hl=>ZB ZeJ Y (hl.D 2 152 Y Y) hx
       exact oX Y fun hx hl=>ZG Zbg Y (hl.env 1 6 _ Y Y) hx
       exact oX Y fun hx hl=>ZB Qx Y (hl.D 4 154 Y Y) hx
       exact oY Y fun hk hx hl=>XD (Kd:=keyS) (f:=(fun z':Hy=>AV.agg (hyC z'))) (L:=hm) XV Zah y.label Y (ZJ hH hk hx (mo 3 Y)) (hl.D 3 153 Y Y) (hl.D 5 155 Y Y) hx
       exact oX Y fun hx hl=>ZV Y (hl.D 6 156 Y Y) hx
       exact oX Y fun hx hl=>Yx Y (hl.D 7 149 Y Y) Y hx
       exact oX Y fun hx hl=>Yx Y (hl.D 7 149 Y Y) Y hx
       exact Zh Y
       exact Zh Y
       exact oX Y fun hx hl=>YA Y (hl.D 9 158 Y Y) hx
       case e17_1_0=>exact⟨_,Y,Y,Y,Y,fun g _ w hk hx _ _=>Zl (Qs Yy hJ Y hk hx) fun v w' ⟨g',hv,hp⟩=>⟨g',Y,fun k' hk'=>absurd hk' (Nat.not_lt_zero _),fun _=>hv,hp⟩⟩
       case e17_1_1=>exact⟨_,Y,Y,Y,Y,fun g _ w hk hx hl hs=>(by obtain⟨us2,hv2,hr3⟩:=Q0 (hl.D 8 157 Y Y);exact Zl (Xz (S':=S) (off:=0) (news:=U3) (es:=U3) (us:=us2) hJ hJ0 YQ Y hk hx (ZcA (hs 0 10 _ 14 oz Y Y Y)) (by rw[hv2];rfl) hr3 (lb Y) Y) fun v w' hp=>⟨g,Y,fun _ _=>rfl,fun e=>(by cases e),hp⟩)⟩
       clear a w h
       intro b1
       dsimp only[List.map]
       refine kw (fun h=>ZP hS h (m:=1) (s:=14) Y) (nx (ZF tb hJ [1006] (V4 [.bool (Zu3 ((Zy hm y.label).getD default) y),_,_]) [4] [_] Y ⟨iFo hS hJ (Zid hJ ((Zy hm y.label).getD default) y) Zmi,U⟩ ?_))
       refine cj 0 (fun hb8=>?_) fun hb8=>?_
       ·
        refine qso tb hJ [1000] [_] [_] ?_
        exact tRo 0 (hE:=eI (by grind[Zg8]))
       ·
        refine Zb (nx (qso tb hJ [1000] [_] [_] ?_))
        exact tRo 0 (hE:=eI (by grind[Zg8]))
   ·
    refine ZF tb hJ [0,2,1002,1004] (V3 [.int (ZmR cs vs y.text),_]) [3] U4 Y ⟨fun _ _ hk hx hl _=>Y3 (ZuL hJ M1 M2 M3 M4 M5 cs vs y.text) Zmk Y (Zk hS _ hk hx) (hx.1) (ZH (ZJ hH hk hx (mo 0 Y)) (ZH (ZJ hH hk hx (mo 1 Y)) Zq)) (Za (hl.D 0 142 Y Y) (Za (hl.D 2 144 Y Y) Zc)) (jo hJ hx),U⟩ ?_
    refine ln 2 fun hl2=>?_
    refine qso tb hJ [0,1,3,1001] U2 U4 ?_
    refine cj 3 (fun hb7=>?_) fun hb7=>?_
    ·
     refine qso tb hJ [1001] U2 [_] ?_
     exact tRo 0 (hE:=eI (by grind[Zg8]))
    ·
     refine Zb (nx (Zf (Zf (fun a w h=>YH (γ:=Nat) (fun ix'=>([.ptr (mpC [M1,M2,M3,M4,M5]),.ptr (mpC [M1,M2,M3,M4,M5]),.ptr (mpC [M4,M5]),.lit (.map (some M4)),.ptr (hyC y),.str y.label,.tup [.agg (hyC ((Zy hm y.label).getD default)),.bool ((Zy hm y.label).isSome)],.tup [.agg (hyC ((Zy hm y.label).getD default)),.bool ((Zy hm y.label).isSome)],.agg (hyC ((Zy hm y.label).getD default)),.bool ((Zy hm y.label).isSome),.any,.any,.bool ((Zy hm y.label).isSome)]:List AV).getD ix' .any) (fun _=>true) [(6,fun _=>.ptr (hyC y)),(14,fun g=>.at g 0),(15,fun _=>.bool ((Zy hm y.label).isSome))] (fun j' g=>match j' with | 0=>[] | 1=>[OB.var g [lS (⟨#[]⟩:BA),lB false,Zg ([]:List BA)]] | _=>[OB.var g (hyC ((Zy hm y.label).getD default))]) (fun k' g=>match k' with | 0=>(.pointer (some ⟨g,0,none⟩)) | _=>undef) [10,11] 2 0 (fun _=>Y) h hJ Yo Y Y Y Y Y Y hsb ⟨?_,?_,?_,?_,?_,?_,?_,?_,?_,?_,?_,?_,?_,U⟩ ⟨?e17_2_0,?e17_2_1,U⟩ ⟨.old 1 6 _,.eff 0 10 14 (fun g=>(.pointer (some ⟨g,0,none⟩))) Y Y (fun _=>Y) (fun _=>True.intro),.new 12 15 _,U⟩ ?n17_2))))
     exact oX Y fun hx hl=>ZV Y (hl.env 0 0 _ Y Y) hx
     exact oX Y fun hx hl=>YE Y (hl.D 0 150 Y Y) hx
     exact oX Y fun hx hl=>ZG Q6 Y (hl.D 1 151 Y Y) hx
     exact oX Y fun hx hl=>ZB ZeJ Y (hl.D 2 152 Y Y) hx
     exact oX Y fun hx hl=>ZG Zbg Y (hl.env 1 6 _ Y Y) hx
     exact oX Y fun hx hl=>ZB Qx Y (hl.D 4 154 Y Y) hx
     exact oY Y fun hk hx hl=>XD (Kd:=keyS) (f:=(fun z':Hy=>AV.agg (hyC z'))) (L:=hm) XV Zah y.label Y (ZJ hH hk hx (mo 3 Y)) (hl.D 3 153 Y Y) (hl.D 5 155 Y Y) hx
     exact oX Y fun hx hl=>ZV Y (hl.D 6 156 Y Y) hx
     exact oX Y fun hx hl=>Yx Y (hl.D 7 149 Y Y) Y hx
     exact oX Y fun hx hl=>Yx Y (hl.D 7 149 Y Y) Y hx
     exact Zh Y
     exact Zh Y
     exact oX Y fun hx hl=>YA Y (hl.D 9 158 Y Y) hx
     case e17_2_0=>exact⟨_,Y,Y,Y,Y,fun g _ w hk hx _ _=>Zl (Qs Yy hJ Y hk hx) fun v w' ⟨g',hv,hp⟩=>⟨g',Y,fun k' hk'=>absurd hk' (Nat.not_lt_zero _),fun _=>hv,hp⟩⟩
     case e17_2_1=>exact⟨_,Y,Y,Y,Y,fun g _ w hk hx hl hs=>(by obtain⟨us2,hv2,hr3⟩:=Q0 (hl.D 8 157 Y Y);exact Zl (Xz (S':=S) (off:=0) (news:=U3) (es:=U3) (us:=us2) hJ hJ0 YQ Y hk hx (ZcA (hs 0 10 _ 14 oz Y Y Y)) (by rw[hv2];rfl) hr3 (lb Y) Y) fun v w' hp=>⟨g,Y,fun _ _=>rfl,fun e=>(by cases e),hp⟩)⟩
     clear a w h
     intro b2
     dsimp only[List.map]
     refine kw (fun h=>ZP hS h (m:=1) (s:=14) Y) (nx (ZF tb hJ [1006] (V4 [.bool (Zu3 ((Zy hm y.label).getD default) y),_,_]) [4] [_] Y ⟨iFo hS hJ (Zid hJ ((Zy hm y.label).getD default) y) Zmi,U⟩ ?_))
     refine cj 0 (fun hb8=>?_) fun hb8=>?_
     ·
      refine qso tb hJ [1000] [_] [_] ?_
      exact tRo 0 (hE:=eI (by grind[Zg8]))
     ·
      refine Zb (nx (qso tb hJ [1000] [_] [_] ?_))
      exact tRo 0 (hE:=eI (by grind[Zg8]))
section
variable {J:WP} (hJ:Stab J)
include hJ
theorem Zsd (xs ys:List Pr)  :Fn Tryz.prog J 218 [.rd (X8 xs),.rd (X8 ys)] (.bool (decide (xs=ys))):=by
 refine fE Tryz.func218 fun S w0 hS hJ0=>?_
 clear hJ0
 refine ln 0 fun hl1=>?_
 refine ln 1 fun hl2=>?_
 refine qs tb hJ [0,1] [_] U2 ?_
 refine Zf (hqs tb hJ [0,1,1004] [_,.int (xs.length:Nat),_,.int (ys.length:Nat),_] [1,3] U3 Y ⟨Ym Yl,Ym Yl,U⟩ ?_)
 refine cj 2 (fun hb1=>?_) fun hb1=>?_
 ·
  try simp at hb1
  refine qs tb hJ [1000] [_] [_] ?_
  exact tRn 0 (hE:=eB (by first | (have:=ZaY (xs:=xs) (ys:=ys) oz (fun j hj=>prEq_iff.1 (f1_2 j oz));simp[this];done) | (symm;rw[decide_eq_false_iff_not];intro e;subst e;simp at hb3;done) | (symm;rw[decide_eq_false_iff_not];intro e;subst e;exact hb1 Y)))
 ·
  try simp at hb1
  refine Zb (nx (Zf (hqs tb hJ [0,1,1001,1002] [_,.int (xs.length:Nat),_] [1] U4 Y ⟨Ym Yl,U⟩ ?_)))
  refine Zd (lp (ι:=Nat) (fun k=>(k≤xs.length)∧(∀ j,j<k→Zrh (ge xs j) (ge ys j)=true)) (fun k=>[(13,.int (k:Nat))]) (fun k=>xs.length-k) [0,1,2,3] U3 0 ⟨nzl,fun j hj=>by omega⟩ ?_)
  rintro k ⟨f1_1,f1_2⟩
  refine qs tb hJ [0,1,2,3,1000] [_] U5 ?_
  refine cjS 4 (fun hb2=>?_) fun hb2=>?_
  ·
   try simp at hb2
   refine Zb (nx (Zf (Zd (qs tb hJ [0,1,2,3,1001] U2 U5 ?_))))
   refine hqs tb hJ [0,1,2,3,1008] [_,_,.ptr (prC (ge xs k)),_,_,_,.ptr (prC (ge ys k)),_,.bool (!(decide ((ge xs k).a=(ge ys k).a)&&decide ((ge xs k).b=(ge ys k).b)))] [2,6,8] U5 Y ⟨iIx ZE,iIx ZE,fun _ _ _ hx hl _=>ZuI Zqo Y (hl.D 3 19 Y Y) (hl.D 7 23 Y Y) hx,U⟩ ?_
   refine cj 4 (fun hb3=>?_) fun hb3=>?_
   ·
    try simp at hb3
    refine qs tb hJ [1000] [_] [_] ?_
    exact tRn 0 (hE:=eB (by first | (have:=ZaY (xs:=xs) (ys:=ys) oz (fun j hj=>prEq_iff.1 (f1_2 j oz));simp[this];done) | (symm;rw[decide_eq_false_iff_not];intro e;subst e;simp at hb3;done) | (symm;rw[decide_eq_false_iff_not];intro e;subst e;exact hb1 Y)))
   ·
    try simp at hb3
    refine Zb (nx (hqp tb hJ [0,1,2,1001] [.int (k+1:Nat),_] [0] U4 Y ⟨YT,U⟩ ?_))
    exact lpE (k+1) [0,1,2,3] ⟨oz,Z2 f1_2 (by simp[Zrh,hb3])⟩
  ·
   try simp at hb2
   refine Zu (nx (qs tb hJ [1000] [_] [_] ?_))
   exact tRn 0 (hE:=eB (by first | (have:=ZaY (xs:=xs) (ys:=ys) oz (fun j hj=>prEq_iff.1 (f1_2 j oz));simp[this];done) | (symm;rw[decide_eq_false_iff_not];intro e;subst e;simp at hb3;done) | (symm;rw[decide_eq_false_iff_not];intro e;subst e;exact hb1 Y)))
theorem p_sets (M1 M2:Nat) (M3 M4 M5:Nat) (vs:List BA) (f:Fr) (h2:f.hyps.length≤40) (h3:f.wide.length*32≤140737488351232) (h4:∀ x∈f.hyps,x.floating=true→x.text.length=2):FnR Tryz.prog J 176 [OB.set keyS M2 vs] [.ptr (mpC [M1,M2,M3,M4,M5]),.agg (frC f)] (.int (Zfw vs f)):=by
 refine fER Tryz.func176 fun S w0 hS hJ0 hH=>?_
 refine tw Z4 (ZF tb hJ [0,1000] [.ptr (frC f),_] [0] U2 Y ⟨iBo hS hJ,U⟩ ?_)
 refine Zf (fun a w h=>YH (γ:=Nat) (fun ix'=>([.ptr (mpC [M1,M2,M3,M4,M5]),.ptr (mpC [M1,M2,M3,M4,M5]),.ptr (mpC [M2,M3,M4,M5]),.lit (.map (some M2)),.ptr [XQ f.hyps,X8 f.apart,Zg f.text,XQ f.dummies,X8 f.wide,Zg f.proof],.rd (XQ f.hyps),.ptr [Zg f.text,XQ f.dummies,X8 f.wide,Zg f.proof],.rd (Zg f.text),.rd (Yc (f.text::(QQ f.hyps).map Hy.text)),.any,.any]:List AV).getD ix' .any) (fun _=>true) [(0,fun _=>.ptr (mpC [M1,M2,M3,M4,M5])),(3,fun _=>.ptr (frC f)),(5,fun g=>.lit (.map (some g)))] (fun j' g=>match j' with | 0=>[] | _=>[OB.set keyS g (Zci vs (f.text::(QQ f.hyps).map Hy.text).flatten)]) (fun k' g=>match k' with | 0=>(.map (some g)) | 1=>(.map (some g)) | _=>undef) [9,10] 2 0 (fun _=>Y) h hJ Yo Y Y Y Y Y Y hsb ⟨?_,?_,?_,?_,?_,?_,?_,?_,?_,?_,?_,U⟩ ⟨?e1_1_0,?e1_1_1,U⟩ ⟨.old 0 0 _,.old 1 3 _,.eff 1 10 5 (fun g=>(.map (some g))) Y Y (fun _=>Y) (fun _=>True.intro),U⟩ ?n1_1)
 exact oX Y fun hx hl=>ZV Y (hl.env 0 0 _ Y Y) hx
 exact oX Y fun hx hl=>YE Y (hl.D 0 11 Y Y) hx
 exact oX Y fun hx hl=>ZG Zko Y (hl.D 1 12 Y Y) hx
 exact oX Y fun hx hl=>ZB Zpq Y (hl.D 2 13 Y Y) hx
 exact oX Y fun hx hl=>ZG Zdn Y (hl.env 1 3 _ Y Y) hx
 exact oX Y fun hx hl=>ZB Zpp Y (hl.D 4 15 Y Y) hx
 exact oX Y fun hx hl=>ZG ZnA Y (hl.env 1 3 _ Y Y) hx
 exact oX Y fun hx hl=>ZB Qy Y (hl.D 6 17 Y Y) hx
 exact oY Y fun hk hx hl=>ZaL (Znh hJ f.hyps f.text (h2)) ZtF Y (Zk hS _ hk hx) (hx.1) (Za (hl.D 5 16 Y Y) (Za (hl.D 7 18 Y Y) Zc)) (jo hJ hx)
 exact Zh Y
 exact Zh Y
 case e1_1_0=>exact⟨_,Y,Y,Y,Y,fun _ _ w hk hx hl _=>Zl (Zu8 (O:=[]) (R:=[]) (Zj1 hJ M2 vs (f.text::(QQ f.hyps).map Hy.text)) ZtG Y hS hJ0 (ZH (hH _ (mo 0 Y)) Zq) hk hx (Za (hl.D 3 14 Y Y) (Za (hl.D 8 19 Y Y) Zc))) fun v w' ⟨i,hp,hv⟩=>⟨i,Y,fun k' hk'=>absurd hk' (Nat.not_lt_zero _),fun _=>hv.lit,hp⟩⟩
 case e1_1_1=>exact⟨_,Y,Y,Y,Y,fun g _ w hk hx _ hs=>Zl (Zd1 (.inl Y) (hs 0 9 _ 20 oz Y Y Y) hk hx) fun v w' hp=>⟨g,Y,fun _ _=>rfl,fun _=>hp.1,hp.2⟩⟩
 clear a w h
 intro z1
 dsimp only[List.map]
 refine nx (qso tb hJ [0,1,2,1000] [_] U4 ?_)
 refine Zf (ZF tb hJ [0,1,2,3,1001,1002,1003] [_,_,.int (f.hyps.length:Nat),_] [2] U7 Y ⟨Ym ZC,U⟩ ?_)
 refine ln 4 fun hl1=>?_
 refine Zd (lpo (ι:=Nat×Nat) (fun(k,n)=>(k≤f.hyps.length)∧(n=(ZhR (f.hyps.take k)).length)∧((f.hyps.take k).all (Znp (ZlN vs f))=true)∧(n≤k)) (fun(_,_)=>[OB.set keyS z1 (Zci vs (f.text::(QQ f.hyps).map Hy.text).flatten)]) (fun(k,n)=>[(24,.int (k:Nat)),(6,.int (n:Nat))]) (fun(k,_)=>f.hyps.length-k) [0,1,2,4,5,6,3] U5 (0,0) ⟨nzl,Y,Y,nzl⟩ ?_)
 rintro⟨k,n⟩ ⟨f1_1,f1_2,f1_3,f1_4⟩
 refine qso tb hJ (r7 [1000]) [_] U8 ?_
 refine cjS 7 (fun hb1=>?_) fun hb1=>?_
 ·
  try simp at hb1
  refine Zb (nx (Zf (Zd (tsq (sy (.ptr (hyC (ge f.hyps k))) (fun h=>ZM (i:=(k:Int)) ZI Y (h.get 3 Y) (h.get 5 Y) nnn (ZT (xs:=f.hyps) (k:=k) sfz) Y h.x) ?_)))))
  refine snK 1 tb Y (Qk (cs:=hyC (ge f.hyps k)) ZaG Y Y Y (lb Y) Y Y Y dz (m:=0) Y Y (fun a w h=>Zk hS _ h.keep h.x _ nlr) (fun a w h w' hk'=>Yw hJ _ _ hk' h.x) ?_)
  refine seK [0,3,4,5,6,7,8,9] U8 Y (nx (qso tb hJ (r8 [1001]) U2 U9 ?_))
  refine cj 8 (fun hb2=>?_) fun hb2=>?_
  ·
   try simp at hb2
   refine Zf (ZF tb hJ [1,2,3,4,5,6,7,1002,1006] (V3 [.ptr [lS (ge ((ge f.hyps k).text) 1)],_,.bool (decide ((ge ((ge f.hyps k).text) 1)∈(Zci vs (f.text::(QQ f.hyps).map Hy.text).flatten))),_]) [3,5] U9 Y ⟨iIx (k:=1) Zj (hk:=by have:=h4 _ (Zp oz) hb2;omega),fun _ _ _ hx hl _=>YM (Kd:=keyS) (xs:=(Zci vs (f.text::(QQ f.hyps).map Hy.text).flatten)) ZR Yf (ge ((ge f.hyps k).text) 1) Y (Ze hx (mo 0 Y)) (hl.D 0 30 Y Y) (hl.D 4 34 Y Y) hx,U⟩ ?_)
   refine ln 7 fun hl2=>?_
   refine cj 8 (fun hb3=>?_) fun hb3=>?_
   ·
    have q3:Zfw vs f=70:=setE_h (Zf6 hb1 (by simp only[Znp,hb2,Bool.not_true,Bool.false_or];exact decide_eq_false (Zwu hb3)))
    refine qso tb hJ [1000] [_] [_] ?_
    exact tRo 0 (hE:=eI (q3.symm))
   ·
    refine Zb (nx (YU tb hJ (r6 [1002]) [_,.int (n+1:Nat),_] [1] U7 Y ⟨YT (h0:=by omega),U⟩ ?_))
    refine nx (YU tb hJ (r5 [6,1001]) [.int (k+1:Nat),_] [0] U7 Y ⟨YT,U⟩ ?_)
    exact Xk (k+1,n+1) (r5 [6,5]) ⟨oz,by rw[ZhR,Xs oz,f1_2];simp[ZhR,hb2],by rw[Zc0 oz,f1_3];simp only[Znp,hb2,Bool.not_true,Bool.false_or,Bool.true_and];exact decide_eq_true (Zwv hb3),oz⟩
  ·
   try simp at hb2
   refine Zb (nx (YU tb hJ [1,2,3,4,5,7,1001] [.int (k+1:Nat),_] [0] U7 Y ⟨YT,U⟩ ?_))
   exact Xk (k+1,n) (r5 [6,5]) ⟨oz,by rw[ZhR,Xs oz,f1_2];simp[ZhR,hb2],by rw[Zc0 oz,f1_3];simp[Znp,hb2],oz⟩
 ·
  try simp at hb1
  have e1:f.hyps.all (Znp (ZlN vs f))=true:=by rw[←ZX (xs:=f.hyps) oz];exact f1_3
  have f1_2':n=(ZhR f.hyps).length:=by rw[f1_2,ZX oz]
  refine Zu (nx (Zf (ZF tb hJ [0,1,2,1003] [_,_,.int ((Zci vs (f.text::(QQ f.hyps).map Hy.text).flatten).length:Nat),_] [2] U4 Y ⟨fun _ _ _ hx hl _=>ZrM ZhP Y (Ze hx (mo 0 Y)) (hl.D 1 41 Y Y) hx,U⟩ ?_)))
  refine cj 3 (fun hb4=>?_) fun hb4=>?_
  ·
   have hb4a:¬ n=(ZlN vs f).length:=fun e=>Zwu hb4 (congrArg Int.ofNat e)
   have q3:Zfw vs f=70:=setE_n (by rw[←f1_2'];exact hb4a)
   refine qso tb hJ [1000] [_] [_] ?_
   exact tRo 0 (hE:=eI (q3.symm))
  ·
   have hb4a:n=(ZlN vs f).length:=Int.ofNat.inj (Zwv hb4)
   refine Zb (nx (Zf (ZF tb hJ [0,1,2,1001,1002,1003] [_,_,.int (f.wide.length:Nat),_] [2] U6 Y ⟨Ym Yl,U⟩ ?_)))
   refine ln 3 fun hl3=>?_
   refine Zd (lpo (ι:=Nat) (fun k=>(k≤f.wide.length)∧(∀ j,j<k→Zrk vs f.wide j=false)) (fun _=>[OB.set keyS z1 (Zci vs (f.text::(QQ f.hyps).map Hy.text).flatten)]) (fun k=>[(47,.int (k:Nat))]) (fun k=>f.wide.length-k) (r6 []) U5 0 ⟨nzl,fun j hj=>by omega⟩ ?_)
   rintro k ⟨f2_1,f2_2⟩
   refine qso tb hJ (r6 [1000]) [_] U7 ?_
   refine cjS 6 (fun hb5=>?_) fun hb5=>?_
   ·
    try simp at hb5
    refine Zb (nx (Zf (Zd (tsq (snK 1 tb Y (sy (.ptr (prC (ge f.wide k))) (fun h=>ZM (i:=(k:Int)) ZE Y (h.get 4 Y) (h.get 6 Y) nnn (ZT (xs:=f.wide) (k:=k) sfz) Y h.x) ?_))))))
    refine snK 1 tb Y (Zv X0 hJ Y Y Y (lb Y) fun b2=>?_)
    refine snK 1 tb Y (Zn (b:=b2) (off:=0) (es:=U2) (news:=U2) hJ hJ0 Xj Y Y Y (lb Y) Y (fun a w h=>⟨(h.get 1 Y),(h.get 2 Y)⟩) ?_)
    refine kw (fun h=>ZP hS h (m:=1) (s:=10) Y) (seK [0,1,5,6,7,8,9,10] U8 Y ?_)
    refine nx (ZF tb hJ [2,3,4,5,6,7,1039] (V12 [.bool (decide ((ge f.wide k).a∈vs)),_,_,_,_,_,_,_,_,_,.bool (decide ((ge f.wide k).b∈vs)),_,_,_,_,_,_,_,_,_,.int ((k:Int)-(1:Int)),.ptr (prC (ge f.wide ((k:Int)-(1:Int)).toNat)),_,_,.int (Zi6 (ge f.wide ((k:Int)-(1:Int)).toNat) (ge f.wide k)),_,_,_]) [12,22,32,33,36] U7 Y ⟨fun a _ hk hx hl hc=>YM (Kd:=keyS) (xs:=vs) ZR Yf ((ge f.wide k).a) Y (ZJ hH hk hx (mo 0 Y)) (hl.D 9 61 Y hc) (hl.D 11 63 Y hc) hx,fun _ _ hk hx hl hc=>YM (Kd:=keyS) (xs:=vs) ZR Yf ((ge f.wide k).b) Y (ZJ hH hk hx (mo 0 Y)) (hl.D 19 71 Y hc) (hl.D 21 73 Y hc) hx,fun a _ _ hx hl hc=>Zv0 (i:=(k:Int)) (j:=(1:Int)) Y (hl.D 31 83 Y hc) (Rel.of_lit (.int .i64 1)) (by have hc':(((((!Op.bytesLess ((ge f.wide k).a).toList ((ge f.wide k).b).toList)|| (!(decide ((ge f.wide k).a∈vs))))|| (!(decide ((ge f.wide k).b∈vs))))==false)&& ((decide ((0:Int)< (k:Int)))==true))=true:=hc;(try simp at hc');(first | omega | (simp;omega) | grind[Zp])) (by have hc':(((((!Op.bytesLess ((ge f.wide k).a).toList ((ge f.wide k).b).toList)|| (!(decide ((ge f.wide k).a∈vs))))|| (!(decide ((ge f.wide k).b∈vs))))==false)&& ((decide ((0:Int)< (k:Int)))==true))=true:=hc;(try simp at hc');(first | omega | (simp;omega) | grind[Zp])) hx,fun a _ _ hx hl hc=>ZM (i:=(k:Int)-(1:Int)) ZE Y (hl.D 30 82 Y hc) (hl.D 32 84 Y hc) (by have hc':(((((!Op.bytesLess ((ge f.wide k).a).toList ((ge f.wide k).b).toList)|| (!(decide ((ge f.wide k).a∈vs))))|| (!(decide ((ge f.wide k).b∈vs))))==false)&& ((decide ((0:Int)< (k:Int)))==true))=true:=hc;(try simp at hc');(first | omega | (simp;omega) | grind[Zp])) (Zda (xs:=f.wide) (i:=(k:Int)-(1:Int)) (by have hc':(((((!Op.bytesLess ((ge f.wide k).a).toList ((ge f.wide k).b).toList)|| (!(decide ((ge f.wide k).a∈vs))))|| (!(decide ((ge f.wide k).b∈vs))))==false)&& ((decide ((0:Int)< (k:Int)))==true))=true:=hc;(try simp at hc');(first | omega | (simp;omega) | grind[Zp])) (by have hc':(((((!Op.bytesLess ((ge f.wide k).a).toList ((ge f.wide k).b).toList)|| (!(decide ((ge f.wide k).a∈vs))))|| (!(decide ((ge f.wide k).b∈vs))))==false)&& ((decide ((0:Int)< (k:Int)))==true))=true:=hc;(try simp at hc');(first | omega | (simp;omega) | grind[Zp]))) Y hx,iFo hS hJ (Zfy hJ (ge f.wide ((k:Int)-(1:Int)).toNat) (ge f.wide k)) ZtE,U⟩ ?_)
    refine cj 6 (fun hb6=>?_) fun hb6=>?_
    ·
     have q3:Zfw vs f=70:=setE_w hb5 hb6
     refine qso tb hJ [1000] [_] [_] ?_
     exact tRo 0 (hE:=eI (q3.symm))
    ·
     refine Zb (nx (YU tb hJ (r5 [1001]) [.int (k+1:Nat),_] [0] U6 Y ⟨YT,U⟩ ?_))
     exact Xk (k+1) (r6 []) ⟨oz,Z2 f2_2 hb6⟩
   ·
    try simp at hb5
    refine Zu (nx (Zf (ZF tb hJ [1001,1005,1007] (V5 [.rd (X8 (f.wide.filter (inV (Zci vs (f.text::(QQ f.hyps).map Hy.text).flatten)))),.bool (decide (f.apart=(f.wide.filter (inV (Zci vs (f.text::(QQ f.hyps).map Hy.text).flatten))))),_]) [5,6] U3 Y ⟨fun _ _ hk hx hl _=>Y3 (ZrX hJ z1 (Zci vs (f.text::(QQ f.hyps).map Hy.text).flatten) f.wide (h3)) ZtC Y (Zk hS _ hk hx) (hx.1) (ZH (Ze hx (mo 0 Y)) Zq) (Za (hl.D 2 95 Y Y) (Za (hl.D 4 97 Y Y) Zc)) (jo hJ hx),iFo hS hJ (Zsd hJ f.apart (f.wide.filter (inV (Zci vs (f.text::(QQ f.hyps).map Hy.text).flatten)))) ZtD,U⟩ ?_)))
    refine ln 0 fun hl4=>?_
    refine ln 1 fun hl5=>?_
    refine cj 2 (fun hb7=>?_) fun hb7=>?_
    ·
     have q3:Zfw vs f=70:=setE_a (Zwu hb7)
     refine qso tb hJ [1000] [_] [_] ?_
     exact tRo 0 (hE:=eI (q3.symm))
    ·
     have q3:Zfw vs f=0:=ZvR e1 (by rw[←f1_2'];exact hb4a) (fun j hj=>f2_2 j oz) (Zwv hb7)
     refine Zb (nx (qso tb hJ [1000] [_] [_] ?_))
     exact tRo 0 (hE:=eI (q3.symm))
theorem Zr6 (s:BA) (hG:Xm J):Fn Tryz.prog J 177 [.str s] (.bool (!Qe s)):=by
 refine fE Tryz.func177 fun S w0 hS hJ0=>?_
 clear hJ0
 refine qs tb hJ [0] [_] [_] ?_
 refine hqs tb hJ [1003] [_,.bool (Qe s),_,_] [1] [_] Y ⟨iFn hS hJ (Zo8 hJ s (hG)) ZtP,U⟩ ?_
 exact tRn 0 (hE:=eB (by first | rfl | grind[Zp]))
theorem Zr5 (M1 M2:Nat) (M3 M4 M5:Nat) (hm:List (BA×Hy)) (y:Hy)  :FnR Tryz.prog J 180 [OB.mH M4 hm] [.agg (hyC y),.ptr [.ptr (mpC [M1,M2,M3,M4,M5])]] (.bool ((Zy hm y.label).isSome)):=by
 refine fER Tryz.func180 fun S w0 hS hJ0 hH=>?_
 refine tw Z4 (ZF tb hJ [1,1000] [.ptr (hyC y),_] [0] U2 Y ⟨iBo hS hJ,U⟩ ?_)
 refine Zf (fun a w h=>YH (γ:=Nat) (fun ix'=>([.ptr (mpC [M1,M2,M3,M4,M5]),.ptr (mpC [M1,M2,M3,M4,M5]),.ptr (mpC [M4,M5]),.lit (.map (some M4)),.ptr (hyC y),.str y.label,.tup [.agg (hyC ((Zy hm y.label).getD default)),.bool ((Zy hm y.label).isSome)],.tup [.agg (hyC ((Zy hm y.label).getD default)),.bool ((Zy hm y.label).isSome)],.agg (hyC ((Zy hm y.label).getD default)),.bool ((Zy hm y.label).isSome),.any,.any,.bool ((Zy hm y.label).isSome)]:List AV).getD ix' .any) (fun _=>true) [(5,fun _=>.bool ((Zy hm y.label).isSome))] (fun j' g=>match j' with | 0=>[] | 1=>[OB.var g [lS (⟨#[]⟩:BA),lB false,Zg ([]:List BA)]] | _=>[OB.var g (hyC ((Zy hm y.label).getD default))]) (fun k' g=>match k' with | 0=>(.pointer (some ⟨g,0,none⟩)) | _=>undef) [10,11] 2 0 (fun _=>Y) h hJ Yo Y Y Y Y Y Y hsb ⟨?_,?_,?_,?_,?_,?_,?_,?_,?_,?_,?_,?_,?_,U⟩ ⟨?e1_1_0,?e1_1_1,U⟩ ⟨.new 12 5 _,U⟩ ?n1_1)
 exact oX Y fun hx hl=>Za8 ZeK Y (hl.env 0 1 _ Y Y) hx
 exact oX Y fun hx hl=>YE Y (hl.D 0 7 Y Y) hx
 exact oX Y fun hx hl=>ZG Q6 Y (hl.D 1 8 Y Y) hx
 exact oX Y fun hx hl=>ZB ZeJ Y (hl.D 2 9 Y Y) hx
 exact oX Y fun hx hl=>ZG Zbg Y (hl.env 1 2 _ Y Y) hx
 exact oX Y fun hx hl=>ZB Qx Y (hl.D 4 11 Y Y) hx
 exact oY Y fun hk hx hl=>XD (Kd:=keyS) (f:=(fun z':Hy=>AV.agg (hyC z'))) (L:=hm) XV Zah y.label Y (ZJ hH hk hx (mo 0 Y)) (hl.D 3 10 Y Y) (hl.D 5 12 Y Y) hx
 exact oX Y fun hx hl=>ZV Y (hl.D 6 13 Y Y) hx
 exact oX Y fun hx hl=>Yx Y (hl.D 7 6 Y Y) Y hx
 exact oX Y fun hx hl=>Yx Y (hl.D 7 6 Y Y) Y hx
 exact Zh Y
 exact Zh Y
 exact oX Y fun hx hl=>YA Y (hl.D 9 15 Y Y) hx
 case e1_1_0=>exact⟨_,Y,Y,Y,Y,fun g _ w hk hx _ _=>Zl (Qs Yy hJ Y hk hx) fun v w' ⟨g',hv,hp⟩=>⟨g',Y,fun k' hk'=>absurd hk' (Nat.not_lt_zero _),fun _=>hv,hp⟩⟩
 case e1_1_1=>exact⟨_,Y,Y,Y,Y,fun g _ w hk hx hl hs=>(by obtain⟨us2,hv2,hr3⟩:=Q0 (hl.D 8 14 Y Y);exact Zl (Xz (S':=S) (off:=0) (news:=U3) (es:=U3) (us:=us2) hJ hJ0 YQ Y hk hx (ZcA (hs 0 10 _ 4 oz Y Y Y)) (by rw[hv2];rfl) hr3 (lb Y) Y) fun v w' hp=>⟨g,Y,fun _ _=>rfl,fun e=>(by cases e),hp⟩)⟩
 clear a w h
 intro b1
 dsimp only[List.map]
 refine kw Zz (nx (qso tb hJ [1001] U2 [_] ?_))
 exact tRo 0 (hE:=Y)
end
section
variable {J:WP} (hJ:Stab J)
include hJ
theorem Zwk (n:Nat) (b:n*48≤140737488351232):FnM (ι:=Value) Tryz.prog J 212 [] [.lit (.slice none 0 0),.int (n:Nat)] [] (fun i'=>.lit (i')) (fun i'=>[OB.row i' 119 3 (([]:List Hy).map hyC)]):=by
 refine fEM Tryz.func212 fun S w0 R hS hJ0 hH=>?_
 refine YS (B:=So J S w0 27 (R) [(0,.lit (.slice none 0 0)),(1,.int (n:Nat))]) ?_ fun a w h=>h
 refine qso tb hJ [0,1] [_] U2 ?_
 refine Zf (qso tb hJ [0,1,1001] U2 U3 ?_)
 refine cj 2 (fun hb1=>?_) fun hb1=>?_
 ·
  try simp at hb1
  exact False.elim oz
 ·
  try simp at hb1
  refine Zb (nx (Zf (ZF tb hJ [0,1007] [_,_,.int (0:Nat),_,.int (0:Nat),.int (((0:Nat):Int)-((0:Nat):Int)),.int ((n:Int)-((0:Nat):Int)-((0:Nat):Int)),_] [2,4,5,6] U2 Y ⟨fun _ _ _ hx hl _=>Zlp ZC Y (hl.D 1 9 Y Y) hx,fun _ _ _ hx hl _=>Zlo ZC Y (hl.D 3 11 Y Y) hx,Zu2,Zu2,U⟩ ?_)))
  refine tw (sa 1 Y (congrArg AV.int (show(n:Int)-((0:Nat):Int)-((0:Nat):Int)=(n:Int)from by omega))) (qso tb hJ [0,1,1001] U2 U3 ?_)
  refine cj 2 (fun hb2=>?_) fun hb2=>?_
  ·
   try simp at hb2
   refine ZO (snK 2 tb Y (sy (.int (0:Nat)) (fun h=>Zlp ZC Y (h.get 0 Y) h.x) ?_))
   refine sy (.lit (.slice none 0 0)) (fun h=>ZrP ZI Y (h.get 2 Y) (h.get 0 Y) h.x) ?_
   refine snK 1 tb Y (ZvM (m:=n) ZbX QU hJ Y Y Y (lb Y) oz oz oz (fun a w h=>⟨(h.get 1 Y),(h.get 0 Y)⟩) fun v1=>?_)
   refine snK 1 tb Y (sy (.int (0:Nat)) (fun h=>Zlo ZC Y (h.get 0 Y) h.x) ?_)
   refine sy (.lit (Zaf v1 0)) (fun h=>Zez (m:=0) ZI Y (Ze h.x (mo 0 Y)) (by first | rfl | (rw[List.length_map];exact(Y))) (h.get 2 Y) (h.get 0 Y) h.x) ?_
   refine snK 1 tb Y (seK [0] [_] Y ?_)
   refine nx (qso tb hJ [1001] U2 [_] ?_)
   exact Zs (fun a w h=>ZK  (m:=0) (Zaf v1 0) Y h Y Y)
  ·
   try simp at hb2
   refine Zb (nx (qso tb hJ [1001] U2 [_] ?_))
   exact tw (Yd 119 3 hJ) (Zs (fun a w h=>ZK  (m:=0) (.slice none 0 0) Y h Y Y))
theorem Zip (ls:List (List Hy)) (b:ls.flatten.length*48≤140737488351232):Fn Tryz.prog J 173 [.rd (ZwM ls)] (.rd (XQ ls.flatten)):=by
 refine fE Tryz.func173 fun S w0 hS hJ0=>?_
 refine tw Z4 (ln 0 fun hl1=>?_)
 refine qso tb hJ [0] [_] [_] ?_
 refine qso tb hJ [0,1000] [_] U2 ?_
 refine Zf (ZF tb hJ [0,1,1000,1001,1002] [_,.int (ls.length:Nat),_] [1] U5 Y ⟨Ym Zeh,U⟩ ?_)
 refine Zd (lpo (ι:=Nat×Nat) (fun(k,z)=>(k≤ls.length)∧(z=(ls.take k).flatten.length)) (fun(_,_)=>[]) (fun(k,z)=>[(11,.int (k:Nat)),(3,.int (z:Nat))]) (fun(k,_)=>ls.length-k) [0,2,3,4,1] U3 (0,0) ⟨nzl,by simp⟩ ?_)
 rintro⟨k,z⟩ ⟨f1_1,f1_2⟩
 refine qso tb hJ (r5 [1000]) [_] U6 ?_
 refine cjS 5 (fun hb1=>?_) fun hb1=>?_
 ·
  try simp at hb1
  refine Zb (nx (Zf (Zd (ZF tb hJ (r5 [1001,1002]) [.ptr [XQ (ge ls k)],_,_] [0] U7 Y ⟨iIx QR,U⟩ ?_))))
  refine ln 5 fun hl2=>?_
  refine ZF tb hJ [0,1,2,3,1004] [_,_,.int ((ge ls k).length:Nat),.int (z+(ge ls k).length:Nat),_] [2,3] U5 Y ⟨Ym ZC,YT (h0:=by have:=Zau ls (k+1);rw[ZZ oz]at this;simp only[List.flatten_append,List.length_append,List.flatten_cons,List.flatten_nil,List.append_nil]at this;omega),U⟩ ?_
  refine qso tb hJ (r5 [1001]) U2 U6 ?_
  refine cj 5 (fun hb2=>?_) fun hb2=>?_
  ·
   try simp at hb2
   exact False.elim oz
  ·
   try simp at hb2
   refine Zb (nx (YU tb hJ [0,1,2,4,1001] [.int (k+1:Nat),_] [0] U5 Y ⟨YT,U⟩ ?_))
   exact Xk (k+1,z+(ge ls k).length) [0,1,2,4,3] ⟨oz,by rw[f1_2,ZZ oz];simp⟩
 ·
  try simp at hb1
  refine Zu (nx (tsq (snK 1 tb Y (QK (O:=[]) (R:=[]) (Zwk hJ z (by rw[f1_2];exact Nat.le_trans (Nat.mul_le_mul_right 48 (Zau ls k)) b)) ZtI Y Y Y (lb Y) hS hJ0 Zq (fun a w h=>(Za (Rel.of_lit (.slice none 0 0)) (Za (h.get 0 Y) Zc))) fun z1=>?_))))
  refine snK 1 tb Y (seK [0,3] U2 Y ?_)
  refine nx (Zf (ZF tb hJ [0,1000,1001,1002] [_,.int (ls.length:Nat),_] [1] U4 Y ⟨Ym Zeh,U⟩ ?_))
  refine Zd (lpo (ι:=Nat×Value×(List Hy)) (fun(k,_,out)=>(k≤ls.length)∧(out=(ls.take k).flatten)) (fun(_,vo,out)=>[OB.row vo 119 3 (out.map hyC)]) (fun(k,vo,_)=>[(27,.int (k:Nat)),(6,.lit vo)]) (fun(k,_,_)=>ls.length-k) [1,2,3,0] U2 (0,z1,([]:List Hy)) ⟨nzl,by simp⟩ ?_)
  rintro⟨k,vo,out⟩ ⟨f2_1,f2_2⟩
  refine qso tb hJ [0,1,2,3,1000] [_] U5 ?_
  refine cjS 4 (fun hb3=>?_) fun hb3=>?_
  ·
   try simp at hb3
   refine Zb (nx (Zf (Zd (ZF tb hJ [0,1,2,3,1001,1002] [.ptr [XQ (ge ls k)],_,_] [0] U6 Y ⟨iIx QR,U⟩ ?_))))
   refine ln 4 fun hl3=>?_
   refine ZO (snK 2 tb Y (YD (f:=hyC) (m:=1) (s:=31) out (ge ls k) (fun _=>Y) ZbX hJ hJ0 Y Y Y (lb Y) Y Y (fun a w h=>(h.get 0 Y)) (by have:=Zau ls (k+1);rw[ZZ oz]at this;simp only[List.flatten_append,List.length_append,List.flatten_cons,List.flatten_nil,List.append_nil]at this;rw[f2_2];omega) (by have:=Zau ls (k+1);rw[ZZ oz]at this;simp only[List.flatten_append,List.length_append,List.flatten_cons,List.flatten_nil,List.append_nil]at this;rw[f2_2];omega) fun v2=>?_))
   refine snK 1 tb Y (seK [0,4,5,6] U4 Y ?_)
   refine nx (YU tb hJ [0,1,2,1001] [.int (k+1:Nat),_] [0] U4 Y ⟨YT,U⟩ ?_)
   exact Xk (k+1,v2,out++(ge ls k)) [1,2,3,0] ⟨oz,by rw[f2_2,ZZ oz];simp⟩
  ·
   try simp at hb3
   refine Zu (nx (qso tb hJ [1001] U2 [_] ?_))
   exact tw (fun h=>Ya hS h (m:=0) (s:=2) Y) (tRo 0 (hE:=congrArg (fun z=>AV.rd (XQ z)) (show out=ls.flatten from by rw[f2_2,ZX oz])))
theorem Zse (M5 T1:Nat) (tm:List (BA×BA)) (ts:List (BA×BA)) (hq:∀ q'∈ts.map (·.1),q'.size≤9223372036854775807):FnM (ι:= { q':List (BA×BA) // ∀ k',Zy q' k'=if(Zy ts k').isSome then Zy ts k' else Zy tm k' }) Tryz.prog J 181 [] [.lit (.map (some M5)),.lit (.map (some T1))] [OB.mT M5 tm,OB.mT T1 ts] (fun _=>.tup []) (fun i'=>[OB.mT M5 (i'.1),OB.mT T1 ts]):=by
 refine fEM Tryz.func181 fun S w0 R hS hJ0 hH=>?_
 refine YS (B:=So J S w0 16 (OB.mT M5 tm::OB.mT T1 ts::R) [(0,.lit (.map (some M5))),(1,.lit (.map (some T1)))]) ?_ fun a w h=>h
 refine tsq (snK 1 tb Y (kw pm1 ?_))
 refine Zk7 (Kd:=keyS) (f:=(fun z':BA=>AV.str z')) (L:=ts) ZhO hJ hJ0 Y Y Y (lb Y) (fun a w h=>(h.get 0 Y)) fun b1=>?_
 refine seK [0,2] U2 Y (nx (Zd (lpo (ι:=(List BA)×(List (BA×BA))) (fun(vis,tn)=>(∀ q',Zy tn q'=if q'∈vis then Zy ts q' else Zy tm q')∧(vis.Nodup)∧(∀ q'∈vis,q'∈ts.map (·.1))) (fun(vis,tn)=>(OB.iter b1 keyS (fun z':BA=>AV.str z') T1 ts vis::OB.mT M5 tn::R)) (fun(_,_)=>[]) (fun(vis,_)=>ts.length-vis.length) [0,1] U2 (([]:List BA),tm) ⟨fun q'=>by simp,by simp,fun q' h=>by simp at h⟩ ?_)))
 rintro⟨vis,tn⟩ ⟨f1_1,f1_2,f1_3⟩
 refine tsq (Zos (Kd:=keyS) (f:=(fun z':BA=>AV.str z')) (L:=ts) (vis:=vis) (fun k' hk'=>hq k' hk') hJ hJ0 Y Y Y (lb Y) (fun a w h=>(h.get 0 Y)) fun z2 h0z2 h1z2=>?_)
 refine sy (.bool z2.1) (fun h=>Yx Y (h.get 0 Y) Y h.x) ?_
 refine seK [0,2,3] U3 Y (nx (cjS 0 (fun hb1=>?_) fun hb1=>?_))
 ·
  refine tw (ob0 (congrArg (fun z'=>OB.iter b1 keyS (fun z':BA=>AV.str z') T1 ts (z')) (show(if z2.1 then vis++[z2.2]else vis)=(vis++[z2.2])from by rw[hb1];rfl))) (Zb (nx (Zd (ZF tb hJ [1,2,1003,1004] [.tup [.str z2.2,.str ((Zy ts z2.2).getD default)],_,_,_,_] [0] U4 Y ⟨fun _ _ _ hx hl _=>ZoO (Kd:=keyS) (f:=(fun z':BA=>AV.str z')) (L:=ts) (k:=z2.2) Y (Ze hx (mo 0 Y)) (hq z2.2 (by have:=(h1z2 hb1).2;rw[Y1]at this;simpa using this)) (hl.env 1 7 _ Y Y) hx,U⟩ ?_))))
  refine ZO (snK 3 tb Y (kw pm1 ?_))
  refine Zor (f:=(fun z':BA=>AV.str z')) Zar hJ hJ0 z2.2 ((Zy ts z2.2).getD default) Y Y (.inl Y) (fun a w h=>⟨(h.get 2 Y),(h.get 1 Y),(h.get 0 Y)⟩) ?_
  refine seK [3,4] U2 Y (kw pm1 ?_)
  exact Xk (vis++[z2.2],XK tn z2.2 ((Zy ts z2.2).getD default)) [0,1] ⟨Zqt f1_1 (h1z2 hb1),by rw[List.nodup_append];exact⟨f1_2,by simp,fun x hx y hy e=>by rw[List.mem_singleton.1 hy]at e;subst e;exact(h1z2 hb1).1 hx⟩,fun q' hq'=>by rcases List.mem_append.1 hq' with h | h;exact f1_3 q' h;rw[List.mem_singleton.1 h];have:=(h1z2 hb1).2;rw[Y1]at this;simpa using this⟩ (hm:=(show ts.length-(vis++[z2.2]).length<ts.length-vis.length from Zqu f1_2 f1_3 (h1z2 hb1)))
 ·
  refine tw (ob0 (congrArg (fun z'=>OB.iter b1 keyS (fun z':BA=>AV.str z') T1 ts (z')) (show(if z2.1 then vis++[z2.2]else vis)=vis from by rw[hb1];rfl))) (Zu (kw ZfQ ?_))
  exact kw pm1 (fun a w h=>Zkc  ⟨tn,by intro k';rw[f1_1];by_cases hk9:(Zy ts k').isSome=true;(rw[if_pos hk9,if_pos (h0z2 hb1 k' hk9)]);(rw[if_neg hk9];by_cases hv9:k'∈vis;(exact absurd (by rw[Y1];simpa using f1_3 k' hv9) hk9);rw[if_neg hv9])⟩ Y h Y)
end
theorem ZkI:Zb9 Tryz.prog 244 2:=⟨#[.map none,.map none],Y,fun i=>(#[(0,1),(1,1)]:Array (Nat×Nat))[i]?,fun j hj=>by rcases j with _ | _ | j<;>first | rfl | omega,fun parts=>by kernel_rfl⟩
theorem Zwb {J:WP} (hJ:Stab J) (M1 M2:Nat) (M3 M4 M5:Nat) (cs vs fs:List BA) (hm:List (BA×Hy)) (tm:List (BA×BA)) (f:Fr) (bf:List Hy) (hw:f.wide.length*32≤140737488351232) (hG:Xm J):FnM (ι:= { q':List BA×List (BA×Hy)×List (BA×BA) // ZeY cs vs fs hm tm f bf=0→q'.1=QE fs f.label∧q'.2.1=hmK hm (alH f)∧∀ k',Zy q'.2.2 k'=if(Zy (tsK (alH f)) k').isSome then Zy (tsK (alH f)) k' else Zy tm k' }) Tryz.prog J 138 [] [.ptr (mpC [M1,M2,M3,M4,M5]),.agg (frC f),.rd (XQ bf)] [OB.set keyS M1 cs,OB.set keyS M2 vs,OB.set keyS M3 fs,OB.mH M4 hm,OB.mT M5 tm] (fun _=>.int (ZeY cs vs fs hm tm f bf)) (fun i'=>[OB.set keyS M1 cs,OB.set keyS M2 vs,OB.set keyS M3 (i'.1.1),OB.mH M4 (i'.1.2.1),OB.mT M5 (i'.1.2.2)]):=by
 refine fEM Tryz.func138 fun S w0 R hS hJ0 hH=>?_
 refine YS (B:=So J S w0 183 (OB.set keyS M1 cs::OB.set keyS M2 vs::OB.set keyS M3 fs::OB.mH M4 hm::OB.mT M5 tm::R) [(0,.ptr (mpC [M1,M2,M3,M4,M5])),(1,.agg (frC f)),(2,.rd (XQ bf))]) ?_ fun a w h=>h
 refine ln 2 fun hl1=>?_
 refine ZjG (fun a w h=>ZsX (h.get 1 Y)) fun hsm=>?_
 refine ZF tb hJ [2,1000,1001] [.ptr [.ptr (mpC [M1,M2,M3,M4,M5])],.ptr (frC f),_] [0,1] U3 Y ⟨fun _ _ hk hx hl _=>ZgJ Y (hl.env 0 0 _ Y Y) (Zk hS _ hk hx _ nlr) (jo hJ hx),iBo hS hJ,U⟩ ?_
 refine Zf (ZF tb hJ [0,1,2,1003] [_,_,.bool (ZiI f.label),_] [2] U4 Y ⟨iFo hS hJ (ZeE hJ f.label) Zhp,U⟩ ?_)
 refine cj 3 (fun hb1=>?_) fun hb1=>?_
 ·
  have e9:ZeY cs vs fs hm tm f bf=2:=by rw[ZeY,if_pos hb1]
  refine qso tb hJ [1000] [_] [_] ?_
  exact Zs (fun a w h=>ZK  (m:=0) ⟨(fs,hm,tm),by first | (intro h9;rw[e9]at h9;exact absurd h9 (by first | decide | exact nz)) | (intro _;exact⟨Y,by rw[f2_2,ZX oz],fun k'=>by rw[NOGHOST.2 k',e3]⟩)⟩ Y h Y (eI (e9.symm)))
 ·
  refine Zb (nx (Zf (Zf (fun a w h=>YH (γ:=Nat) (fun ix'=>([.ptr (mpC [M1,M2,M3,M4,M5]),.ptr (mpC [M1,M2,M3,M4,M5]),.ptr (mpC [M4,M5]),.lit (.map (some M4)),.ptr (frC f),.str f.label,.tup [.agg (hyC ((Zy hm f.label).getD default)),.bool ((Zy hm f.label).isSome)],.tup [.agg (hyC ((Zy hm f.label).getD default)),.bool ((Zy hm f.label).isSome)],.agg (hyC ((Zy hm f.label).getD default)),.bool ((Zy hm f.label).isSome),.any,.any,.bool ((Zy hm f.label).isSome)]:List AV).getD ix' .any) (fun _=>true) [(2,fun _=>.rd (XQ bf)),(3,fun _=>.ptr [.ptr (mpC [M1,M2,M3,M4,M5])]),(4,fun _=>.ptr (frC f)),(8,fun _=>.bool ((Zy hm f.label).isSome))] (fun j' g=>match j' with | 0=>(OB.set keyS M1 cs::OB.set keyS M2 vs::OB.set keyS M3 fs::OB.mH M4 hm::OB.mT M5 tm::R) | 1=>(OB.var g [lS (⟨#[]⟩:BA),lB false,Zg ([]:List BA)]::OB.set keyS M1 cs::OB.set keyS M2 vs::OB.set keyS M3 fs::OB.mH M4 hm::OB.mT M5 tm::R) | _=>(OB.var g (hyC ((Zy hm f.label).getD default))::OB.set keyS M1 cs::OB.set keyS M2 vs::OB.set keyS M3 fs::OB.mH M4 hm::OB.mT M5 tm::R)) (fun k' g=>match k' with | 0=>(.pointer (some ⟨g,0,none⟩)) | _=>undef) [10,11] 2 0 (fun _=>Y) h hJ Yo Y Y Y Y Y Y hsb ⟨?_,?_,?_,?_,?_,?_,?_,?_,?_,?_,?_,?_,?_,U⟩ ⟨?e3_1_0,?e3_1_1,U⟩ ⟨.old 0 2 _,.old 1 3 _,.old 2 4 _,.new 12 8 _,U⟩ ?n3_1))))
  exact oX Y fun hx hl=>Za8 ZeK Y (hl.env 1 3 _ Y Y) hx
  exact oX Y fun hx hl=>YE Y (hl.D 0 24 Y Y) hx
  exact oX Y fun hx hl=>ZG Q6 Y (hl.D 1 25 Y Y) hx
  exact oX Y fun hx hl=>ZB ZeJ Y (hl.D 2 26 Y Y) hx
  exact oX Y fun hx hl=>ZG Zgj Y (hl.env 2 4 _ Y Y) hx
  exact oX Y fun hx hl=>ZB Qx Y (hl.D 4 28 Y Y) hx
  exact fun _ O' hO'=>⟨Y,fun _ _ _ hx hl _=>XD (Kd:=keyS) (f:=(fun z':Hy=>AV.agg (hyC z'))) (L:=hm) XV Zah f.label Y (Ze hx (hO' _ (mo 3 Y))) (hl.D 3 27 Y Y) (hl.D 5 29 Y Y) hx⟩
  exact oX Y fun hx hl=>ZV Y (hl.D 6 30 Y Y) hx
  exact oX Y fun hx hl=>Yx Y (hl.D 7 23 Y Y) Y hx
  exact oX Y fun hx hl=>Yx Y (hl.D 7 23 Y Y) Y hx
  exact Zh Y
  exact Zh Y
  exact oX Y fun hx hl=>YA Y (hl.D 9 32 Y Y) hx
  case e3_1_0=>exact⟨_,Y,Y,Y,Y,fun g _ w hk hx _ _=>Zl (Qs Yy hJ Y hk hx) fun v w' ⟨g',hv,hp⟩=>⟨g',Y,fun k' hk'=>absurd hk' (Nat.not_lt_zero _),fun _=>hv,hp⟩⟩
  case e3_1_1=>exact⟨_,Y,Y,Y,Y,fun g _ w hk hx hl hs=>(by obtain⟨us2,hv2,hr3⟩:=Q0 (hl.D 8 31 Y Y);exact Zl (Xz (S':=S) (off:=0) (news:=U3) (es:=U3) (us:=us2) hJ hJ0 YQ Y hk hx (ZcA (hs 0 10 _ 7 oz Y Y Y)) (by rw[hv2];rfl) hr3 (lb Y) Y) fun v w' hp=>⟨g,Y,fun _ _=>rfl,fun e=>(by cases e),hp⟩)⟩
  clear a w h
  intro b1
  dsimp only[List.map]
  refine kw Zz (nx (ZF tb hJ [0,1,2,1015] (V5 [.bool (decide (f.label∈cs)||decide (f.label∈vs)),_,_,_,_,_,_,_,_,.bool (decide (f.label∈fs)),_]) [5,14] U4 Y ⟨fun _ _ hk hx hl hc=>Y3 (ZbO hJ M1 M2 M3 M4 M5 cs vs f.label) Zd6 Y (Zk hS _ hk hx) (hx.1) (ZH (Ze hx (mo 0 Y)) (ZH (Ze hx (mo 1 Y)) Zq)) (Za (hl.D 2 35 Y hc) (Za (hl.D 4 37 Y hc) Zc)) (jo hJ hx),fun _ _ _ hx hl hc=>YM (Kd:=keyS) (xs:=fs) ZR Yf f.label Y (Ze hx (mo 2 Y)) (hl.D 11 44 Y hc) (hl.D 13 46 Y hc) hx,U⟩ ?_))
  refine cj 3 (fun hb2=>?_) fun hb2=>?_
  ·
   have e9:ZeY cs vs fs hm tm f bf=6:=by rw[ZeY,if_neg (by rw[hb1];decide),if_pos hb2]
   refine qso tb hJ [1000] [_] [_] ?_
   exact Zs (fun a w h=>ZK  (m:=0) ⟨(fs,hm,tm),by first | (intro h9;rw[e9]at h9;exact absurd h9 (by first | decide | exact nz)) | (intro _;exact⟨Y,by rw[f2_2,ZX oz],fun k'=>by rw[NOGHOST.2 k',e3]⟩)⟩ Y h Y (eI (e9.symm)))
  ·
   refine Zb (nx (Zf (ZF tb hJ [0,1,2,1001,1009] [_,_,.int (f.hyps.length:Nat),_,_,_,_,.int (f.dummies.length:Nat),_,_] [2,7] U5 Y ⟨Ym ZC,Ym ZC,U⟩ ?_)))
   refine ln 3 fun hl2=>?_
   refine cj 4 (fun hb3=>?_) fun hb3=>?_
   ·
    have e9:ZeY cs vs fs hm tm f bf=4:=by rw[ZeY,if_neg (by rw[hb1];decide),if_neg (by rw[hb2];decide),if_pos hb3]
    refine qso tb hJ [1000] [_] [_] ?_
    exact Zs (fun a w h=>ZK  (m:=0) ⟨(fs,hm,tm),by first | (intro h9;rw[e9]at h9;exact absurd h9 (by first | decide | exact nz)) | (intro _;exact⟨Y,by rw[f2_2,ZX oz],fun k'=>by rw[NOGHOST.2 k',e3]⟩)⟩ Y h Y (eI (e9.symm)))
   ·
    have hb3a:f.hyps.length≤40∧f.dummies.length≤40:=by simp at hb3;omega
    refine Zb (nx (tw pm2 (Zf (fun a w h=>YH (γ:=Unit) (fun ix'=>([.ptr (mpC [M1,M2,M3,M4,M5]),.ptr (mpC [M1,M2,M3,M4,M5]),.ptr (mpC [M3,M4,M5]),.lit (.map (some M3)),.ptr (frC f),.str f.label,.any]:List AV).getD ix' .any) (fun _=>true) [(2,fun _=>.rd (XQ bf)),(3,fun _=>.ptr [.ptr (mpC [M1,M2,M3,M4,M5])]),(4,fun _=>.ptr (frC f))] (fun j' _=>match j' with | 0=>(OB.set keyS M3 fs::OB.set keyS M1 cs::OB.set keyS M2 vs::OB.mH M4 hm::OB.mT M5 tm::R) | _=>(OB.set keyS M3 (QE fs f.label)::OB.set keyS M1 cs::OB.set keyS M2 vs::OB.mH M4 hm::OB.mT M5 tm::R)) (fun _ _=>undef) [6] 0 () (fun _=>Y) h hJ Yo Y Y Y Y Y Y hsb ⟨?_,?_,?_,?_,?_,?_,?_,U⟩ ⟨?e8_2_0,U⟩ ⟨.old 0 2 _,.old 1 3 _,.old 2 4 _,U⟩ ?n8_2))))
    exact oX Y fun hx hl=>Za8 ZeK Y (hl.env 1 3 _ Y Y) hx
    exact oX Y fun hx hl=>YE Y (hl.D 0 59 Y Y) hx
    exact oX Y fun hx hl=>ZG Zkn Y (hl.D 1 60 Y Y) hx
    exact oX Y fun hx hl=>ZB Zpq Y (hl.D 2 61 Y Y) hx
    exact oX Y fun hx hl=>ZG Zgj Y (hl.env 2 4 _ Y Y) hx
    exact oX Y fun hx hl=>ZB Qx Y (hl.D 4 63 Y Y) hx
    exact Zh Y
    case e8_2_0=>exact⟨_,Y,Y,Y,Y,fun g _ w hk hx hl _=>Zl (d_putS ZR hJ hJ0 f.label (.inl Y) hk hx (hl.D 3 62 Y Y) (hl.D 5 64 Y Y) (Rel.of_lit (.bool true))) fun v w' ⟨_,hp⟩=>⟨g,Y,fun _ _=>rfl,fun e=>(by cases e),hp⟩⟩
    clear a w h
    intro _
    dsimp only[List.map]
    refine nx (tsq (Zce keyS hJ Y Y Y (lb Y) fun m2=>?_))
    refine Zep keyS (fun z':BA=>AV.str z') hJ Y Y Y (lb Y) fun m3=>?_
    refine sq (.agg [.lit (.map (some m2)),.lit (.map (some m3))]) Y Y (lb Y) (fun a _ h=>XR (us:=[a.eval (.tmp 65),a.eval (.tmp 66)]) ZkI Y yz (Zt (h.get 1 Y) (Zt (h.get 0 Y) Z0)) Y h.x) ?_
    refine Zv ZjD hJ Y Y Y (lb Y) fun b4=>?_
    refine Zn (b:=b4) (off:=0) (es:=U2) (news:=U2) hJ hJ0 ZmU Y Y Y (lb Y) Y (fun a w h=>⟨(h.get 0 Y),(h.get 1 Y)⟩) ?_
    refine kw (fun h=>ZP hS h (m:=0) (s:=9) Y) (seK [0,4,5,6] U4 Y ?_)
    refine nx (Zf (Zf (YU tb hJ [0,1,2,3,1003,1004,1005,1006,1007] (V4 [.rd (ZwM ([f.hyps,f.dummies]:List (List Hy))),.rd (XQ (([f.hyps,f.dummies]:List (List Hy)).flatten)),.int ((([f.hyps,f.dummies]:List (List Hy)).flatten).length:Nat),_]) [4,5,6] U9 Y ⟨fun a _ hk hx hl _=>Zan (k:=2) (us:=[a.eval (.tmp 69),a.eval (.tmp 71)]) QR ZfJ Y yz (Zt (hl.D 1 69 Y Y) (Zt (hl.D 3 71 Y Y) Z0)) Y dz dz (Zk hS _ hk hx _ nlr) (jo hJ hx),iFo hS hJ (Zip hJ ([f.hyps,f.dummies]:List (List Hy)) (by refine ZjO ?_;simp;omega)) Zml,Ym ZC,U⟩ ?_)))
    refine kw (sa 6 Y (congrArg (fun z'=>AV.rd (XQ z')) (show(([f.hyps,f.dummies]:List (List Hy)).flatten)=(alH f)from by simp))) (kw (sa 7 Y (congrArg AV.int (show(((([f.hyps,f.dummies]:List (List Hy)).flatten).length:Nat):Int)=(((alH f).length:Nat):Int)from by simp))) ?_)
    refine nx (ln 4 fun hl3=>?_)
    refine ln 5 fun hl4=>?_
    refine ln 6 fun hl5=>?_
    refine Zd (lpo (ι:=Nat×(List BA)×(List (BA×BA))) (fun(k,ls,ts)=>(k≤(alH f).length)∧(ls=lsK ((alH f).take k))∧(ts=tsK ((alH f).take k))∧(∀ j,j<k→hyK cs vs fs hm tm f j=0)) (fun(_,ls,ts)=>(OB.mT m3 ts::OB.set keyS m2 ls::OB.set keyS M3 (QE fs f.label)::OB.set keyS M1 cs::OB.set keyS M2 vs::OB.mH M4 hm::OB.mT M5 tm::R)) (fun(k,_,_)=>[(75,.int (k:Nat))]) (fun(k,_,_)=>(alH f).length-k) [0,1,2,3,6,7,8] U6 (0,([]:List BA),([]:List (BA×BA))) ⟨nzl,Y,Y,fun j hj=>by omega⟩ ?_)
    rintro⟨k,ls,ts⟩ ⟨f1_1,f1_2,f1_3,f1_4⟩
    refine qso tb hJ (r7 [1000]) [_] U8 ?_
    refine cjS 7 (fun hb4=>?_) fun hb4=>?_
    ·
     have hk4:k< (alH f).length:=Int.ofNat_lt.1 (of_decide_eq_true hb4)
     refine Zb (nx (Zf (Zd (tsq (snK 1 tb Y (sy (.ptr (hyC (ge (alH f) k))) (fun h=>ZM (i:=(k:Int)) ZI Y (h.get 5 Y) (h.get 7 Y) nnn (ZT (xs:=alH f) (k:=k) sfz) Y h.x) ?_))))))
     refine snK 1 tb Y (Zv Yy hJ Y Y Y (lb Y) fun b5=>?_)
     refine snK 1 tb Y (Zn (b:=b5) (off:=0) (es:=U3) (news:=U3) hJ hJ0 YQ Y Y Y (lb Y) Y (fun a w h=>⟨(h.get 1 Y),(h.get 2 Y)⟩) ?_)
     refine kw (fun h=>ZP hS h (m:=1) (s:=11) Y) (seK [0,1,5,6,7,8,9,10,11] U9 Y ?_)
     refine nx (Zf (ZF tb hJ [0,2,3,4,5,6,7,8,1009] (V6 [.int (f.hyps.length:Nat),_,.int (Zg8 cs vs (QE fs f.label) hm tm ls ts (ge (alH f) k) (decide ((f.hyps.length:Int)≤(k:Int)))),_]) [6,8] U9 Y ⟨Ym ZC,fun _ _ hk hx hl _=>Y3 (p_hyp hJ M1 M2 M3 M4 M5 m2 m3 cs vs (QE fs f.label) hm tm ls ts (ge (alH f) k) (decide ((f.hyps.length:Int)≤(k:Int)))) ZtS Y (Zk hS _ hk hx) (hx.1) (ZH (Ze hx (mo 3 Y)) (ZH (Ze hx (mo 4 Y)) (ZH (Ze hx (mo 2 Y)) (ZH (Ze hx (mo 5 Y)) (ZH (Ze hx (mo 6 Y)) (ZH (Ze hx (mo 1 Y)) (ZH (Ze hx (mo 0 Y)) Zq))))))) (Za (hl.D 0 80 Y Y) (Za (hl.D 1 81 Y Y) (Za (hl.D 2 82 Y Y) (Za (hl.D 7 87 Y Y) Zc)))) (jo hJ hx),U⟩ ?_))
     refine qso tb hJ (r9 [1001]) U2 U10 ?_
     refine cj 9 (fun hb5=>?_) fun hb5=>?_
     ·
      have nz:=Zwu hb5
      have e0:hyK cs vs fs hm tm f k=Zg8 cs vs (QE fs f.label) hm tm ls ts (ge (alH f) k) (decide ((f.hyps.length:Int)≤(k:Int))):=by rw[hyK,←f1_2,←f1_3]
      have e5:Xy (alH f).length (hyK cs vs fs hm tm f)=hyK cs vs fs hm tm f k:=QV oz f1_4 (by rw[e0];exact nz)
      have e9:ZeY cs vs fs hm tm f bf=Zg8 cs vs (QE fs f.label) hm tm ls ts (ge (alH f) k) (decide ((f.hyps.length:Int)≤(k:Int))):=by rw[ZeY,if_neg (by rw[hb1];decide),if_neg (by rw[hb2];decide),if_neg (by rw[hb3];decide),if_pos (by rw[e5,e0];exact hb5),e5,e0]
      refine qso tb hJ [1001] U2 [_] ?_
      refine tw Zz (tw Zz ?_)
      refine tw pm4 (tw pm4 ?_)
      refine tw pm2 (tw pm4 ?_)
      exact tw pm4 (Zs (fun a w h=>ZK  (m:=0) ⟨((QE fs f.label),hm,tm),by first | (intro h9;rw[e9]at h9;exact absurd h9 (by first | decide | exact nz)) | (intro _;exact⟨Y,by rw[f2_2,ZX oz],fun k'=>by rw[NOGHOST.2 k',e3]⟩)⟩ Y h Y (eI (e9.symm))))
     ·
      have q5:=Zwv hb5
      have hf5:=ZiP q5
      refine Zb (nx (tsq (snK 4 tb Y (kw pm1 ?_))))
      refine Zc8 ZR hJ hJ0 ((ge (alH f) k).label) Y Y (.inl Y) (fun a w h=>⟨(h.get 2 Y),(h.get 0 Y),(Rel.of_lit (.bool true))⟩) ?_
      refine seK [4,5,6,7,8,9,10,11] U8 Y (nx (qso tb hJ (r8 [1001]) U2 U9 ?_))
      refine cj 8 (fun hb6=>?_) fun hb6=>?_
      ·
       try simp at hb6
       refine tw pm1 (fun a w h=>YH (γ:=Unit) (fun ix'=>([.ptr [.lit (.map (some m3))],.lit (.map (some m3)),.ptr [Zg ((ge (alH f) k).text)],.rd (Zg ((ge (alH f) k).text)),.ptr [lS (ge ((ge (alH f) k).text) 1)],.str (ge ((ge (alH f) k).text) 1),.ptr [Zg ((ge (alH f) k).text)],.rd (Zg ((ge (alH f) k).text)),.ptr [lS (ge ((ge (alH f) k).text) 0)],.str (ge ((ge (alH f) k).text) 0),.any]:List AV).getD ix' .any) (fun _=>true) [(9,fun _=>.ptr (mpC [m2,m3])),(2,fun _=>.rd (XQ bf)),(3,fun _=>.ptr [.ptr (mpC [M1,M2,M3,M4,M5])]),(4,fun _=>.ptr (frC f)),(73,fun _=>.rd (XQ (alH f))),(74,fun _=>.int ((alH f).length:Nat)),(75,fun _=>.int (k:Nat))] (fun j' _=>match j' with | 0=>(OB.mT m3 ts::OB.set keyS m2 (QE ls ((ge (alH f) k).label))::OB.set keyS M3 (QE fs f.label)::OB.set keyS M1 cs::OB.set keyS M2 vs::OB.mH M4 hm::OB.mT M5 tm::R) | _=>(OB.mT m3 (XK ts (ge ((ge (alH f) k).text) 1) (ge ((ge (alH f) k).text) 0))::OB.set keyS m2 (QE ls ((ge (alH f) k).label))::OB.set keyS M3 (QE fs f.label)::OB.set keyS M1 cs::OB.set keyS M2 vs::OB.mH M4 hm::OB.mT M5 tm::R)) (fun _ _=>undef) [10] 0 () (fun _=>Y) h hJ Yo Y Y Y Y Y Y hsb ⟨?_,?_,?_,?_,?_,?_,?_,?_,?_,?_,?_,U⟩ ⟨?e18_3_0,U⟩ ⟨.old 1 9 _,.old 2 2 _,.old 3 3 _,.old 4 4 _,.old 5 73 _,.old 6 74 _,.old 7 75 _,U⟩ ?n18_3)
       exact oX Y fun hx hl=>ZG Ze4 Y (hl.env 1 9 _ Y Y) hx
       exact oX Y fun hx hl=>ZB Zj6 Y (hl.D 0 98 Y Y) hx
       exact oX Y fun hx hl=>ZG Xb Y (hl.env 0 11 _ Y Y) hx
       exact oX Y fun hx hl=>ZB Qy Y (hl.D 2 100 Y Y) hx
       exact oX Y fun hx hl=>ZM (i:=((1:Nat):Int)) Zj Y (hl.D 3 101 Y Y) (Rel.of_lit (.int .i64 1)) nnn (ZT (xs:=(ge (alH f) k).text) (k:=1) (by have:=YN hf5 hb6;omega)) Y hx
       exact oX Y fun hx hl=>ZB Qx Y (hl.D 4 102 Y Y) hx
       exact oX Y fun hx hl=>ZG Xb Y (hl.env 0 11 _ Y Y) hx
       exact oX Y fun hx hl=>ZB Qy Y (hl.D 6 104 Y Y) hx
       exact oX Y fun hx hl=>ZM (i:=((0:Nat):Int)) Zj Y (hl.D 7 105 Y Y) (Rel.of_lit (.int .i64 0)) nnn (ZT (xs:=(ge (alH f) k).text) (k:=0) (by have:=YN hf5 hb6;omega)) Y hx
       exact oX Y fun hx hl=>ZB Qx Y (hl.D 8 106 Y Y) hx
       exact Zh Y
       case e18_3_0=>exact⟨_,Y,Y,Y,Y,fun g _ w hk hx hl _=>Zl (Zkr (f:=(fun z':BA=>AV.str z')) Zar hJ hJ0 (ge ((ge (alH f) k).text) 1) (ge ((ge (alH f) k).text) 0) (.inl Y) hk hx (hl.D 1 99 Y Y) (hl.D 5 103 Y Y) (hl.D 9 107 Y Y)) fun v w' ⟨_,hp⟩=>⟨g,Y,fun _ _=>rfl,fun e=>(by cases e),hp⟩⟩
       clear a w h
       intro _
       dsimp only[List.map]
       refine nx (YU tb hJ (r6 [1001]) [.int (k+1:Nat),_] [0] U7 Y ⟨YT,U⟩ ?_)
       exact Xk (k+1,QE ls ((ge (alH f) k).label),XK ts (ge ((ge (alH f) k).text) 1) (ge ((ge (alH f) k).text) 0)) (r7 []) ⟨oz,by rw[ZZ oz,Zg4,←f1_2],by rw[ZZ oz,Zcr,←f1_3,if_pos hb6],Z2 f1_4 (by rw[hyK,←f1_2,←f1_3];exact q5)⟩
      ·
       try simp at hb6
       refine Zb (nx (YU tb hJ [1,2,3,4,5,6,1001] [.int (k+1:Nat),_] [0] U7 Y ⟨YT,U⟩ ?_))
       refine kw pm6 (kw pm6 ?_)
       refine kw pm6 (kw pm6 ?_)
       refine kw pm6 (kw pm5 ?_)
       exact kw pm6 (Xk (k+1,QE ls ((ge (alH f) k).label),ts) (r7 []) ⟨oz,by rw[ZZ oz,Zg4,←f1_2],by rw[ZZ oz,Zcr,←f1_3,if_neg (by simp[hb6])],Z2 f1_4 (by rw[hyK,←f1_2,←f1_3];exact q5)⟩)
    ·
     have hk4:(alH f).length≤k:=by have:=of_decide_eq_false hb4;omega
     have e4:Xy (alH f).length (hyK cs vs fs hm tm f)=0:=ZaW fun j hj=>f1_4 j oz
     have e3:ts=tsK (alH f):=by rw[f1_3,ZX oz]
     have hfm:∀ y∈alH f,∃ dm,ZaS y dm=false:=fun y hy=>by obtain⟨j,hj,rfl⟩:=Xc hy;exact⟨_,ZiP (f1_4 j oz)⟩
     have h2t:∀ y∈alH f,y.floating=true→y.text.length=2:=fun y hy hf=>by obtain⟨dm,hd⟩:=hfm y hy;exact YN hd hf
     refine Zu (nx (Zf (ZF tb hJ [0,1,2,3,1002,1004] (V3 [.int (ZmR cs vs f.text),_]) [3] U6 Y ⟨fun _ _ hk hx hl _=>Y3 (ZuL hJ M1 M2 M3 M4 M5 cs vs f.text) Zmk Y (Zk hS _ hk hx) (hx.1) (ZH (Ze hx (mo 3 Y)) (ZH (Ze hx (mo 4 Y)) Zq)) (Za (hl.D 0 109 Y Y) (Za (hl.D 2 111 Y Y) Zc)) (jo hJ hx),U⟩ ?_)))
     refine ln 4 fun hl6=>?_
     refine qso tb hJ [0,1,2,3,5,1001] U2 U6 ?_
     refine cj 5 (fun hb7=>?_) fun hb7=>?_
     ·
      have nz:=Zwu hb7
      have e9:ZeY cs vs fs hm tm f bf=ZmR cs vs f.text:=by rw[ZeY,if_neg (by rw[hb1];decide),if_neg (by rw[hb2];decide),if_neg (by rw[hb3];decide),if_neg (by rw[e4];decide),if_pos hb7]
      refine qso tb hJ [1001] U2 [_] ?_
      refine tw Zz (tw Zz ?_)
      refine tw pm4 (tw pm4 ?_)
      refine tw pm2 (tw pm4 ?_)
      exact tw pm4 (Zs (fun a w h=>ZK  (m:=0) ⟨((QE fs f.label),hm,tm),by first | (intro h9;rw[e9]at h9;exact absurd h9 (by first | decide | exact nz)) | (intro _;exact⟨Y,by rw[f2_2,ZX oz],fun k'=>by rw[NOGHOST.2 k',e3]⟩)⟩ Y h Y (eI (e9.symm))))
     ·
      refine Zb (nx (Zf (ZF tb hJ [0,1,2,3,1003] [_,_,.int (Zfw vs f),_] [2] U5 Y ⟨fun _ _ hk hx hl _=>Y3 (p_sets hJ M1 M2 M3 M4 M5 vs f (hb3a.1) (hw) (fun x hx=>h2t x (List.mem_append_left _ hx))) ZtR Y (Zk hS _ hk hx) (hx.1) (ZH (Ze hx (mo 4 Y)) Zq) (Za (hl.D 0 116 Y Y) (Za (hl.D 1 117 Y Y) Zc)) (jo hJ hx),U⟩ ?_)))
      refine qso tb hJ (r5 [1001]) U2 U6 ?_
      refine cj 5 (fun hb8=>?_) fun hb8=>?_
      ·
       have nz:=Zwu hb8
       have e9:ZeY cs vs fs hm tm f bf=Zfw vs f:=by rw[ZeY,if_neg (by rw[hb1];decide),if_neg (by rw[hb2];decide),if_neg (by rw[hb3];decide),if_neg (by rw[e4];decide),if_neg (by rw[hb7];decide),if_pos hb8]
       refine qso tb hJ [1001] U2 [_] ?_
       refine tw Zz (tw Zz ?_)
       refine tw pm4 (tw pm4 ?_)
       refine tw pm2 (tw pm4 ?_)
       exact tw pm4 (Zs (fun a w h=>ZK  (m:=0) ⟨((QE fs f.label),hm,tm),by first | (intro h9;rw[e9]at h9;exact absurd h9 (by first | decide | exact nz)) | (intro _;exact⟨Y,by rw[f2_2,ZX oz],fun k'=>by rw[NOGHOST.2 k',e3]⟩)⟩ Y h Y (eI (e9.symm))))
      ·
       refine Zb (nx (Zf (ZF tb hJ [0,1,2,3,1001,1019] [_,_,.int (f.proof.length:Nat),_,_,_,_,_,_,_,_,.int (f.proof.length:Nat),_,_,_,_,_,.bool (f.proof.any (fun s=>!Qe s)),_,_] [2,11,17] U6 Y ⟨Ym ZA,Ym ZA,fun _ _ hk hx hl hc=>Y3 (XE hJ f.proof 177 [] [] (fun s=>!Qe s) (fun q'=>(Zr6 hJ q' hG).r) (ZtQ)) ZcV Y (Zk hS _ hk hx) (hx.1) Zq (Za (hl.D 16 138 Y hc) (Za (Qt 177) Zc)) (jo hJ hx),U⟩ ?_)))
       refine ln 4 fun hl7=>?_
       refine cj 5 (fun hb9=>?_) fun hb9=>?_
       ·
        have e9:ZeY cs vs fs hm tm f bf=2:=by rw[ZeY,if_neg (by rw[hb1];decide),if_neg (by rw[hb2];decide),if_neg (by rw[hb3];decide),if_neg (by rw[e4];decide),if_neg (by rw[hb7];decide),if_neg (by rw[hb8];decide),if_pos (show Zx3 f=true from hb9)]
        refine qso tb hJ [1000] [_] [_] ?_
        refine tw Zz (tw Zz ?_)
        refine tw pm4 (tw pm4 ?_)
        refine tw pm2 (tw pm4 ?_)
        exact tw pm4 (Zs (fun a w h=>ZK  (m:=0) ⟨((QE fs f.label),hm,tm),by first | (intro h9;rw[e9]at h9;exact absurd h9 (by first | decide | exact nz)) | (intro _;exact⟨Y,by rw[f2_2,ZX oz],fun k'=>by rw[NOGHOST.2 k',e3]⟩)⟩ Y h Y (eI (e9.symm))))
       ·
        refine Zb (nx (ZF tb hJ [0,1,2,3,1001,1002] [_,.rd (XQ (QQ f.hyps)),_] [1] U6 Y ⟨iFo hS hJ (Zdx hJ f (by refine ZjO ?_;omega)) Zmq,U⟩ ?_))
        refine ln 4 fun hl8=>?_
        refine ZF tb hJ [0,2,3,1008,1009] (V3 [.int (Zhh (bf.map Hy.label) ((QQ f.hyps).map Hy.label):Nat),_,.int ((QQ f.hyps).length:Nat),_,.int ((QQ f.hyps).length:Nat),.rd (XQ ((QQ f.hyps).drop (Zhh (bf.map Hy.label) ((QQ f.hyps).map Hy.label)))),_]) [3,5,7,8] U5 Y ⟨iFo hS hJ (Zr8 hJ bf (QQ f.hyps)) ZtO,Ym ZC,Ym ZC,fun _ _ _ hx hl _=>ZrL (ys:=(QQ f.hyps).drop (Zhh (bf.map Hy.label) ((QQ f.hyps).map Hy.label))) (lo:=Zhh (bf.map Hy.label) ((QQ f.hyps).map Hy.label)) Y ZI (fun _=>Y) Y (hl.D 0 144 Y Y) (hl.D 3 147 Y Y) (hl.D 5 149 Y Y) (hl.D 7 151 Y Y) (by have:=Zqw (bf.map Hy.label) ((QQ f.hyps).map Hy.label);simpa using this) hx,U⟩ ?_
        refine ln 3 fun hl9=>?_
        refine Zf (ZF tb hJ [0,1,2,1002] [_,.fn 180 [.ptr [.ptr (mpC [M1,M2,M3,M4,M5])]],.bool (((QQ f.hyps).drop (Zhh (bf.map Hy.label) ((QQ f.hyps).map Hy.label))).any (fun y=>(Zy hm y.label).isSome))] [1,2] U4 Y ⟨fun _ _ _ hx hl _=>YR (caps:=[(.tmp 3)]) Y (Za (hl.env 1 3 _ Y Y) Zc) hx,fun _ _ hk hx hl _=>Y3 (ZeG hJ ((QQ f.hyps).drop (Zhh (bf.map Hy.label) ((QQ f.hyps).map Hy.label))) 180 [.ptr [.ptr (mpC [M1,M2,M3,M4,M5])]] [OB.mH M4 hm] (fun y=>(Zy hm y.label).isSome) (fun q'=>Zr5 hJ M1 M2 M3 M4 M5 hm q') (ZtN)) Zmp Y (Zk hS _ hk hx) (hx.1) (ZH (Ze hx (mo 5 Y)) Zq) (Za (hl.D 0 153 Y Y) (Za (hl.D 1 154 Y Y) Zc)) (jo hJ hx),U⟩ ?_)
        refine cj 3 (fun hb10=>?_) fun hb10=>?_
        ·
         have e9:ZeY cs vs fs hm tm f bf=7:=by rw[ZeY,if_neg (by rw[hb1];decide),if_neg (by rw[hb2];decide),if_neg (by rw[hb3];decide),if_neg (by rw[e4];decide),if_neg (by rw[hb7];decide),if_neg (by rw[hb8];decide),if_neg (by rw[show Zx3 f=_ from hb9];decide),if_pos hb10]
         refine qso tb hJ [1000] [_] [_] ?_
         refine tw Zz (tw Zz ?_)
         refine tw pm4 (tw pm4 ?_)
         refine tw pm2 (tw pm4 ?_)
         exact tw pm4 (Zs (fun a w h=>ZK  (m:=0) ⟨((QE fs f.label),hm,tm),by first | (intro h9;rw[e9]at h9;exact absurd h9 (by first | decide | exact nz)) | (intro _;exact⟨Y,by rw[f2_2,ZX oz],fun k'=>by rw[NOGHOST.2 k',e3]⟩)⟩ Y h Y (eI (e9.symm))))
        ·
         have e9:ZeY cs vs fs hm tm f bf=0:=by rw[ZeY,if_neg (by rw[hb1];decide),if_neg (by rw[hb2];decide),if_neg (by rw[hb3];decide),if_neg (by rw[e4];decide),if_neg (by rw[hb7];decide),if_neg (by rw[hb8];decide),if_neg (by rw[show Zx3 f=_ from hb9];decide),if_neg (by rw[hb10];decide)]
         refine Zb (nx (Zf (Zf (YU tb hJ [0,1,1005,1006,1007] (V4 [.rd (ZwM ([f.hyps,f.dummies]:List (List Hy))),.rd (XQ (([f.hyps,f.dummies]:List (List Hy)).flatten)),.int ((([f.hyps,f.dummies]:List (List Hy)).flatten).length:Nat),_]) [4,5,6] U5 Y ⟨fun a _ hk hx hl _=>Zan (k:=2) (us:=[a.eval (.tmp 157),a.eval (.tmp 159)]) QR ZfJ Y yz (Zt (hl.D 1 157 Y Y) (Zt (hl.D 3 159 Y Y) Z0)) Y dz dz (Zk hS _ hk hx _ nlr) (jo hJ hx),iFo hS hJ (Zip hJ ([f.hyps,f.dummies]:List (List Hy)) (by refine ZjO ?_;simp;omega)) Zml,Ym ZC,U⟩ ?_))))
         refine kw (sa 2 Y (congrArg (fun z'=>AV.rd (XQ z')) (show(([f.hyps,f.dummies]:List (List Hy)).flatten)=(alH f)from by simp))) (kw (sa 3 Y (congrArg AV.int (show(((([f.hyps,f.dummies]:List (List Hy)).flatten).length:Nat):Int)=(((alH f).length:Nat):Int)from by simp))) ?_)
         refine nx (Zd (lpo (ι:=Nat×(List (BA×Hy))) (fun(k,hn)=>(k≤(alH f).length)∧(hn=hmK hm ((alH f).take k))) (fun(_,hn)=>(OB.mT m3 ts::OB.set keyS m2 ls::OB.set keyS M3 (QE fs f.label)::OB.set keyS M1 cs::OB.set keyS M2 vs::OB.mH M4 hn::OB.mT M5 tm::R)) (fun(k,_)=>[(163,.int (k:Nat))]) (fun(k,_)=>(alH f).length-k) (r5 []) U4 (0,hm) ⟨nzl,Y⟩ ?_))
         rintro⟨k,hn⟩ ⟨f2_1,f2_2⟩
         refine qso tb hJ (r5 [1000]) [_] U6 ?_
         refine cjS 5 (fun hb11=>?_) fun hb11=>?_
         ·
          have hk4:k< (alH f).length:=Int.ofNat_lt.1 (of_decide_eq_true hb11)
          refine Zb (nx (Zf (Zd (tsq (sy (.ptr (hyC (ge (alH f) k))) (fun h=>ZM (i:=(k:Int)) ZI Y (h.get 2 Y) (h.get 4 Y) nnn (ZT (xs:=alH f) (k:=k) sfz) Y h.x) ?_)))))
          refine snK 1 tb Y (Qk (cs:=hyC (ge (alH f) k)) ZaG Y Y Y (lb Y) Y Y Y dz (m:=0) Y Y (fun a w h=>Zk hS _ h.keep h.x _ nlr) (fun a w h w' hk'=>Yw hJ _ _ hk' h.x) ?_)
          refine seK [0,3,4,5,6,7] U6 Y (nx (tw pm5 ?_))
          refine fun a w h=>YH (γ:=Unit) (fun ix'=>([.ptr (mpC [M1,M2,M3,M4,M5]),.ptr (mpC [M1,M2,M3,M4,M5]),.ptr (mpC [M4,M5]),.lit (.map (some M4)),.ptr (hyC (ge (alH f) k)),.str ((ge (alH f) k).label),.agg (hyC (ge (alH f) k)),.agg (hyC (ge (alH f) k)),.any]:List AV).getD ix' .any) (fun _=>true) [(9,fun _=>.ptr (mpC [m2,m3])),(3,fun _=>.ptr [.ptr (mpC [M1,M2,M3,M4,M5])]),(161,fun _=>.rd (XQ (alH f))),(162,fun _=>.int ((alH f).length:Nat)),(163,fun _=>.int (k:Nat))] (fun j' _=>match j' with | 0=>(OB.mH M4 hn::OB.mT m3 ts::OB.set keyS m2 ls::OB.set keyS M3 (QE fs f.label)::OB.set keyS M1 cs::OB.set keyS M2 vs::OB.mT M5 tm::R) | _=>(OB.mH M4 (XK hn ((ge (alH f) k).label) (ge (alH f) k))::OB.mT m3 ts::OB.set keyS m2 ls::OB.set keyS M3 (QE fs f.label)::OB.set keyS M1 cs::OB.set keyS M2 vs::OB.mT M5 tm::R)) (fun _ _=>undef) [8] 0 () (fun _=>Y) h hJ Yo Y Y Y Y Y Y hsb ⟨?_,?_,?_,?_,?_,?_,?_,?_,?_,U⟩ ⟨?e35_4_0,U⟩ ⟨.old 1 9 _,.old 2 3 _,.old 3 161 _,.old 4 162 _,.old 5 163 _,U⟩ ?n35_4
          exact oX Y fun hx hl=>Za8 ZeK Y (hl.env 2 3 _ Y Y) hx
          exact oX Y fun hx hl=>YE Y (hl.D 0 167 Y Y) hx
          exact oX Y fun hx hl=>ZG Q6 Y (hl.D 1 168 Y Y) hx
          exact oX Y fun hx hl=>ZB ZeJ Y (hl.D 2 169 Y Y) hx
          exact oX Y fun hx hl=>ZG Zbg Y (hl.env 0 18 _ Y Y) hx
          exact oX Y fun hx hl=>ZB Qx Y (hl.D 4 171 Y Y) hx
          exact oX Y fun hx hl=>QG Za2 Y (hl.env 0 18 _ Y Y) nlr hx
          exact oY Y fun hk hx hl=>ZaL (Zly hJ (ge (alH f) k) (by refine ZvO ?_;obtain⟨dm,hd⟩:=hfm _ (Zp (by omega:k< (alH f).length));have:=Zp4 hd;omega)) Zms Y (Zk hS _ hk hx) (hx.1) (Za (hl.D 6 173 Y Y) Zc) (jo hJ hx)
          exact Zh Y
          case e35_4_0=>exact⟨_,Y,Y,Y,Y,fun g _ w hk hx hl _=>Zl (Zkr (f:=(fun z':Hy=>AV.agg (hyC z'))) XV hJ hJ0 ((ge (alH f) k).label) (ge (alH f) k) (.inl Y) hk hx (hl.D 3 170 Y Y) (hl.D 5 172 Y Y) (hl.D 7 174 Y Y)) fun v w' ⟨_,hp⟩=>⟨g,Y,fun _ _=>rfl,fun e=>(by cases e),hp⟩⟩
          clear a w h
          intro _
          dsimp only[List.map]
          refine nx (YU tb hJ [0,1,2,3,1001] [.int (k+1:Nat),_] [0] U5 Y ⟨YT,U⟩ ?_)
          refine kw pm6 (kw pm1 ?_)
          refine kw pm6 (kw pm6 ?_)
          refine kw pm6 (kw pm6 ?_)
          exact kw pm6 (Xk (k+1,XK hn ((ge (alH f) k).label) (ge (alH f) k)) (r5 []) ⟨oz,by rw[ZZ oz,ZsS,←f2_2]⟩)
         ·
          have hk4:(alH f).length≤k:=by have:=of_decide_eq_false hb11;omega
          refine Zu (nx (tw pm6 (Zf (fun a w h=>YH (γ:= { q':List (BA×BA) // ∀ k',Zy q' k'=if(Zy ts k').isSome then Zy ts k' else Zy tm k' }) (fun ix'=>([.ptr (mpC [M1,M2,M3,M4,M5]),.ptr (mpC [M1,M2,M3,M4,M5]),.ptr [.lit (.map (some M5))],.lit (.map (some M5)),.ptr [.lit (.map (some m3))],.lit (.map (some m3)),.any]:List AV).getD ix' .any) (fun _=>true) [] (fun j' g=>match j' with | 0=>(OB.mT M5 tm::OB.mT m3 ts::OB.set keyS m2 ls::OB.set keyS M3 (QE fs f.label)::OB.set keyS M1 cs::OB.set keyS M2 vs::OB.mH M4 hn::R) | _=>(OB.mT M5 g.1::OB.mT m3 ts::OB.set keyS m2 ls::OB.set keyS M3 (QE fs f.label)::OB.set keyS M1 cs::OB.set keyS M2 vs::OB.mH M4 hn::R)) (fun k' _=>match k' with | 0=>(.tuple #[]) | _=>undef) [6] 0 ⟨Ztd tm ts,Zi5 tm ts⟩ (fun _=>Y) h hJ Yo Y Y Y Y Y Y hsb ⟨?_,?_,?_,?_,?_,?_,?_,U⟩ ⟨?e37_5_0,U⟩ trivial ?n37_5))))
          exact oX Y fun hx hl=>Za8 ZeK Y (hl.env 1 3 _ Y Y) hx
          exact oX Y fun hx hl=>YE Y (hl.D 0 176 Y Y) hx
          exact oX Y fun hx hl=>ZG Zkm Y (hl.D 1 177 Y Y) hx
          exact oX Y fun hx hl=>ZB Zj6 Y (hl.D 2 178 Y Y) hx
          exact oX Y fun hx hl=>ZG Ze4 Y (hl.env 0 9 _ Y Y) hx
          exact oX Y fun hx hl=>ZB Zj6 Y (hl.D 4 180 Y Y) hx
          exact Zh Y
          case e37_5_0=>exact⟨_,Y,Y,Y,Y,fun _ _ w hk hx hl _=>Zl (Zu8 (O:=[OB.mT M5 tm,OB.mT m3 ts]) (R:=(OB.set keyS m2 ls::OB.set keyS M3 (QE fs f.label)::OB.set keyS M1 cs::OB.set keyS M2 vs::OB.mH M4 hn::R)) (Zse hJ M5 m3 tm ts (by rw[e3];exact Zrv _ h2t hsm)) ZtM Y hS hJ0 Zq hk hx (Za (hl.D 3 179 Y Y) (Za (hl.D 5 181 Y Y) Zc))) fun v w' ⟨i,hp,hv⟩=>⟨i,Y,fun k' hk'=>absurd hk' (Nat.not_lt_zero _),fun _=>ZrF hv,hp⟩⟩
          clear a w h
          intro z6
          dsimp only[List.map]
          refine nx (qso tb hJ [1000] [_] [_] ?_)
          refine tw pm1 (tw Zz ?_)
          refine tw pm1 (tw Zz ?_)
          refine tw pm4 (tw pm2 ?_)
          refine tw pm4 (tw pm4 ?_)
          exact Zs (fun a w h=>ZK  (m:=0) ⟨((QE fs f.label),hn,z6.1),by first | (intro h9;rw[e9]at h9;exact absurd h9 (by first | decide | exact nz)) | (intro _;exact⟨Y,by rw[f2_2,ZX oz],fun k'=>by rw[z6.2 k',e3]⟩)⟩ Y h Y (eI (e9.symm)))
theorem ZkJ:Zb9 Tryz.prog 219 5:=⟨#[.map none,.map none,.map none,.map none,.map none],Y,fun i=>(#[(0,1),(1,1),(2,1),(3,1),(4,1)]:Array (Nat×Nat))[i]?,fun j hj=>by rcases j with _ | _ | _ | _ | _ | j<;>first | rfl | omega,fun parts=>by kernel_rfl⟩
theorem Zwm {J:WP} (hJ:Stab J) (d:Db) (hw:∀ f∈d.frames,f.wide.length*32≤140737488351232) (hG:Xm J):Fn Tryz.prog J 112 [.agg (dbC d)] (.int (ZcU d)):=by
 refine fE Tryz.func112 fun S w0 hS hJ0=>?_
 refine tw Z4 (ZF tb hJ [1000] [.ptr (dbC d),_] [0] [_] Y ⟨iBo hS hJ,U⟩ ?_)
 refine Zf (ZF tb hJ [0,1001,1015] [_,_,.int (d.frames.length:Nat),_,_,_,_,.int (d.consts.length:Nat),_,_,_,_,_,.int (d.vars.length:Nat),_,_] [2,7,13] U3 Y ⟨Ym QT,Ym ZA,Ym ZA,U⟩ ?_)
 refine ln 1 fun hl1=>?_
 refine cj 2 (fun hb1=>?_) fun hb1=>?_
 ·
  have e9:ZcU d=8:=by rw[ZcU,if_pos hb1]
  refine qso tb hJ [1000] [_] [_] ?_
  exact tRo 0 (hE:=eI (e9.symm))
 ·
  replace hb1:=(Bool.not_eq_true _).mpr hb1
  refine Zb (nx (tsq (Zce keyS hJ Y Y Y (lb Y) fun m1=>?_)))
  refine Zce keyS hJ Y Y Y (lb Y) fun m2=>?_
  refine Zce keyS hJ Y Y Y (lb Y) fun m3=>?_
  refine Zep keyS (fun z':Hy=>AV.agg (hyC z')) hJ Y Y Y (lb Y) fun m4=>?_
  refine Zep keyS (fun z':BA=>AV.str z') hJ Y Y Y (lb Y) fun m5=>?_
  refine sq (.agg [.lit (.map (some m1)),.lit (.map (some m2)),.lit (.map (some m3)),.lit (.map (some m4)),.lit (.map (some m5))]) Y Y (lb Y) (fun a _ h=>XR (us:=[a.eval (.tmp 25),a.eval (.tmp 26),a.eval (.tmp 27),a.eval (.tmp 28),a.eval (.tmp 29)]) ZkJ Y yz (Zt (h.get 4 Y) (Zt (h.get 3 Y) (Zt (h.get 2 Y) (Zt (h.get 1 Y) (Zt (h.get 0 Y) Z0))))) Y h.x) ?_
  refine sy (.ptr (mpC [m1,m2,m3,m4,m5])) (fun h=>Q1 Y (h.get 0 Y) (Zk hS _ h.keep h.x _ nlr) (jo hJ h.x)) ?_
  refine snK 1 tb Y (seK [0,8] U2 Y ?_)
  refine nx (Zf (tsq (snK 2 tb Y (kw pm2 ?_))))
  refine kw pm2 (kw pm2 ?_)
  refine kw pm3 (kw pm4 ?_)
  refine QK (O:=[OB.set keyS m1 ([]:List BA),OB.set keyS m2 ([]:List BA)]) (R:=[OB.mT m5 ([]:List (BA×BA)),OB.mH m4 ([]:List (BA×Hy)),OB.set keyS m3 ([]:List BA)]) (Zo6 hJ m1 m2 m3 m4 m5 d) Zt0 Y Y Y (lb Y) hS hJ0 Zq (fun a w h=>(Za (h.get 1 Y) (Za (h.get 0 Y) Zc))) fun z6=>?_
  refine snK 1 tb Y (seK [0,4,5] U3 Y ?_)
  refine nx (qso tb hJ [0,1,2,1001] U2 U4 ?_)
  refine cj 3 (fun hb2=>?_) fun hb2=>?_
  ·
   have e9:ZcU d=Zdu d:=by rw[ZcU,if_neg hb1,if_pos hb2]
   refine qso tb hJ [1001] U2 [_] ?_
   exact tRo 0 (hE:=eI (e9.symm))
  ·
   have e2:Zdu d=0:=Zwv hb2
   have z2:=z6.2 e2
   replace hb2:=(Bool.not_eq_true _).mpr hb2
   refine tw (ob0 (congrArg (fun z'=>OB.set keyS m1 (z')) (show z6.1.1=d.consts from by rw[z2]))) (tw (ob1 (congrArg (fun z'=>OB.set keyS m2 (z')) (show z6.1.2=d.vars from by rw[z2]))) ?_)
   refine Zb (nx (qso tb hJ [1,2,1000] [_] U3 ?_))
   refine Zf (ZF tb hJ [0,2,1001,1002,1003] [_,_,.int (d.frames.length:Nat),_] [2] U5 Y ⟨Ym QT,U⟩ ?_)
   refine Zd (tw (fun h=>Xx h (m:=1) (s:=5) Y) (lpo (ι:=Nat×(List Hy)×(List BA)×(List (BA×Hy))×(List (BA×BA))) (fun(k,bf,fs,hm,tm)=>(k≤d.frames.length)∧(KInv d k fs hm tm bf)∧(∀ j,j<k→frE d j=0)) (fun(_,_,fs,hm,tm)=>[OB.set keyS m1 d.consts,OB.set keyS m2 d.vars,OB.mT m5 tm,OB.mH m4 hm,OB.set keyS m3 fs]) (fun(k,bf,_,_,_)=>[(41,.int (k:Nat)),(5,.rd (XQ bf))]) (fun(k,_,_,_,_)=>d.frames.length-k) [1,2,3,4,0] U3 (0,[],([]:List BA),([]:List (BA×Hy)),([]:List (BA×BA))) ⟨nzl,ZpN d,fun j hj=>by omega⟩ ?_))
   rintro⟨k,bf,fs,hm,tm⟩ ⟨f1_1,f1_2,f1_3⟩
   refine qso tb hJ (r5 [1000]) [_] U6 ?_
   refine ln 4 fun hl2=>?_
   refine cjS 5 (fun hb3=>?_) fun hb3=>?_
   ·
    try simp at hb3
    refine Zb (nx (Zf (Zd (tsq (sy (.ptr (frC (ge d.frames k))) (fun h=>ZM (i:=(k:Int)) Yu Y (h.get 1 Y) (h.get 3 Y) nnn (ZT (xs:=d.frames) (k:=k) sfz) Y h.x) ?_)))))
    refine snK 1 tb Y (Qk (cs:=frC (ge d.frames k)) ZkT Y Y Y (lb Y) Y Y Y dz (m:=0) Y Y (fun a w h=>Zk hS _ h.keep h.x _ nlr) (fun a w h w' hk'=>Yw hJ _ _ hk' h.x) ?_)
    refine seK [0,3,4,5,6,7] U6 Y (nx (Zf (tsq ?_)))
    refine snK 3 tb Y (kw pm2 ?_)
    refine kw pm3 (kw pm4 ?_)
    refine kw pm4 (kw pm4 ?_)
    refine QK (O:=[OB.set keyS m1 d.consts,OB.set keyS m2 d.vars,OB.set keyS m3 fs,OB.mH m4 hm,OB.mT m5 tm]) (R:=[]) (Zwb hJ m1 m2 m3 m4 m5 d.consts d.vars fs hm tm (ge d.frames k) bf (hw _ (Zp oz)) (hG)) ZtZ Y Y Y (lb Y) hS hJ0 Zq (fun a w h=>(Za (h.get 2 Y) (Za (h.get 1 Y) (Za (h.get 0 Y) Zc)))) fun z7=>?_
    refine snK 1 tb Y (seK [0,5,6,7,8,9] U6 Y ?_)
    refine nx (qso tb hJ (r6 [1001]) U2 U7 ?_)
    refine cj 6 (fun hb4=>?_) fun hb4=>?_
    ·
     have e4:frE d k≠0:=by rw[←Zdk f1_2 oz];exact Zwu hb4
     have e9:ZcU d=ZeY d.consts d.vars fs hm tm (ge d.frames k) bf:=by rw[ZcU,if_neg hb1,if_neg hb2,QV oz f1_3 e4,Zdk f1_2 oz]
     refine qso tb hJ [1001] U2 [_] ?_
     exact tRo 0 (hE:=eI (e9.symm))
    ·
     have e4:frE d k=0:=by rw[←Zdk f1_2 oz];exact Zwv hb4
     have z4:=z7.2 (Zwv hb4)
     refine Zb (nx (YU tb hJ [2,3,4,5,1001,1002] [_,.rd (XQ (QQ (ge d.frames k).hyps)),_] [1] U6 Y ⟨iFo hS hJ (Zdx hJ (ge d.frames k) (by have:=(ZlY e4).1;omega)) Zmq,U⟩ ?_))
     refine nx (ln 4 fun hl3=>?_)
     refine YU tb hJ [0,1,2,5,1001] [.int (k+1:Nat),_] [0] U5 Y ⟨YT,U⟩ ?_
     refine kw pm2 (kw pm3 ?_)
     refine kw pm4 (kw pm4 ?_)
     exact kw pm4 (Xk (k+1,(QQ (ge d.frames k).hyps),z7.1.1,z7.1.2.1,z7.1.2.2) [0,1,2,4,3] ⟨oz,by rw[z4.1,z4.2.1];exact ZpO f1_2 oz e4 z4.2.2,Z2 f1_3 e4⟩)
   ·
    try simp at hb3
    have e9:ZcU d=0:=by rw[ZcU,if_neg hb1,if_neg hb2];exact ZaW fun j hj=>f1_3 j oz
    refine Zu (nx (qso tb hJ [1000] [_] [_] ?_))
    exact tRo 0 (hE:=eI (e9.symm))
end Go.Proofs.YtdfadihhfppjaaaGreatDoor
