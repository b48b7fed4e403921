/-
  DERIVED: the shelf's contracts at this dump, in plain words.
  CONTRACTS of the program: frames' small functions.
  CONTRACTS of the program: classes of bytes, labels, symbols.
  CONTRACTS of the program: whether a word can stand in a proof.
  PLAIN SPECIFICATIONS: the sets of a frame, as the program looks at them.
  CONTRACTS of the program: what is known of a database.
  CONTRACTS of the program: the sets of a frame, closures.
  CONTRACTS of the library: room, rows in a row, copies of maps.
  PLAIN SPECIFICATIONS: a frame's error by what the program knows, and what it knows behind it.
  CONTRACTS of the program: a frame.
  PLAIN LAW: what the program knows of a database and what the reference computes anew.
  PLAIN LAW: the program's check of a database is the reference's.
  CONTRACTS of the program: the check of a database.
-/
import Derived.Test.YtneapgbkkkjagaaGreatDoorYR
namespace Go.Proofs
open Go.Shelf
def Tryz.lays106_ren:Go.Shelf.Ren:=⟨fun | 106=>155 | 213=>178 | 265=>196 | n=>n,fun | 9=>9 | 3=>3 | n=>n,fun | n=>n⟩
theorem Tryz.lays106:Go.Proofs.Lays.n106 Tryz.prog Tryz.lays106_ren:= {
 mixed:=by kernel_rfl
 f106:=Tryz.func155.trans (congrArg some (by kernel_rfl))
 f213:=Tryz.func178.trans (congrArg some (by kernel_rfl))
 f265:=Tryz.func196.trans (congrArg some (by kernel_rfl))
 t3:=Tryz.underlying3
 a3:=Tryz.isAgg3
 z3:=Tryz.sizeOf3
 v3:=Tryz.zeroValue3
 t9:=Tryz.underlying9
 a9:=Tryz.isAgg9
 z9:=Tryz.sizeOf9
 v9:=Tryz.zeroValue9 }
open Go.RowKit in
theorem Tryz.strings_Compare (a b:ByteArray) (w:World):
 Calls Tryz.prog 155 #[.string a,.string b] w fun e w'=>e= .returned (.int .i64 (Lib.compareBytes a.data.toList b.data.toList))∧w'=w:=Any.strings_Compare Tryz.lays106 a b w
end Go.Proofs
set_option maxHeartbeats 8000000
set_option maxRecDepth 100000
namespace Go.Proofs.YtneapgbkkkjagaaGreatDoor
open Go.Proofs.Tryz (prog)
open Go.RowKit
theorem Zia {J:WP} (_:Stab J) (x y:BA):Fn prog J 155 [.str x,.str y] (.int (Zuj x y)):=fun S w vs hS hJ0 h=>by
 simp only[RelL]at h
 obtain⟨u,_,rfl,h1,u2,_,rfl,h2,rfl⟩:=h
 rw[h1.lit,h2.lit]
 exact Calls.mono (Tryz.strings_Compare x y w) fun e w' ⟨he,hw⟩=>⟨_,he,Rel.of_lit _,hw▸Keeps.refl _ _,hw▸hJ0⟩
section
variable {J:WP} (hJ:Stab J)
include hJ
theorem ZfN (x y:Pr)  :Fn prog J 128 [.agg (prC x),.agg (prC y)] (.int (ZiJ x y)):=by
 refine fE Tryz.func128 fun S w0 hS hJ0=>?_
 clear hJ0
 refine hqs tb hJ [1000,1001] [.ptr (prC x),.ptr (prC y),_] [0,1] U2 rfl ⟨iBs hS hJ,iBs hS hJ,trivial⟩ ?_
 refine Ze (hqs tb hJ [0,1,1005] (V4 [.int (Zuj x.a y.a),_]) [4] U3 rfl ⟨iFn hS hJ (Zia hJ (x:=x.a) (y:=y.a) ) Zlw,trivial⟩ ?_)
 refine qs tb hJ [0,1,2,1001] U2 U4 ?_
 refine cj 3 (fun hb1=>?_) fun hb1=>?_
 ·
  try simp at hb1
  refine qs tb hJ [1001] U2 [_] ?_
  exact tRn 0 (hE:=eI (by grind[ZiJ]))
 ·
  try simp at hb1
  refine Zb (nx (hqs tb hJ [1005] (V4 [.int (Zuj x.b y.b),_]) [4] [_] rfl ⟨iFn hS hJ (Zia hJ (x:=x.b) (y:=y.b) ) Zlw,trivial⟩ ?_))
  exact tRn 0 (hE:=eI (by grind[ZiJ]))
theorem ZhW (x y:Hy)  :Fn prog J 124 [.agg (hyC x),.agg (hyC y)] (.bool (Zmr x y)):=by
 refine fE Tryz.func124 fun S w0 hS hJ0=>?_
 clear hJ0
 refine hqs tb hJ [1000,1001] [.ptr (hyC x),.ptr (hyC y),_] [0,1] U2 rfl ⟨iBs hS hJ,iBs hS hJ,trivial⟩ ?_
 refine hqs tb hJ [1019] (V10 [.bool (x.floating==y.floating),_,_,_,_,_,_,.bool (decide (x.text=y.text)),_,_]) [10,17] [_] rfl ⟨fun _ _ _ hx hl hc=>ZtX Znk rfl (hl.D 7 12 rfl hc) (hl.D 9 14 rfl hc) hx,iFn hS hJ (ZgU hJ x.text y.text) ZjW,trivial⟩ ?_
 exact tRn 0 (hE:=eB (by first | rfl | grind[Zu]))
theorem Zmf (hs:List Hy) (t:List BA) (b:hs.length≤40):Fn prog J 127 [.rd (Y1 hs),.rd (Zf t)] (.rd (Ye (t::(YZ hs).map Hy.text))):=by
 refine fE Tryz.func127 fun S w0 hS hJ0=>?_
 refine tw ZR (ln 0 fun hl1=>?_)
 refine ln 1 fun hl2=>?_
 refine qso tb hJ [0,1] [_] U2 ?_
 refine tsq (snK 1 tb rfl (Zny ZF ZaL hJ rfl rfl rfl (lb rfl) (fun _ _ h=>(h.get 0 rfl)) fun v1=>?_))
 refine snK 1 tb rfl (seK [0,3] U2 rfl ?_)
 refine nx (Ze (ZG tb hJ [0,1000,1001,1002] [_,.int (hs.length:Nat),_] [1] U4 rfl ⟨Z3 Zz,trivial⟩ ?_))
 refine Zc (lpo (ι:=Nat×Value×(List (List BA))) (fun(k,_,out)=>(k≤hs.length)∧(out=t::(YZ (hs.take k)).map Hy.text)∧(out.length≤k+1)) (fun(_,v,out)=>[OB.row v 22 1 (out.map Zn)]) (fun(k,v,_)=>[(12,.int (k:Nat)),(5,.lit v)]) (fun(k,_,_)=>hs.length-k) [1,2,3,0] U2 (0,v1,[t]) ⟨nzl,by simp[YZ],by simp⟩ ?_)
 rintro⟨k,v,out⟩ ⟨f1_1,f1_2,f1_3⟩
 refine qso tb hJ [0,1,2,3,1000] [_] U5 ?_
 refine cjS 4 (fun hb1=>?_) fun hb1=>?_
 ·
  try simp at hb1
  refine Zb (nx (Ze (Zc (tsq (sy (.ptr (hyC (ge hs k))) (fun h=>ZQ (i:=(k:Int)) Zo rfl (h.get 0 rfl) (h.get 2 rfl) nnn (Z0 (xs:=hs) (k:=k) sfz) rfl h.x) ?_)))))
  refine snK 1 tb rfl (XZ (cs:=hyC (ge hs k)) ZbW rfl rfl rfl (lb rfl) rfl rfl rfl dz (m:=0) rfl rfl (fun a w h=>Zq hS _ h.keep h.x _ nlr) (fun a w h w' hk'=>YA hJ _ _ hk' h.x) ?_)
  refine seK [0,3,4,5,6] U5 rfl (nx (qso tb hJ (r5 [1002]) U3 U6 ?_))
  refine cj 5 (fun hb2=>?_) fun hb2=>?_
  ·
   try simp at hb2
   refine ZE (snK 3 tb rfl (sy (.rd (Ye ([(ge hs k).text]))) (fun h=>YC ZF ZaL rfl (h.get 0 rfl) (Zq hS _ h.keep h.x _ nlr) (jo hJ h.x)) ?_))
   refine ZS (f:=Zn) (m:=3) (s:=19) out ([(ge hs k).text]) (fun _=>rfl) Qy hJ hJ0 rfl rfl rfl (lb rfl) rfl rfl (fun a w h=>(h.get 0 rfl)) sfz sfz fun v2=>?_
   refine snK 1 tb rfl (seK [0,2,3,7,8,9] U6 rfl ?_)
   refine nx (ln 1 fun hl3=>?_)
   refine ln 2 fun hl4=>?_
   refine Yo tb hJ [0,3,4,1001] [.int (k+1:Nat),_] [0] U4 rfl ⟨Z7,trivial⟩ ?_
   exact YE (k+1,v2,out++([(ge hs k).text])) [1,2,3,0] ⟨oz,by rw[YZ,Z4 oz,f1_2];simp[YZ,hb2],by simp;omega⟩
  ·
   try simp at hb2
   refine Zb (nx (Yo tb hJ [1,2,4,1001] [.int (k+1:Nat),_] [0] U4 rfl ⟨Z7,trivial⟩ ?_))
   exact YE (k+1,v,out) [0,1,3,2] ⟨oz,by rw[YZ,Z4 oz,f1_2];simp[YZ,hb2],oz⟩
 ·
  try simp at hb1
  refine Zs (nx (qso tb hJ [1001] U2 [_] ?_))
  exact tw (fun h=>ZO hS h (m:=0) (s:=4) rfl) (tRo 0 (hE:=congrArg (fun z=>AV.rd (Ye z)) (show out=(t::(YZ hs).map Hy.text)from by rw[f1_2,ZD oz])))
theorem Zjn (M:Nat) (vs:List BA) (l:List (List BA))  :FnM (ι:=Nat) prog J 126 [OB.set keyS M vs] [.lit (.map (some M)),.rd (Ye l)] [] (fun i'=>.lit (.map (some (i')))) (fun i'=>[OB.set keyS (i') (Zab vs l.flatten)]):=by
 refine fEM Tryz.func126 fun S w0 R hS hJ0 hH=>?_
 refine Yq (B:=So J S w0 31 (R) [(0,.lit (.map (some M))),(1,.rd (Ye l))]) ?_ fun a w h=>h
 refine ln 1 fun hl1=>?_
 refine ZG tb hJ [0,1] [.rd (.lit (.map none))] [0] U2 rfl ⟨fun _ _ _ hx _ _=>XW rfl (Rel.of_lit (.map none)) hx,trivial⟩ ?_
 refine tsq (ZbC keyS hJ rfl rfl rfl (lb rfl) fun m1=>?_)
 refine snK 1 tb rfl (seK [0,2,3] U3 rfl ?_)
 refine nx (Ze (ZG tb hJ [0,1,1000,1001,1002] [_,.int (l.length:Nat),_] [1] U5 rfl ⟨Z3 Y9,trivial⟩ ?_))
 refine Zc (lpo (ι:=Nat×(List BA)) (fun(k,ys)=>(k≤l.length)∧(ys=Zab vs (l.take k).flatten)) (fun(_,ys)=>(OB.set keyS m1 ys::R)) (fun(k,_)=>[(13,.int (k:Nat))]) (fun(k,_)=>l.length-k) (r5 []) U4 (0,([]:List BA)) ⟨nzl,by simp[Zab]⟩ ?_)
 rintro⟨k,ys⟩ ⟨f1_1,f1_2⟩
 refine qso tb hJ (r5 [1000]) [_] U6 ?_
 refine cjS 5 (fun hb1=>?_) fun hb1=>?_
 ·
  try simp at hb1
  refine Zb (nx (Ze (Zc (ZG tb hJ (r5 [1001,1002]) [.ptr [Zf (ge l k)],_,_] [0] U7 rfl ⟨iIx ZF,trivial⟩ ?_))))
  refine ln 5 fun hl2=>?_
  refine ZG tb hJ (r5 [1000,1001,1002]) [_,.int ((ge l k).length:Nat),_] [1] U8 rfl ⟨Z3 Zm,trivial⟩ ?_
  refine Zc (lpo (ι:=Nat×(List BA)) (fun(j,zs)=>(j≤(ge l k).length)∧(zs=Zab vs ((l.take k).flatten++(ge l k).take j))) (fun(_,zs)=>(OB.set keyS m1 zs::R)) (fun(j,_)=>[(19,.int (j:Nat))]) (fun(j,_)=>(ge l k).length-j) (r8 []) U7 (0,ys) ⟨nzl,by simp[f1_2]⟩ ?_)
  rintro⟨j,zs⟩ ⟨f2_1,f2_2⟩
  refine qso tb hJ (r8 [1000]) [_] U9 ?_
  refine cjS 8 (fun hb2=>?_) fun hb2=>?_
  ·
   try simp at hb2
   refine Zb (nx (Ze (Zc (ZG tb hJ (r8 [1002]) [.ptr [lS (ge (ge l k) j)],_,_] [0] U9 rfl ⟨iIx Zd,trivial⟩ ?_))))
   refine ZG tb hJ [0,1,2,3,4,5,6,7,8,1002] [_,_,.bool (decide ((ge (ge l k) j)∈vs))] [2] U10 rfl ⟨fun _ _ hk hx hl _=>YG (Kd:=keyS) (xs:=vs) Yf Yk (ge (ge l k) j) rfl (Yc hH hk hx (mo 0 rfl)) (hl.D 0 23 rfl rfl) (hl.D 1 24 rfl rfl) hx,trivial⟩ ?_
   refine cj 9 (fun hb3=>?_) fun hb3=>?_
   ·
    try simp at hb3
    refine ZE (snK 2 tb rfl (ZcA Yf hJ hJ0 (ge (ge l k) j) rfl rfl (.inl rfl) (fun a w h=>⟨(h.get 1 rfl),(h.get 0 rfl),(Rel.of_lit (.bool true))⟩) ?_))
    refine seK [2,3,4,5,6,7,8,9] U8 rfl (nx (Yo tb hJ (r7 [1001]) [.int (j+1:Nat),_] [0] U8 rfl ⟨Z7,trivial⟩ ?_))
    exact YE (j+1,QS zs (ge (ge l k) j)) (r8 []) ⟨oz,by rw[ZZ oz,←List.append_assoc,ZbJ,←f2_2];first | (simp[hb3,QS];done) | (simp[hb3,QS];grind)⟩
   ·
    try simp at hb3
    refine Zb (nx (Yo tb hJ (r7 [1001]) [.int (j+1:Nat),_] [0] U8 rfl ⟨Z7,trivial⟩ ?_))
    exact YE (j+1,zs) (r8 []) ⟨oz,by rw[ZZ oz,←List.append_assoc,ZbJ,←f2_2];first | (simp;done) | (simp[hb3];done) | (simp;grind)⟩
  ·
   try simp at hb2
   refine Zs (nx (Yo tb hJ [0,1,2,3,1001] [.int (k+1:Nat),_] [0] U5 rfl ⟨Z7,trivial⟩ ?_))
   exact YE (k+1,zs) (r5 []) ⟨oz,by rw[f2_2,ZD (xs:=ge l k) oz,ZZ oz];simp⟩
 ·
  try simp at hb1
  refine Zs (nx (qso tb hJ [1001] U2 [_] ?_))
  exact tw (ob0 (congrArg (fun z'=>OB.set keyS m1 (z')) (show ys=(Zab vs l.flatten)from by rw[f1_2,ZD oz]))) (ZA (fun a w h=>Yg  (m:=0) m1 rfl h rfl rfl))
theorem Zoh (M:Nat) (ms:List BA) (p:Pr)  :FnR prog J 157 [OB.set keyS M ms] [.agg (prC p),.ptr [.lit (.map (some M))]] (.bool (!decide (p.a∈ms)|| !decide (p.b∈ms))):=by
 refine fER Tryz.func157 fun S w0 hS hJ0 hH=>?_
 clear hJ0
 refine hqs tb hJ [1,1000] [.ptr (prC p),_] [0] U2 rfl ⟨iBs hS hJ,trivial⟩ ?_
 refine hqs tb hJ [1012] (V3 [.bool (decide (p.a∈ms)),_,_,_,_,_,.bool (decide (p.b∈ms)),_,_,_]) [3,9] [_] rfl ⟨fun a _ hk hx hl _=>YG (Kd:=keyS) (xs:=ms) Yf Yk p.a rfl (Xf hH hk (mo 0 rfl)) (hl.D 0 4 rfl rfl) (hl.D 2 6 rfl rfl) hx,fun _ _ hk hx hl hc=>YG (Kd:=keyS) (xs:=ms) Yf Yk p.b rfl (Xf hH hk (mo 0 rfl)) (hl.D 6 10 rfl hc) (hl.D 8 12 rfl hc) hx,trivial⟩ ?_
 exact tRn 0 (hE:=eB (by first | rfl | grind[Zu]))
theorem Zrr (M:Nat) (ms:List BA) (l:List Pr) (b:l.length*32≤140737488351232):FnR prog J 130 [OB.set keyS M ms] [.lit (.map (some M)),.rd (YV l)] (.rd (YV (l.filter (inV ms)))):=by
 refine fER Tryz.func130 fun S w0 hS hJ0 hH=>?_
 refine tw ZR (ln 1 fun hl1=>?_)
 refine ZG tb hJ [1,1000] [.ptr [.lit (.map (some M))],_] [0] U2 rfl ⟨fun _ _ hk hx hl _=>Zct rfl (hl.env 0 0 _ rfl rfl) (Zq hS _ hk hx _ nlr) (jo hJ hx),trivial⟩ ?_
 refine tsq (snK 1 tb rfl (Xv (O:=[]) (R:=[]) (ZkL hJ l (b)) ZjS rfl rfl rfl (lb rfl) hS hJ0 Zv (fun a w h=>(Za (h.get 0 rfl) Zg)) fun z1=>?_))
 refine sy (.fn 157 [.ptr [.lit (.map (some M))]]) (fun h=>XB (caps:=[(.tmp 2)]) rfl (Za (h.get 3 rfl) Zg) h.x) ?_
 refine Xv (O:=[OB.row z1 104 2 (l.map prC)]) (R:=[]) (ZgW hJ z1 l 157 [.ptr [.lit (.map (some M))]] [] [OB.set keyS M ms] (fun x':Pr=>!decide (x'.a∈ms)|| !decide (x'.b∈ms)) (fun q'=>Zoh hJ M ms q') (ZsI) oz) ZsJ rfl rfl rfl (lb rfl) hS hJ0 (ZP (hH _ (mo 0 rfl)) Zv) (fun a w h=>(Za (h.get 1 rfl) (Za (h.get 0 rfl) Zg))) fun _=>?_
 refine snK 1 tb rfl (seK [0,1] U2 rfl ?_)
 refine nx (ln 0 fun hl2=>?_)
 exact tRo 0 (hE:=congrArg (fun z=>AV.rd (YV z)) (show(l.filter fun x'=>!(fun x':Pr=>!decide (x'.a∈ms)|| !decide (x'.b∈ms)) x')=(l.filter (inV ms))from by congr 1;funext x';simp[inV]))
theorem ZgT (y:Hy)  :Fn prog J 88 [.agg (hyC y)] (.bool y.floating):=by
 refine fE Tryz.func88 fun S w0 hS hJ0=>?_
 clear hJ0
 refine hqs tb hJ [1000] [.ptr (hyC y),_] [0] [_] rfl ⟨iBs hS hJ,trivial⟩ ?_
 refine qs tb hJ [1002] U3 [_] ?_
 exact tRn 0 (hE:=rfl)
theorem ZdX (f:Fr) (b:f.hyps.length*48≤140737488351232):Fn prog J 51 [.agg (frC f)] (.rd (Y1 (YZ f.hyps))):=by
 refine fE Tryz.func51 fun S w0 hS hJ0=>?_
 refine tw ZR (ZG tb hJ [1000] [.ptr (frC f),_] [0] [_] rfl ⟨iBo hS hJ,trivial⟩ ?_)
 refine tsq (snK 2 tb rfl (Xv (O:=[]) (R:=[]) (ZkM hJ f.hyps (b)) ZpV rfl rfl rfl (lb rfl) hS hJ0 Zv (fun a w h=>(Za (h.get 0 rfl) Zg)) fun z1=>?_))
 refine Xv (O:=[OB.row z1 61 3 (f.hyps.map hyC)]) (R:=[]) (ZgX hJ z1 f.hyps 88 [] [] [] (fun x':Hy=>x'.floating) (fun q'=>(ZgT hJ q').r) (Zwj) oz) Zwk rfl rfl rfl (lb rfl) hS hJ0 Zv (fun a w h=>(Za (h.get 0 rfl) (Za (Qr 88) Zg))) fun _=>?_
 refine snK 1 tb rfl (seK [0,1,3] U3 rfl ?_)
 refine nx (ln 0 fun hl1=>?_)
 refine ln 2 fun hl2=>?_
 exact tRo 0 (hE:=congrArg (fun z=>AV.rd (Y1 z)) (show(f.hyps.filter fun x'=>!(fun x':Hy=>x'.floating) x')=(YZ f.hyps)from rfl))
theorem ZrA (xs ys:List Hy)  :Fn prog J 83 [.rd (Y1 xs),.rd (Y1 ys)] (.int (Zen (xs.map Hy.label) (ys.map Hy.label):Nat)):=by
 refine fE Tryz.func83 fun S w0 hS hJ0=>?_
 clear hJ0
 refine ln 0 fun hl1=>?_
 refine ln 1 fun hl2=>?_
 refine qs tb hJ [0,1] [_] U2 ?_
 refine qs tb hJ [0,1,1000] [_] U3 ?_
 refine Ze (Zc (lp (ι:=Nat) (fun k=>(k≤xs.length)∧(k≤ys.length)∧(∀ j,j<k→(ge xs j).label=(ge ys j).label)) (fun k=>[(5,.int (k:Nat))]) (fun k=>xs.length-k) [0,1,2] U2 0 ⟨nzl,nzl,fun j hj=>by omega⟩ ?_))
 rintro k ⟨f1_1,f1_2,f1_3⟩
 refine Ze (hqs tb hJ [0,1,2,1022] [_,_,.int (xs.length:Nat),_,_,_,_,.int (ys.length:Nat),_,_,_,_,_,.ptr (hyC (ge xs k)),_,_,_,_,.ptr (hyC (ge ys k)),_,_,_,_] [2,7,13,18] U4 rfl ⟨Z3 Zz,Z3 Zz,gIx Zo (hk:=fun(hc':(((decide ((k:Int)< (xs.length:Int)))&& (decide ((k:Int)< (ys.length:Int))))==true)=true)=>by(try simp at hc');first | omega | (simp;omega) | grind[Zu]),gIx Zo (hk:=fun(hc':(((decide ((k:Int)< (xs.length:Int)))&& (decide ((k:Int)< (ys.length:Int))))==true)=true)=>by(try simp at hc');first | omega | (simp;omega) | grind[Zu]),trivial⟩ ?_)
 refine cj 3 (fun hb1=>?_) fun hb1=>?_
 ·
  try simp at hb1
  refine Zb (nx (Zc (hqp tb hJ [0,1,1002] [_,.int (k+1:Nat),_] [1] U3 rfl ⟨Z7,trivial⟩ ?_)))
  exact lpE (k+1) [0,1,2] ⟨oz,oz,ZK f1_3 (by simp_all)⟩
 ·
  try simp at hb1
  refine Zs (nx (qs tb hJ [1001] U2 [_] ?_))
  exact tRn 0 (hE:=eI (by exact congrArg _ (ZjO (xs.map Hy.label) (ys.map Hy.label) k (by simpa using f1_1) (by simpa using f1_2) (fun j hj=>by rw[Zk5 oz,Zk5 oz];exact f1_3 j hj) (by rw[List.length_map,List.length_map];rintro⟨h1,h2,h3⟩;rw[Zk5 h1,Zk5 h2]at h3;simp_all))))
theorem ZkK (y:Hy) (b:y.text.length*16≤140737488351232):Fn prog J 85 [.agg (hyC y)] (.agg (hyC y)):=by
 refine fE Tryz.func85 fun S w0 hS hJ0=>?_
 refine tw ZR (tsq ?_)
 refine Znz (cs:=[lS y.label,lB y.floating,Zf y.text]) hJ rfl rfl rfl (lb rfl) (fun a w h=>(h.get 0 rfl)) fun b1=>?_
 refine ZT YI hJ rfl rfl rfl (lb rfl) fun b2=>?_
 refine seK [0,1] U2 rfl (nx (tsq ?_))
 refine sy (.at b1 2) (fun h=>Zr Qg rfl (h.get 1 rfl) h.x) ?_
 refine sy (.rd (Zf y.text)) (fun h=>Zw Xg rfl (Zh h.x (mo 1 rfl)) (h.get 0 rfl) rfl h.x) ?_
 refine Xv (O:=[]) (R:=[OB.var b2 [lS (⟨#[]⟩:BA),lB false,Zf ([]:List BA)],OB.var b1 (hyC y)]) (Zel hJ y.text sfz) Zft rfl rfl rfl (lb rfl) hS hJ0 Zv (fun a w h=>(Za (h.get 0 rfl) Zg)) fun z3=>?_
 refine sy (.at b1 2) (fun h=>Zr Qg rfl (h.get 4 rfl) h.x) ?_
 refine kw pm2 (kw pm1 ?_)
 refine kw (fun h=>ZO hS h (m:=1) (s:=5) rfl) (Z5 (b:=b1) (off:=2) (es:=U3) hJ hJ0 ZbE rfl rfl rfl (lb rfl) rfl (fun a w h=>⟨(h.get 1 rfl),(h.get 0 rfl)⟩) ?_)
 refine seK [0,2,4,5] U4 rfl (nx (ln 0 fun hl1=>?_))
 refine tsq (sy (.agg [lS y.label,lB y.floating,Zf y.text]) (fun h=>Yz (ds:=[lS y.label,lB y.floating,Zf y.text]) XY rfl (Zh h.x (mo 0 rfl)) (h.get 3 rfl) rfl rfl h.x) ?_)
 refine kw pm1 (ZB (b:=b2) (off:=0) (es:=U3) (news:=U3) hJ hJ0 YN rfl rfl rfl (lb rfl) rfl (fun a w h=>⟨(h.get 3 rfl),(h.get 0 rfl)⟩) ?_)
 exact seK [3] [_] rfl (nx (ZA (fun a w h=>Xx (m:=0) rfl XY h rfl rfl rfl)))
theorem ZtZ (M1 M2:Nat) (M3 M4 M5:Nat) (cs vs l:List BA)  :FnR prog J 79 [OB.set keyS M1 cs,OB.set keyS M2 vs] [.ptr (mpC [M1,M2,M3,M4,M5]),.rd (Zf l)] (.int (ZlN cs vs l)):=by
 refine fER Tryz.func79 fun S w0 hS hJ0 hH=>?_
 clear hJ0
 refine ln 1 fun hl1=>?_
 refine hqs tb hJ [1,1000] [.ptr [.ptr (mpC [M1,M2,M3,M4,M5])],_] [0] U2 rfl ⟨fun _ _ hk hx hl _=>Zn5 rfl (hl.env 0 0 _ rfl rfl) (hS _ hk.size) (js hJ hx),trivial⟩ ?_
 refine Ze (Zc (hqs tb hJ [0,1,1008] [_,.int (l.length:Nat),_,_,_,.int (l.length:Nat),_,_,_] [1,5] U3 rfl ⟨Z3 Zm,Z3 Zm,trivial⟩ ?_))
 refine cj 2 (fun hb1=>?_) fun hb1=>?_
 ·
  refine qs tb hJ [1000] [_] [_] ?_
  exact tRn 0 (hE:=eI (by grind[ZlN]))
 ·
  refine hqs tb hJ [1015] (V5 [.ptr [lS (ge l 0)],_,.bool (decide ((ge l 0)∈cs)),_,_,_,.rd (Zf (l.drop 1)),.fn 125 [.ptr [.ptr (mpC [M1,M2,M3,M4,M5])]],.bool ((l.drop 1).any (fun s=>!(decide (s∈cs)||decide (s∈vs)))),_,_]) [5,7,11,12,13] [_] rfl ⟨iIx (k:=0) Zd,fun _ _ hk hx hl _=>YG (Kd:=keyS) (xs:=cs) Yf Yk (ge l 0) rfl (Xf hH hk (mo 0 rfl)) (hl.D 3 18 rfl rfl) (hl.D 6 21 rfl rfl) hx,fun _ _ _ hx hl hc=>Yy (ys:=l.drop 1) (lo:=1) (hi:=l.length) (by rw[List.take_length]) Zd (fun _=>rfl) rfl (hl.D 10 25 rfl hc) (Rel.of_lit (.int .i64 1)) rfl (by have hc':((!(decide ((ge l 0)∈cs)))==false)=true:=hc;(try simp at hc');(first | omega | (simp;omega) | grind[Zu])) (by have hc':((!(decide ((ge l 0)∈cs)))==false)=true:=hc;(try simp at hc');(first | omega | (simp;omega) | grind[Zu])) hx,fun _ _ _ hx hl _=>XB (caps:=[(.tmp 2)]) rfl (Za (hl.env 1 2 _ rfl rfl) Zg) hx,fun _ _ hk hx hl hc=>Y5 (YD hJ (l.drop 1) 125 [.ptr [.ptr (mpC [M1,M2,M3,M4,M5])]] [OB.set keyS M1 cs,OB.set keyS M2 vs] (fun s=>!(decide (s∈cs)||decide (s∈vs))) (fun q'=>Zu8 hJ M1 M2 M3 M4 M5 cs vs q') (Zs9)) Zdf rfl (nm hS hk) (hx) (ZP (Xf hH hk (mo 0 rfl)) (ZP (Xf hH hk (mo 1 rfl)) Zv)) (Za (hl.D 11 26 rfl hc) (Za (hl.D 12 27 rfl hc) Zg)) (js hJ hx),trivial⟩ ?_
  refine cj 0 (fun hb2=>?_) fun hb2=>?_
  ·
   refine qs tb hJ [1000] [_] [_] ?_
   exact tRn 0 (hE:=eI (by grind[ZlN]))
  ·
   refine Zb (nx (qs tb hJ [1000] [_] [_] ?_))
   exact tRn 0 (hE:=eI (by grind[ZlN]))
end
section
variable {J:WP} (hJ:Stab J)
include hJ
theorem Zoq   :Fn prog J 153 [] (.agg (clsL.map u8D)):=by
 refine fE Tryz.func153 fun S w0 hS hJ0=>?_
 refine tw ZR (tsq ?_)
 refine ZT ZcR hJ rfl rfl rfl (lb rfl) fun b1=>?_
 refine seK [0] [_] rfl (nx (Ze (qso tb hJ [0,1000] [_] U2 ?_)))
 refine Zc (lpo (ι:=Nat×(List UInt8)) (fun(k,xs)=>(k≤256)∧(xs.length=256)∧(∀ j,j<k→ge xs j=Zfo (UInt8.ofNat j))∧(∀ j,k≤j→j<256→ge xs j=0)) (fun(_,xs)=>[OB.var b1 (xs.map u8D)]) (fun(k,_)=>[(3,.int (k:Nat))]) (fun(k,_)=>256-k) [0,1] [_] (0,(List.replicate 256 (0:UInt8))) ⟨nzl,by simp,fun j hj=>by omega,fun j _ h=>by rw[Xj (by simpa using h)];exact List.getElem_replicate _⟩ ?_)
 rintro⟨k,xs⟩ ⟨f1_1,f1_2,f1_3,f1_4⟩
 refine qso tb hJ [0,1,1000] [_] U3 ?_
 refine cjS 2 (fun hb1=>?_) fun hb1=>?_
 ·
  try simp at hb1
  refine Zb (nx (Ze (Zc (qso tb hJ [0,1,1001] U2 U3 ?_))))
  refine ZG tb hJ [0,1,2,1002] [_,.rd (.lit (.int .u8 ((UInt8.ofNat k).toNat:Int))),_] [1] U4 rfl ⟨fun _ _ _ hx hl _=>Zrl (k:=k) XT ZaU rfl (hl.D 0 6 rfl rfl) sfz hx,trivial⟩ ?_
  refine Zc (qso tb hJ [0,1,2,3,1014] U15 U5 ?_)
  refine cj 4 (fun hb2=>?_) fun hb2=>?_
  ·
   replace hb2:c2B (UInt8.ofNat k)=true:=hb2
   refine ZE (snK 1 tb rfl (sy (.at b1 k) (fun h=>ZbI (i:=k) X8 rfl (h.get 1 rfl) (h.get 0 rfl) sfz h.x) ?_))
   refine Z5 (b:=b1) (off:=k) (c:=u8D (1:UInt8)) hJ hJ0 Zeg rfl rfl rfl (by rw[List.length_map];exact sfz) (Zhx sfz) (fun a w h=>⟨(h.get 0 rfl),(Rel.of_lit (.int .u8 1))⟩) ?_
   refine seK [2,3] U2 rfl (nx (Yo tb hJ [0,1001] [.int (k+1:Nat),_] [0] U2 rfl ⟨Z7,trivial⟩ ?_))
   exact YE (k+1,xs.set k (1:UInt8)) [0,1] ⟨oz,by rw[List.length_set];exact f1_2,Zeo f1_2 oz f1_3 (by simp[Zfo,hb2]),Zep f1_2 oz f1_4⟩
  ·
   replace hb2:c2B (UInt8.ofNat k)=false:=hb2
   refine qso tb hJ [0,1,2,3,1002] U3 U5 ?_
   refine cj 4 (fun hb3=>?_) fun hb3=>?_
   ·
    replace hb3:c3B (UInt8.ofNat k)=true:=hb3
    refine ZE (snK 1 tb rfl (sy (.at b1 k) (fun h=>ZbI (i:=k) X8 rfl (h.get 1 rfl) (h.get 0 rfl) sfz h.x) ?_))
    refine Z5 (b:=b1) (off:=k) (c:=u8D (4:UInt8)) hJ hJ0 Zeg rfl rfl rfl (by rw[List.length_map];exact sfz) (Zhx sfz) (fun a w h=>⟨(h.get 0 rfl),(Rel.of_lit (.int .u8 4))⟩) ?_
    refine seK [2,3] U2 rfl (nx (Yo tb hJ [0,1001] [.int (k+1:Nat),_] [0] U2 rfl ⟨Z7,trivial⟩ ?_))
    exact YE (k+1,xs.set k (4:UInt8)) [0,1] ⟨oz,by rw[List.length_set];exact f1_2,Zeo f1_2 oz f1_3 (by simp[Zfo,hb2,hb3]),Zep f1_2 oz f1_4⟩
   ·
    replace hb3:c3B (UInt8.ofNat k)=false:=hb3
    refine qso tb hJ [0,1,2,3,1034] [_,_,_,_,_,_,_,_,_,_,_,_,_,_,_,_,_,_,_,_,_,_,_,_,_,_,_,_,_,_,_,_,_,_,_] U5 ?_
    refine cj 4 (fun hb4=>?_) fun hb4=>?_
    ·
     replace hb4:c4B (UInt8.ofNat k)=true:=hb4
     refine ZE (snK 1 tb rfl (sy (.at b1 k) (fun h=>ZbI (i:=k) X8 rfl (h.get 1 rfl) (h.get 0 rfl) sfz h.x) ?_))
     refine Z5 (b:=b1) (off:=k) (c:=u8D (2:UInt8)) hJ hJ0 Zeg rfl rfl rfl (by rw[List.length_map];exact sfz) (Zhx sfz) (fun a w h=>⟨(h.get 0 rfl),(Rel.of_lit (.int .u8 2))⟩) ?_
     refine seK [2,3] U2 rfl (nx (Yo tb hJ [0,1001] [.int (k+1:Nat),_] [0] U2 rfl ⟨Z7,trivial⟩ ?_))
     exact YE (k+1,xs.set k (2:UInt8)) [0,1] ⟨oz,by rw[List.length_set];exact f1_2,Zeo f1_2 oz f1_3 (by simp[Zfo,hb2,hb3,hb4]),Zep f1_2 oz f1_4⟩
    ·
     replace hb4:c4B (UInt8.ofNat k)=false:=hb4
     refine qso tb hJ [0,1,2,1006] U7 U4 ?_
     refine cj 3 (fun hb5=>?_) fun hb5=>?_
     ·
      replace hb5:c5B (UInt8.ofNat k)=true:=hb5
      refine ZE (snK 1 tb rfl (sy (.at b1 k) (fun h=>ZbI (i:=k) X8 rfl (h.get 1 rfl) (h.get 0 rfl) sfz h.x) ?_))
      refine Z5 (b:=b1) (off:=k) (c:=u8D (3:UInt8)) hJ hJ0 Zeg rfl rfl rfl (by rw[List.length_map];exact sfz) (Zhx sfz) (fun a w h=>⟨(h.get 0 rfl),(Rel.of_lit (.int .u8 3))⟩) ?_
      refine seK [2,3] U2 rfl (nx (Yo tb hJ [0,1001] [.int (k+1:Nat),_] [0] U2 rfl ⟨Z7,trivial⟩ ?_))
      exact YE (k+1,xs.set k (3:UInt8)) [0,1] ⟨oz,by rw[List.length_set];exact f1_2,Zeo f1_2 oz f1_3 (by simp[Zfo,hb2,hb3,hb4,hb5]),Zep f1_2 oz f1_4⟩
     ·
      replace hb5:c5B (UInt8.ofNat k)=false:=hb5
      refine Zb (nx (Yo tb hJ [0,1001] [.int (k+1:Nat),_] [0] U2 rfl ⟨Z7,trivial⟩ ?_))
      exact YE (k+1,xs) [0,1] ⟨oz,f1_2,ZK f1_3 (by rw[f1_4 k (Nat.le_refl k) oz];simp[Zfo,hb2,hb3,hb4,hb5]),fun j h1 h2=>f1_4 j oz h2⟩
 ·
  try simp at hb1
  refine Zs (nx (tsq (sy (.agg (xs.map u8D)) (fun h=>Yz (ds:=xs.map u8D) ZfC rfl (Zh h.x (mo 0 rfl)) (h.get 0 rfl) (by rw[List.drop_zero,List.take_of_length_le (by rw[List.length_map];omega)]) (by rw[List.length_map];omega) h.x) ?_)))
  refine ZB (b:=b1) (off:=0) (news:=xs.map u8D) hJ hJ0 (by rw[List.length_map,show xs.length=256 from(f1_2)];exact ZdU) rfl rfl rfl (by simp only[List.length_map];exact oz) (Zqp (by rw[List.length_map]<;>exact(rfl))) (fun a w h=>⟨(h.get 1 rfl),(h.get 0 rfl)⟩) ?_
  exact seK [1] [_] rfl (nx (ZA (fun a w h=>Xx (m:=0) rfl ZfC h rfl (by rw[List.length_map];exact(f1_2)) (congrArg (fun z':List UInt8=>z'.map u8D) (show xs=clsL from Zwc f1_2 fun j hj=>f1_3 j oz)))))
theorem ZrE (xs:List UInt8) (c:UInt8)  :Fn prog J 177 [.rd (u8sC xs),.rd (.lit (.int .u8 (c.toNat:Int)))] (.int (Yn (fun x':UInt8=>decide (((c).toNat:Int)=((x').toNat:Int))) xs)):=by
 refine fE Tryz.func177 fun S w0 hS hJ0=>?_
 clear hJ0
 refine ln 0 fun hl1=>?_
 refine qs tb hJ [0,1] [_] U2 ?_
 refine Ze (hqs tb hJ [0,1,1001,1002] [_,.int (xs.length:Nat),_] [1] U4 rfl ⟨Z3 ZlL,trivial⟩ ?_)
 refine Zc (lp (ι:=Nat) (fun k=>(k≤xs.length)∧(∀ j,j<k→(fun x':UInt8=>decide (((c).toNat:Int)=((x').toNat:Int))) (ge xs j)=false)) (fun k=>[(8,.int (k:Nat))]) (fun k=>xs.length-k) [0,1,2,3] U3 0 ⟨nzl,fun j hj=>by omega⟩ ?_)
 rintro k ⟨f1_1,f1_2⟩
 refine qs tb hJ [0,1,2,3,1000] [_] U5 ?_
 refine cjS 4 (fun hb1=>?_) fun hb1=>?_
 ·
  try simp at hb1
  refine Zb (nx (Ze (Zc (qs tb hJ [0,1,2,3,1001] U2 U5 ?_))))
  refine hqs tb hJ (r5 [1005]) (V3 [.ptr [.lit (.int .u8 ((ge xs k).toNat:Int))],_,_]) [3] U6 rfl ⟨iIx ZbP,trivial⟩ ?_
  refine cj 5 (fun hb2=>?_) fun hb2=>?_
  ·
   try simp at hb2
   refine qs tb hJ [1001] U2 [_] ?_
   exact tRn 0 (hE:=eI (by first | exact(Xk (p:=fun x':UInt8=>decide (((c).toNat:Int)=((x').toNat:Int))) hb1 (by simpa using hb2) f1_2).symm | exact(YU (p:=fun x':UInt8=>decide (((c).toNat:Int)=((x').toNat:Int))) fun j hj=>f1_2 j oz).symm))
  ·
   try simp at hb2
   refine Zb (nx (hqp tb hJ [0,1,2,1001] [.int (k+1:Nat),_] [0] U4 rfl ⟨Z7,trivial⟩ ?_))
   exact lpE (k+1) [0,1,2,3] ⟨oz,ZK f1_2 (by simpa using hb2)⟩
 ·
  try simp at hb1
  refine Zs (nx (qs tb hJ [1000] [_] [_] ?_))
  exact tRn 0 (hE:=eI (by first | exact(Xk (p:=fun x':UInt8=>decide (((c).toNat:Int)=((x').toNat:Int))) hb1 (by simpa using hb2) f1_2).symm | exact(YU (p:=fun x':UInt8=>decide (((c).toNat:Int)=((x').toNat:Int))) fun j hj=>f1_2 j oz).symm))
theorem Zjo (xs:List UInt8) (c:UInt8)  :Fn prog J 154 [.rd (u8sC xs),.rd (.lit (.int .u8 (c.toNat:Int)))] (.bool (decide (c∈xs))):=by
 refine fE Tryz.func154 fun S w0 hS hJ0=>?_
 clear hJ0
 refine ln 0 fun hl1=>?_
 refine qs tb hJ [0,1] [_] U2 ?_
 refine hqs tb hJ [1004] [_,_,.int (Yn (fun x':UInt8=>decide (((c).toNat:Int)=((x').toNat:Int))) xs),_,_] [2] [_] rfl ⟨iFn hS hJ (ZrE hJ xs c) Zsw,trivial⟩ ?_
 exact tRn 0 (hE:=eB (by rw[Zb8,ZrO]))
theorem Zt2 (s:BA) (bs:List UInt8)  :Fn prog J 122 [.str s,.rd (u8sC bs)] (.bool (Zco s bs)):=by
 refine fE Tryz.func122 fun S w0 hS hJ0=>?_
 refine tw ZR (lnS 0 fun hl1=>?_)
 refine ln 1 fun hl2=>?_
 refine qso tb hJ [0,1] [_] U2 ?_
 refine Ze (ZG tb hJ [0,1,1006] (V4 [.int (s.size:Nat),_,_]) [4] U3 rfl ⟨Zmp ZU,trivial⟩ ?_)
 refine cj 2 (fun hb1=>?_) fun hb1=>?_
 ·
  refine qso tb hJ [1000] [_] [_] ?_
  exact tRo 0 (hE:=eB (by first | (rw[Zco,if_pos hb1];done) | (rw[Zco,if_neg (by rw[hb1];decide)];symm;exact Zad (p:=fun c=>decide (Zfo c∈bs)) hb2 (by simpa [Zhg]using hb3)) | (rw[Zco,if_neg (by rw[hb1];decide)];symm;exact Zgt fun j hj=>f1_2 j oz)))
 ·
  refine Zb (nx (tsq (sy (.agg (clsL.map u8D)) (fun h=>ZaY (Zoq hJ  ) ZsL rfl (Zq hS _ h.keep h.x) (h.x.1) Zg (jo hJ h.x)) ?_)))
  refine ZT ZcR hJ rfl rfl rfl (lb rfl) fun b1=>?_
  refine ZB (b:=b1) (off:=0) (news:=clsL.map u8D) hJ hJ0 (by rw[List.length_map,show clsL.length=256 from(Zbo)];exact ZdU) rfl rfl rfl (by simp only[List.length_map];exact(by rw[Zbo,List.length_replicate];exact Nat.le_of_ble_eq_true rfl)) (Zqp (by rw[List.length_map]<;>exact(by rw[Zbo,List.length_replicate]))) (fun a w h=>⟨(h.get 0 rfl),(h.get 1 rfl)⟩) ?_
  refine seK [0,2,3] U3 rfl (nx (Ze (ZG tb hJ [0,1,2,1001,1002] [_,.int (s.size:Nat),_] [1] U5 rfl ⟨Zmp ZU,trivial⟩ ?_)))
  refine Zc (lpo (ι:=Nat) (fun k=>(k≤s.size)∧(∀ j,j<k→decide (Zfo (bt s j)∈bs)=true)) (fun _=>[OB.var b1 (clsL.map u8D)]) (fun k=>[(17,.int (k:Nat))]) (fun k=>s.size-k) (r5 []) U4 0 ⟨nzl,fun j hj=>by omega⟩ ?_)
  rintro k ⟨f1_1,f1_2⟩
  refine qso tb hJ (r5 [1000]) [_] U6 ?_
  refine cjS 5 (fun hb2=>?_) fun hb2=>?_
  ·
   try simp at hb2
   refine Zb (nx (Ze (Zc (qso tb hJ (r5 [1001]) U2 U6 ?_))))
   refine ZG tb hJ (r5 [1007]) (V3 [.rd (.lit (.int .u8 ((ge s.data.toList k).toNat:Int))),.at b1 ((ge s.data.toList k).toNat),.rd (.lit (.int .u8 ((ge clsL (ge s.data.toList k).toNat).toNat:Int))),.bool (decide ((ge clsL (ge s.data.toList k).toNat)∈bs)),_]) [3,4,5,6] U6 rfl ⟨fun _ _ _ hx hl _=>ZdV (i:=(k:Int)) ZU rfl (hl.D 1 21 rfl rfl) (hl.D 2 22 rfl rfl) nnn (ZaJ (s:=s) (k:=k) sfz) hx,fun _ _ _ hx hl _=>ZbI (i:=(ge s.data.toList k).toNat) X8 rfl (hl.env 0 5 _ rfl rfl) (hl.D 3 23 rfl rfl) (UInt8.toNat_lt _) hx,fun _ _ _ hx hl _=>Zw one_5 rfl (Zh hx (mo 0 rfl)) (hl.D 4 24 rfl rfl) (Zw6 (by rw[Zbo];exact UInt8.toNat_lt _)) hx,iFo hS hJ (Zjo hJ bs (ge clsL (ge s.data.toList k).toNat)) ZsK,trivial⟩ ?_
   refine cj 5 (fun hb3=>?_) fun hb3=>?_
   ·
    try simp at hb3
    refine qso tb hJ [1000] [_] [_] ?_
    exact tRo 0 (hE:=eB (by first | (rw[Zco,if_pos hb1];done) | (rw[Zco,if_neg (by rw[hb1];decide)];symm;exact Zad (p:=fun c=>decide (Zfo c∈bs)) hb2 (by simpa [Zhg]using hb3)) | (rw[Zco,if_neg (by rw[hb1];decide)];symm;exact Zgt fun j hj=>f1_2 j oz)))
   ·
    try simp at hb3
    refine Zb (nx (Yo tb hJ [0,1,2,3,1001] [.int (k+1:Nat),_] [0] U5 rfl ⟨Z7,trivial⟩ ?_))
    exact YE (k+1) (r5 []) ⟨oz,ZK f1_2 (by simpa [Zhg]using hb3)⟩
  ·
   try simp at hb2
   refine Zs (nx (qso tb hJ [1000] [_] [_] ?_))
   exact tRo 0 (hE:=eB (by first | (rw[Zco,if_pos hb1];done) | (rw[Zco,if_neg (by rw[hb1];decide)];symm;exact Zad (p:=fun c=>decide (Zfo c∈bs)) hb2 (by simpa [Zhg]using hb3)) | (rw[Zco,if_neg (by rw[hb1];decide)];symm;exact Zgt fun j hj=>f1_2 j oz)))
theorem Zc4 (s:BA)  :Fn prog J 76 [.str s] (.bool (QK s)):=by
 refine fE Tryz.func76 fun S w0 hS hJ0=>?_
 clear hJ0
 refine qs tb hJ [0] [_] [_] ?_
 refine hqs tb hJ [1001,1003] [_,.rd (u8sC ([(2:UInt8)])),.bool (Zco s ([(2:UInt8)])),_] [1,2] U2 rfl ⟨fun _ _ hk hx _ _=>YC ZbP zero_5 rfl (Rel.of_lit (.int .u8 2)) (hS _ hk.size) (js hJ hx),iFn hS hJ (Zt2 hJ s ([(2:UInt8)])) Zlz,trivial⟩ ?_
 refine ln 0 fun hl1=>?_
 exact tRn 1 (hE:=eB (Zoz s))
theorem ZdF (s:BA)  :Fn prog J 74 [.str s] (.bool (ZgH s)):=by
 refine fE Tryz.func74 fun S w0 hS hJ0=>?_
 clear hJ0
 refine qs tb hJ [0] [_] [_] ?_
 refine hqs tb hJ [1001,1003] [_,.rd (u8sC ([2,3]:List UInt8)),.bool (Zco s ([2,3]:List UInt8)),_] [1,2] U2 rfl ⟨fun a _ hk hx _ _=>XH (k:=2) (us:=[a.eval (.const (.int .u8 2)),a.eval (.const (.int .u8 3))]) ZbP ZmZ rfl yz (Zi (Rel.of_lit (.int .u8 2)) (Zi (Rel.of_lit (.int .u8 3)) ZJ)) rfl dz dz (hS _ hk.size) (js hJ hx),iFn hS hJ (Zt2 hJ s ([2,3]:List UInt8)) Zlz,trivial⟩ ?_
 refine ln 0 fun hl1=>?_
 exact tRn 1 (hE:=eB (Zoy s))
end
theorem Zme {J:WP} (hJ:Stab J) (s:BA):Fn prog J 183 [.str s] (.bool (Y6 s)):=by
 intro S w vs hS hJ0 ha
 simp only[RelL]at ha
 obtain⟨u,us,rfl,h1,rfl⟩:=ha
 rw[h1.lit]
 exact(Zmm s w).mono fun e w' ⟨he,hb⟩=>by
  have hk:Keeps All w w':=(Keeps.of_below hb).sub fun k hk _=>hk
  exact⟨_,he,Rel.of_lit _,hk,hJ w w' hk hJ0⟩
def fm7 (s:Sm):Bool:=((QK s.label&& (decide ((1:Int)≤(s.text.length:Int))&&decide ((s.text.length:Int)≤200)))&&s.text.all ZgH)&&s.proof.all Y6
def wd7 (s:Sm):List BA:=((([s.label]++[⟨#[36,112]⟩]++s.text)++[⟨#[36,61]⟩])++s.proof)++[⟨#[36,46]⟩]
section
variable {J:WP} (hJ:Stab J)
include hJ
theorem Zh1 (g:FuncId)  :Fn prog J 181 [.lit (.func (.func g) #[] #[])] (.fn 182 [.ptr [.lit (.func (.func g) #[] #[])]]):=by
 refine fE Tryz.func181 fun S w0 hS hJ0=>?_
 clear hJ0
 refine hqs tb hJ [1000] [.ptr [.lit (.func (.func g) #[] #[])],_] [0] [_] rfl ⟨fun _ _ hk hx hl _=>Zct rfl (hl.env 0 0 _ rfl rfl) (hS _ hk.size) (js hJ hx),trivial⟩ ?_
 refine hqs tb hJ [1001] [.fn 182 [.ptr [.lit (.func (.func g) #[] #[])]],_] [0] [_] rfl ⟨fun _ _ _ hx hl _=>XB (caps:=[(.tmp 1)]) rfl (Za (hl.env 0 1 _ rfl rfl) Zg) hx,trivial⟩ ?_
 exact tRn 0 (hE:=rfl)
theorem Zf9 (g:FuncId) (p:BA→Bool) (q:BA) (hk0:Zk prog g) (hf:∀ q',Fn prog J g [.str q'] (.bool (p q'))):Fn prog J 182 [.str q,.ptr [.lit (.func (.func g) #[] #[])]] (.bool (!p q)):=by
 refine fE Tryz.func182 fun S w0 hS hJ0=>?_
 clear hJ0
 refine qs tb hJ [0,1] [_] U2 ?_
 refine hqs tb hJ [1004] [_,_,.bool (p q),_,_] [2] [_] rfl ⟨fun _ _ hk hx hl _=>ZaX ((hf q).r) hk0 rfl (Za2 (hl.D 0 4 rfl rfl)) (nm hS hk) (hx) Zv (Za (hl.D 1 5 rfl rfl) Zg) (js hJ hx),trivial⟩ ?_
 exact tRn 0 (hE:=eB (by first | rfl | grind[Zu]))
theorem Zry (s:Sm) (hG:Q2 J) (h7:s.kind=7):Fn prog J 160 [.agg (stC s)] (.bool (fm7 s)):=by
 refine fE Tryz.func160 fun S w0 hS hJ0=>?_
 refine tw ZR (ZG tb hJ [1000] [.ptr (stC s),_] [0] [_] rfl ⟨iBo hS hJ,trivial⟩ ?_)
 refine Ze (qso tb hJ [0,1007] U8 U2 ?_)
 refine cj 1 (fun hb1=>?_) fun hb1=>?_
 ·
  try simp at hb1
  refine qso tb hJ [1000] [_] [_] ?_
  exact tRo 0 (hE:=eB (by first | (exfalso;omega) | (unfold fm7;grind) | (simp only[fm7,List.all_eq_not_any_not];grind)))
 ·
  try simp at hb1
  refine Zb (nx (tsq (snK 2 tb rfl (sy (.at 0 28) (fun h=>Zf6 (k:=7) ZbA ZbZ rfl (h.get 0 rfl) (h7) dz h.x) ?_))))
  refine sy (.agg [lS (⟨#[36,112]⟩:BA),lB true,lI (1:Int),lI (200:Int)]) (fun h=>Zf5 ZiX rfl (hG _ (h.x.1)) (h.get 0 rfl) h.x) ?_
  refine ZT ZcQ hJ rfl rfl rfl (lb rfl) fun b1=>?_
  refine ZB (b:=b1) (off:=0) (es:=U4) (news:=U4) hJ hJ0 ZbZ rfl rfl rfl (lb rfl) rfl (fun a w h=>⟨(h.get 0 rfl),(h.get 1 rfl)⟩) ?_
  refine kw (fun h=>YJ hS h (m:=0) (s:=3) rfl) (seK [0,5] U2 rfl ?_)
  refine nx (Ze (ZG tb hJ [1,1033] (V5 [.bool (QK s.label),_,_,_,_,_,_,_,_,_,_,_,_,_,_,_,.int (s.text.length:Nat),_,_,_,_,_,_,_,.int (s.text.length:Nat),_,_,_,_]) [5,21,29] U2 rfl ⟨iFo hS hJ (Zc4 hJ s.label) Zhj,Z3 Zm,Z3 Zm,trivial⟩ ?_))
  refine cj 1 (fun hb2=>?_) fun hb2=>?_
  ·
   try simp at hb2
   refine qso tb hJ [1000] [_] [_] ?_
   exact tRo 0 (hE:=eB (by first | (exfalso;omega) | (unfold fm7;grind) | (simp only[fm7,List.all_eq_not_any_not];grind)))
  ·
   try simp at hb2
   refine Zb (nx (qso tb hJ [0,1000] [_] U2 ?_))
   refine ZG tb hJ [1001,1025] (V3 [.fn 182 [.ptr [.lit (.func (.func 74) #[] #[])]],.bool (s.text.any (fun w'=>!ZgH w')),_,_,_,_,_,.fn 182 [.ptr [.lit (.func (.func 183) #[] #[])]],.bool (s.proof.any (fun w'=>!Y6 w')),_,_,_,_,_,_,_,_,_,.int (s.proof.length:Nat),_,_,_,_]) [3,4,10,11,21] U2 rfl ⟨fun _ _ hk hx hl _=>ZaX ((Zh1 hJ 74).r) Zls rfl (hl.D 2 53 rfl rfl) (Zq hS _ hk hx) (hx.1) Zv (Za (ZeP 74) Zg) (jo hJ hx),fun _ w hk hx hl _=>Y5 (YD hJ s.text 182 [.ptr [.lit (.func (.func 74) #[] #[])]] [] (fun w'=>!ZgH w') (fun q'=>(Zf9 hJ 74 ZgH q' ZjR fun z'=>ZdF hJ z').r) (Zlr)) Zdf rfl (Zq hS _ hk hx) (hx.1) Zv (Za (hl.D 1 52 rfl rfl) (Za (hl.D 3 54 rfl rfl) Zg)) (jo hJ hx),fun _ _ hk hx hl hc=>ZaX ((Zh1 hJ 183).r) Zls rfl (hl.D 9 60 rfl hc) (Zq hS _ hk hx) (hx.1) Zv (Za (ZeP 183) Zg) (jo hJ hx),fun _ w hk hx hl hc=>Y5 (YD hJ s.proof 182 [.ptr [.lit (.func (.func 183) #[] #[])]] [] (fun w'=>!Y6 w') (fun q'=>(Zf9 hJ 183 Y6 q' Zst fun z'=>Zme hJ z').r) (Zlr)) Zdf rfl (Zq hS _ hk hx) (hx.1) Zv (Za (hl.D 8 59 rfl hc) (Za (hl.D 10 61 rfl hc) Zg)) (jo hJ hx),Z3 Zm,trivial⟩ ?_
   refine ln 0 fun hl1=>?_
   exact tRo 1 (hE:=eB (by first | (exfalso;omega) | (unfold fm7;grind) | (simp only[fm7,List.all_eq_not_any_not];grind)))
theorem ZrB (s:Sm) (hG:Q2 J) (h7:s.kind=7):Fn prog J 159 [.agg (stC s)] (.bool (!fm7 s)):=by
 refine fE Tryz.func159 fun S w0 hS hJ0=>?_
 refine tw ZR (ZG tb hJ [1000] [.ptr (stC s),_] [0] [_] rfl ⟨iBo hS hJ,trivial⟩ ?_)
 refine ZG tb hJ [1003] [_,.bool (fm7 s),_,_] [1] [_] rfl ⟨iFo hS hJ (Zry hJ s (hG) (h7)) ZsF,trivial⟩ ?_
 exact tRo 0 (hE:=eB (by first | rfl | grind[Zu]))
theorem Zh5 (xs:List Sm) (f:FuncId) (caps:List AV) (Os:List OB) (p:Sm→Bool) (hf:∀ q'∈xs,FnR prog J f Os ([.agg (stC (q'))]++caps) (.bool (p q'))) (hk0:Zk prog f):FnR prog J 180 Os [.rd (stsC xs),.fn f caps] (.int (Yn p xs)):=by
 refine fER Tryz.func180 fun S w0 hS hJ0 hH=>?_
 clear hJ0
 refine ln 0 fun hl1=>?_
 refine qs tb hJ [0,1] [_] U2 ?_
 refine Ze (hqs tb hJ [0,1,1001,1002] [_,.int (xs.length:Nat),_] [1] U4 rfl ⟨Z3 Zby,trivial⟩ ?_)
 refine Zc (lp (ι:=Nat) (fun k=>(k≤xs.length)∧(∀ j,j<k→p (ge xs j)=false)) (fun k=>[(8,.int (k:Nat))]) (fun k=>xs.length-k) [0,1,2,3] U3 0 ⟨nzl,fun j hj=>by omega⟩ ?_)
 rintro k ⟨f1_1,f1_2⟩
 refine qs tb hJ [0,1,2,3,1000] [_] U5 ?_
 refine cjS 4 (fun hb1=>?_) fun hb1=>?_
 ·
  try simp at hb1
  refine Zb (nx (Ze (Zc (qs tb hJ [0,1,2,3,1001] U2 U5 ?_))))
  refine hqs tb hJ (r5 [1005]) (V3 [.ptr (stC (ge xs k)),_,.bool (p (ge xs k))]) [3,5] U6 rfl ⟨iIx ZaP,fun _ _ hk hx hl _=>ZaX (hf (ge xs k) (Zu oz)) hk0 rfl (hl.D 0 11 rfl rfl) (nm hS hk) (hx) (fun _ ho=>Xf hH hk ho) (Za (hl.D 4 15 rfl rfl) Zg) (js hJ hx),trivial⟩ ?_
  refine cj 5 (fun hb2=>?_) fun hb2=>?_
  ·
   try simp at hb2
   refine qs tb hJ [1001] U2 [_] ?_
   exact tRn 0 (hE:=eI (by first | exact(Xk hb1 hb2 f1_2).symm | exact(YU fun j hj=>f1_2 j oz).symm))
  ·
   try simp at hb2
   refine Zb (nx (hqp tb hJ [0,1,2,1001] [.int (k+1:Nat),_] [0] U4 rfl ⟨Z7,trivial⟩ ?_))
   exact lpE (k+1) [0,1,2,3] ⟨oz,ZK f1_2 hb2⟩
 ·
  try simp at hb1
  refine Zs (nx (qs tb hJ [1000] [_] [_] ?_))
  exact tRn 0 (hE:=eI (by first | exact(Xk hb1 hb2 f1_2).symm | exact(YU fun j hj=>f1_2 j oz).symm))
theorem ZeV (xs:List Sm) (f:FuncId) (caps:List AV) (Os:List OB) (p:Sm→Bool) (hf:∀ q'∈xs,FnR prog J f Os ([.agg (stC (q'))]++caps) (.bool (p q'))) (hk0:Zk prog f):FnR prog J 158 Os [.rd (stsC xs),.fn f caps] (.bool (xs.any p)):=by
 refine fER Tryz.func158 fun S w0 hS hJ0 hH=>?_
 clear hJ0
 refine ln 0 fun hl1=>?_
 refine qs tb hJ [0,1] [_] U2 ?_
 refine hqs tb hJ [1004] [_,_,.int (Yn p xs),_,_] [2] [_] rfl ⟨fun _ _ hk hx hl _=>Y5 (Zh5 hJ xs f caps Os p (hf) (hk0)) Zsu rfl (nm hS hk) (hx) (fun _ ho=>Xf hH hk ho) (Za (hl.D 0 5 rfl rfl) (Za (hl.D 1 6 rfl rfl) Zg)) (js hJ hx),trivial⟩ ?_
 exact tRn 0 (hE:=eB (by rw[←Zb8]))
theorem Zog (s:Sm) (hG:Q2 J) (h7:s.kind=7) (hl:s.text.length+s.proof.length≤100):Fn prog J 161 [.agg (stC s)] (.rd (Zf (wd7 s))):=by
 refine fE Tryz.func161 fun S w0 hS hJ0=>?_
 refine tw ZR (ZG tb hJ [1000] [.ptr (stC s),_] [0] [_] rfl ⟨iBo hS hJ,trivial⟩ ?_)
 refine tsq (snK 2 tb rfl (sy (.at 0 28) (fun h=>Zf6 (k:=7) ZbA ZbZ rfl (h.get 0 rfl) (h7) dz h.x) ?_))
 refine sy (.agg [lS (⟨#[36,112]⟩:BA),lB true,lI (1:Int),lI (200:Int)]) (fun h=>Zf5 ZiX rfl (hG _ (h.x.1)) (h.get 0 rfl) h.x) ?_
 refine ZT ZcQ hJ rfl rfl rfl (lb rfl) fun b1=>?_
 refine ZB (b:=b1) (off:=0) (es:=U4) (news:=U4) hJ hJ0 ZbZ rfl rfl rfl (lb rfl) rfl (fun a w h=>⟨(h.get 0 rfl),(h.get 1 rfl)⟩) ?_
 refine kw (fun h=>YJ hS h (m:=0) (s:=3) rfl) (seK [0,5] U2 rfl ?_)
 refine nx (qso tb hJ [0,1,1000] [_] U3 ?_)
 refine Ze (qso tb hJ [0,1,2,1001] U2 U4 ?_)
 refine cj 3 (fun hb1=>?_) fun hb1=>?_
 ·
  refine tw (YS 9 1 hJ) (ZE (snK 3 tb rfl ?_))
  refine sy (.rd (Zf ([s.label]))) (fun h=>YC Zd ZaT rfl (h.get 0 rfl) (Zq hS _ h.keep h.x _ nlr) (jo hJ h.x)) ?_
  refine ZS (f:=Zax) (m:=3) (s:=11) ([]:List BA) ([s.label]) (fun _=>rfl) Xn hJ hJ0 rfl rfl rfl (lb rfl) rfl rfl (fun a w h=>(h.get 0 rfl)) (by first | omega | (simp;done) | (simp;omega)) (by first | omega | (simp;done) | (simp;omega)) fun v2=>?_
  refine snK 1 tb rfl (seK [0,2,6,7] U4 rfl ?_)
  refine nx (ln 1 fun hl1=>?_)
  refine Ze (fun a w h=>X5 [] (γ:=Value×Value) (fun ix'=>([.lit v2,.ptr [lS (⟨#[36,112]⟩:BA),lB true,lI (1:Int),lI (200:Int)],.str (⟨#[36,112]⟩:BA),.rd (Zf ([(⟨#[36,112]⟩:BA)])),.any,.ptr [Zf s.text,Zf s.proof],.rd (Zf s.text),.any,.any]:List AV).getD ix' .any) (fun _=>true) [(3,fun _=>.ptr [lS (⟨#[36,112]⟩:BA),lB true,lI (1:Int),lI (200:Int)]),(1,fun _=>.ptr (stC s)),(4,fun g=>.lit g.2)] (fun j' g=>match j' with | 0=>[OB.row v2 9 1 ((([]:List BA)++([s.label])).map Zax)] | 1=>[OB.row g.1 9 1 (((([]:List BA)++([s.label]))++([(⟨#[36,112]⟩:BA)])).map Zax)] | _=>[OB.row g.2 9 1 ((((([]:List BA)++([s.label]))++([(⟨#[36,112]⟩:BA)]))++s.text).map Zax)]) (fun k' g=>match k' with | 0=>g.1 | 1=>g.2 | 2=>g.2 | _=>undef) [4,7,8] 3 ((.slice none 0 0),(.slice none 0 0)) (fun _=>rfl) h hJ Yr rfl rfl rfl rfl rfl rfl hsb ⟨?_,?_,?_,?_,?_,?_,?_,?_,?_,trivial⟩ ⟨?e5_1_0,?e5_1_1,?e5_1_2,trivial⟩ ⟨.old 2 3 _,.old 3 1 _,.eff 2 8 4 (fun(g:Value×Value)=>g.2) rfl rfl (fun _=>rfl) (fun _ _ hx=>Zah (hx.2.1 _ (mo 0 rfl))),trivial⟩ ?n5_1)
  exact oX rfl fun hx hl=>Z2 rfl (hl.env 0 4 _ rfl rfl) hx
  exact oX rfl fun hx hl=>ZN ZjF rfl (hl.env 2 3 _ rfl rfl) hx
  exact oX rfl fun hx hl=>ZH QU rfl (hl.D 1 17 rfl rfl) hx
  exact oY rfl fun hk hx hl=>YC Zd ZaT rfl (hl.D 2 18 rfl rfl) (Zq hS _ hk hx _ nlr) (jo hJ hx)
  exact Zl rfl
  exact oX rfl fun hx hl=>ZN ZjH rfl (hl.env 3 1 _ rfl rfl) hx
  exact oX rfl fun hx hl=>ZH Xg rfl (hl.D 5 21 rfl rfl) hx
  exact Zl rfl
  exact Zl rfl
  case e5_1_0=>exact⟨_,rfl,rfl,rfl,rfl,fun g _ w hk hx hl _=>Zx (Qw (f:=Zax) (([]:List BA)++([s.label])) ([(⟨#[36,112]⟩:BA)]) (fun _=>rfl) Xn hJ hJ0 rfl hk hx (hl.D 0 16 rfl rfl).lit (hl.D 3 19 rfl rfl) (by first | omega | (simp;done) | (simp;omega)) (by first | omega | (simp;done) | (simp;omega))) fun v w' hp=>⟨(v,g.2),rfl,fun k' hk'=>absurd hk' (Nat.not_lt_zero _),fun _=>rfl,hp⟩⟩
  case e5_1_1=>exact⟨_,rfl,rfl,rfl,rfl,fun g _ w hk hx hl hs=>Zx (Qw (f:=Zax) ((([]:List BA)++([s.label]))++([(⟨#[36,112]⟩:BA)])) s.text (fun _=>rfl) Xn hJ hJ0 rfl hk hx (hs 0 4 _ 20 oz rfl rfl rfl) (hl.D 6 22 rfl rfl) (by first | omega | (simp;done) | (simp;omega)) (by first | omega | (simp;done) | (simp;omega))) fun v w' hp=>⟨(g.1,v),rfl,fun k' hk'=>by rcases k' with _ | _ | _ | k'<;>first | rfl | omega,fun _=>rfl,hp⟩⟩
  case e5_1_2=>exact⟨_,rfl,rfl,rfl,rfl,fun g _ w hk hx _ hs=>Zx (Zbn (.inl rfl) (hs 1 7 _ 23 oz rfl rfl rfl) hk hx) fun v w' hp=>⟨g,rfl,fun _ _=>rfl,fun _=>hp.1,hp.2⟩⟩
  clear a w h
  rintro⟨v3,v4⟩
  dsimp only[List.map]
  refine nx (Ze (qso tb hJ [0,1,2,1002] U3 U4 ?_))
  refine cj 3 (fun hb2=>?_) fun hb2=>?_
  ·
   refine fun a w h=>X5 [] (γ:=Value×Value) (fun ix'=>([.lit v4,.rd (Zf ([(⟨#[36,61]⟩:BA)])),.any,.ptr [Zf s.proof],.rd (Zf s.proof),.any,.any]:List AV).getD ix' .any) (fun _=>true) [(3,fun _=>.ptr [lS (⟨#[36,112]⟩:BA),lB true,lI (1:Int),lI (200:Int)]),(4,fun g=>.lit g.2)] (fun j' g=>match j' with | 0=>[OB.row v4 9 1 ((((([]:List BA)++([s.label]))++([(⟨#[36,112]⟩:BA)]))++s.text).map Zax)] | 1=>[OB.row g.1 9 1 (((((([]:List BA)++([s.label]))++([(⟨#[36,112]⟩:BA)]))++s.text)++([(⟨#[36,61]⟩:BA)])).map Zax)] | _=>[OB.row g.2 9 1 ((((((([]:List BA)++([s.label]))++([(⟨#[36,112]⟩:BA)]))++s.text)++([(⟨#[36,61]⟩:BA)]))++s.proof).map Zax)]) (fun k' g=>match k' with | 0=>g.1 | 1=>g.2 | 2=>g.2 | _=>undef) [2,5,6] 3 ((.slice none 0 0),(.slice none 0 0)) (fun _=>rfl) h hJ Yr rfl rfl rfl rfl rfl rfl hsb ⟨?_,?_,?_,?_,?_,?_,?_,trivial⟩ ⟨?e7_2_0,?e7_2_1,?e7_2_2,trivial⟩ ⟨.old 0 3 _,.eff 2 6 4 (fun(g:Value×Value)=>g.2) rfl rfl (fun _=>rfl) (fun _ _ hx=>Zah (hx.2.1 _ (mo 0 rfl))),trivial⟩ ?n7_2
   exact oX rfl fun hx hl=>Z2 rfl (hl.env 2 4 _ rfl rfl) hx
   exact fun _ O' _=>⟨rfl,fun _ _ hk hx _ _=>YC Zd ZaT rfl (Rel.of_lit (.string { data:= #[36,61] }) (lb rfl)) (Zq hS _ hk hx _ nlr) (jo hJ hx)⟩
   exact Zl rfl
   exact oX rfl fun hx hl=>ZN ZjG rfl (hl.env 1 1 _ rfl rfl) hx
   exact oX rfl fun hx hl=>ZH Xg rfl (hl.D 3 30 rfl rfl) hx
   exact Zl rfl
   exact Zl rfl
   case e7_2_0=>exact⟨_,rfl,rfl,rfl,rfl,fun g _ w hk hx hl _=>Zx (Qw (f:=Zax) (((([]:List BA)++([s.label]))++([(⟨#[36,112]⟩:BA)]))++s.text) ([(⟨#[36,61]⟩:BA)]) (fun _=>rfl) Xn hJ hJ0 rfl hk hx (hl.D 0 27 rfl rfl).lit (hl.D 1 28 rfl rfl) (by first | omega | (simp;done) | (simp;omega)) (by first | omega | (simp;done) | (simp;omega))) fun v w' hp=>⟨(v,g.2),rfl,fun k' hk'=>absurd hk' (Nat.not_lt_zero _),fun _=>rfl,hp⟩⟩
   case e7_2_1=>exact⟨_,rfl,rfl,rfl,rfl,fun g _ w hk hx hl hs=>Zx (Qw (f:=Zax) ((((([]:List BA)++([s.label]))++([(⟨#[36,112]⟩:BA)]))++s.text)++([(⟨#[36,61]⟩:BA)])) s.proof (fun _=>rfl) Xn hJ hJ0 rfl hk hx (hs 0 2 _ 29 oz rfl rfl rfl) (hl.D 4 31 rfl rfl) (by first | omega | (simp;done) | (simp;omega)) (by first | omega | (simp;done) | (simp;omega))) fun v w' hp=>⟨(g.1,v),rfl,fun k' hk'=>by rcases k' with _ | _ | _ | k'<;>first | rfl | omega,fun _=>rfl,hp⟩⟩
   case e7_2_2=>exact⟨_,rfl,rfl,rfl,rfl,fun g _ w hk hx _ hs=>Zx (Zbn (.inl rfl) (hs 1 5 _ 32 oz rfl rfl rfl) hk hx) fun v w' hp=>⟨g,rfl,fun _ _=>rfl,fun _=>hp.1,hp.2⟩⟩
   clear a w h
   rintro⟨v5,v6⟩
   dsimp only[List.map]
   refine nx (Ze (qso tb hJ [1,1002] U3 U2 ?_))
   refine cj 1 (fun hb3=>?_) fun hb3=>?_
   ·
    refine ZE (snK 1 tb rfl (sy (.rd (Zf ([(⟨#[36,46]⟩:BA)]))) (fun h=>YC Zd ZaT rfl (Rel.of_lit (.string { data:= #[36,46] }) (lb rfl)) (Zq hS _ h.keep h.x _ nlr) (jo hJ h.x)) ?_))
    refine ZS (f:=Zax) (m:=1) (s:=36) (((((([]:List BA)++([s.label]))++([(⟨#[36,112]⟩:BA)]))++s.text)++([(⟨#[36,61]⟩:BA)]))++s.proof) ([(⟨#[36,46]⟩:BA)]) (fun _=>rfl) Xn hJ hJ0 rfl rfl rfl (lb rfl) rfl rfl (fun a w h=>(h.get 0 rfl)) (by first | omega | (simp;done) | (simp;omega)) (by first | omega | (simp;done) | (simp;omega)) fun v7=>?_
    refine snK 1 tb rfl (seK [0,2] U2 rfl ?_)
    refine nx (ln 1 fun hl2=>?_)
    refine qso tb hJ [1001] U2 [_] ?_
    exact tw (fun h=>ZO hS h (m:=0) (s:=2) rfl) (tRo 0 (hE:=congrArg (fun z=>AV.rd (Zf z)) (show((((((([]:List BA)++([s.label]))++([(⟨#[36,112]⟩:BA)]))++s.text)++([(⟨#[36,61]⟩:BA)]))++s.proof)++([(⟨#[36,46]⟩:BA)]))=(wd7 s)from by simp[wd7])))
   ·
    exact False.elim (by simp at hb3)
  ·
   exact False.elim (by simp[h7]at hb2)
 ·
  exact False.elim (by cases hb1)
end
theorem Zm4 (s:Sm):(wd7 s).length=s.text.length+s.proof.length+4:=by simp[wd7];omega
theorem Zvn {J:WP} (hJ:Stab J) (l:List Sm) (hG:Q2 J) (h1:l.length=1) (h7:(ge l 0).kind=7) (hl:(ge l 0).text.length+(ge l 0).proof.length≤100):Fn prog J 131 [.rd (stsC l)] (.tup [.rd (Zf (if fm7 (ge l 0)then wd7 (ge l 0)else [])),.int (if fm7 (ge l 0)then 0 else 2:Int)]):=by
 refine fE Tryz.func131 fun S w0 hS hJ0=>?_
 refine tw ZR (ln 0 fun hl1=>?_)
 refine qso tb hJ [0] U2 [_] ?_
 refine Ze (ZG tb hJ [0,1002] [_,.int (l.length:Nat),_] [1] U2 rfl ⟨Z3 Zby,trivial⟩ ?_)
 refine cj 1 (fun hb1=>?_) fun hb1=>?_
 ·
  exact False.elim (by rw[h1]at hb1;exact absurd hb1 dz)
 ·
  refine Zb (nx (Ze (ZG tb hJ [0,1001] [_,.bool (l.any (fun s'=>!fm7 s'))] [1] U2 rfl ⟨fun _ _ hk hx hl _=>Y5 (ZeV hJ l 159 [] [] (fun s'=>!fm7 s') (fun q' hq'=>(ZrB hJ q' hG (by obtain⟨j,hj,rfl⟩:=Xp hq';obtain rfl:j=0:=oz;exact h7)).r) (ZsG)) ZsH rfl (Zq hS _ hk hx) (hx.1) Zv (Za (hl.D 0 10 rfl rfl) (Za (Qr 159) Zg)) (jo hJ hx),trivial⟩ ?_)))
  refine cj 1 (fun hb2=>?_) fun hb2=>?_
  ·
   have e2:fm7 (ge l 0)=false:=by obtain⟨x,hx,hn⟩:=List.any_eq_true.1 hb2;obtain⟨q,hq,rfl⟩:=Xp hx;obtain rfl:q=0:=oz;simpa using hn
   refine qso tb hJ [1000,1001] U2 U2 ?_
   exact tw (fun h=>Yb h (m:=0) (s:=2) rfl) (ZA (fun a w h=>Y0 (m:=0) (k:=1) rfl (ZW h) rfl rfl (congrArg (fun z=>AV.rd (Zf z)) (show([]:List BA)=(if fm7 (ge l 0)then wd7 (ge l 0)else [])from by first | (rw[e2];rfl) | (rw[f1_2,if_neg oz,e2];rfl))) (eI (by first | (rw[e2];rfl) | (rw[f1_2,if_neg oz,e2];rfl)))))
  ·
   have e2:fm7 (ge l 0)=true:=by have:=List.any_eq_false.1 hb2 (ge l 0) (Zu oz);simpa using this
   refine Zb (nx (qso tb hJ [0,1000] [_] U2 ?_))
   refine Ze (ZG tb hJ [1,1000,1001,1002] [_,.int (l.length:Nat),_] [1] U4 rfl ⟨Z3 Zby,trivial⟩ ?_)
   refine Zc (tw (YS 9 1 hJ) (lpo (ι:=Nat×Value×(List BA)) (fun(k,_,out)=>(k≤l.length)∧(out=if k=0 then []else wd7 (ge l 0))) (fun(_,vo,out)=>[OB.row vo 9 1 (out.map Zax)]) (fun(k,vo,_)=>[(14,.int (k:Nat)),(4,.lit vo)]) (fun(k,_,_)=>l.length-k) [1,2,3,0] U2 (0,(.slice none 0 0),([]:List BA)) ⟨nzl,rfl⟩ ?_))
   rintro⟨k,vo,out⟩ ⟨f1_1,f1_2⟩
   refine qso tb hJ [0,1,2,3,1000] [_] U5 ?_
   refine cjS 4 (fun hb3=>?_) fun hb3=>?_
   ·
    try simp at hb3
    have e0:k=0:=by omega
    have e1:k=0→out=[]:=fun e=>by rw[f1_2,if_pos e]
    have e5:=Zm4 (ge l k)
    refine Zb (nx (Ze (Zc (tsq (sy (.ptr (stC (ge l k))) (fun h=>ZQ (i:=(k:Int)) ZaP rfl (h.get 0 rfl) (h.get 2 rfl) nnn (Z0 (xs:=l) (k:=k) sfz) rfl h.x) ?_)))))
    refine snK 1 tb rfl (XZ (cs:=stC (ge l k)) Zm9 rfl rfl rfl (lb rfl) rfl rfl rfl dz (m:=0) rfl rfl (fun a w h=>Zq hS _ h.keep h.x _ nlr) (fun a w h w' hk'=>YA hJ _ _ hk' h.x) ?_)
    refine seK [0,3,4,5,6] U5 rfl (nx (tsq ?_))
    refine snK 2 tb rfl (sy (.rd (Zf (wd7 (ge l k)))) (fun h=>ZaY (Zog hJ (ge l k) (hG) (by rw[e0];exact h7) (by rw[e0];exact hl)) ZsE rfl (Zq hS _ h.keep h.x) (h.x.1) (Za (h.get 0 rfl) Zg) (jo hJ h.x)) ?_)
    refine ZS (f:=Zax) (m:=2) (s:=18) out (wd7 (ge l k)) (fun _=>rfl) Xn hJ hJ0 rfl rfl rfl (lb rfl) rfl rfl (fun a w h=>(h.get 0 rfl)) (by rw[e1 e0,e5,e0];simp only[List.length_nil];omega) (by rw[e1 e0,e5,e0];simp only[List.length_nil];omega) fun v1=>?_
    refine snK 1 tb rfl (seK [0,2,6,7,8] U5 rfl ?_)
    refine nx (ln 1 fun hl2=>?_)
    refine ZmW tb hJ [0,2,3,4,1002] [_,.int ((out++(wd7 (ge l k))).length:Nat),_] [1] U5 rfl ⟨fun _ _ _ hx hl _=>Zai Zm rfl (Qa hS hx (mo 0 rfl) (hl.D 0 22 rfl rfl)) hx,trivial⟩ ?_
    refine cj 4 (fun hb4=>?_) fun hb4=>?_
    ·
     exact False.elim (by have:=Zm4 (ge l k);rw[e0]at this;simp only[List.length_append,e1 e0,e0,decide_eq_true_eq]at hb4;simp at hb4;omega)
    ·
     refine Zb (nx (Yo tb hJ [0,1,2,1001] [.int (k+1:Nat),_] [0] U4 rfl ⟨Z7,trivial⟩ ?_))
     exact YE (k+1,v1,out++(wd7 (ge l k))) [1,2,3,0] ⟨oz,by rw[e1 e0,e0];simp⟩
   ·
    try simp at hb3
    refine Zs (nx (qso tb hJ [1001,1002] U3 U2 ?_))
    exact tw (fun h=>ZO hS h (m:=0) (s:=2) rfl) (ZA (fun a w h=>Y0 (m:=0) (k:=1) rfl (ZW h) rfl rfl (congrArg (fun z=>AV.rd (Zf z)) (show out=(if fm7 (ge l 0)then wd7 (ge l 0)else [])from by first | (rw[e2];rfl) | (rw[f1_2,if_neg oz,e2];rfl))) (eI (by first | (rw[e2];rfl) | (rw[f1_2,if_neg oz,e2];rfl)))))
theorem fm7_x (s:BA):fm7 ⟨7,⟨#[120]⟩,[⟨#[120]⟩],[s]⟩=Y6 s:=by
 have h1:QK ⟨#[120]⟩=true:=by decide+kernel
 have h2:ZgH ⟨#[120]⟩=true:=by decide+kernel
 simp[fm7,h1,h2]
theorem Zon {J:WP} (hJ:Stab J) (s:BA) (hG:Q2 J):Fn prog J 82 [.str s] (.bool (Y6 s)):=by
 refine fE Tryz.func82 fun S w0 hS hJ0=>?_
 refine tw ZR (qso tb hJ [0] [_] [_] ?_)
 refine ZG tb hJ [1000,1002,1004,1007,1009,1010] [.rd (Zf ([(⟨#[120]⟩:BA)])),_,.rd (Zf ([s])),.agg (stC (⟨(7:Int),(⟨#[120]⟩:BA),[(⟨#[120]⟩:BA)],[s]⟩:Sm)),.rd (stsC ([(⟨(7:Int),(⟨#[120]⟩:BA),[(⟨#[120]⟩:BA)],[s]⟩:Sm)])),.tup [.rd (Zf (if fm7 (ge ([(⟨(7:Int),(⟨#[120]⟩:BA),[(⟨#[120]⟩:BA)],[s]⟩:Sm)]) 0)then wd7 (ge ([(⟨(7:Int),(⟨#[120]⟩:BA),[(⟨#[120]⟩:BA)],[s]⟩:Sm)]) 0)else [])),.int (if fm7 (ge ([(⟨(7:Int),(⟨#[120]⟩:BA),[(⟨#[120]⟩:BA)],[s]⟩:Sm)]) 0)then 0 else 2:Int)],_,_,_,_,_] [0,2,3,4,5] U6 rfl ⟨fun _ _ hk hx _ _=>YC Zd ZaT rfl (Rel.of_lit (.string { data:= #[120] }) (lb rfl)) (Zq hS _ hk hx _ nlr) (jo hJ hx),fun _ _ hk hx hl _=>YC Zd ZaT rfl (hl.D 1 7 rfl rfl) (Zq hS _ hk hx _ nlr) (jo hJ hx),fun a _ _ hx hl _=>Xe (us:=[a.eval (.const (.int .i64 7)),a.eval (.const (.string { data:= #[120] })),a.eval (.tmp 6),a.eval (.tmp 8)]) Zj2 rfl yz (Zi (Rel.of_lit (.int .i64 7)) (Zi (Rel.of_lit (.string { data:= #[120] }) (lb rfl)) (Zi (hl.D 0 6 rfl rfl) (Zi (hl.D 2 8 rfl rfl) ZJ)))) rfl hx,fun _ _ hk hx hl _=>ZeQ ZaP ZqG rfl rfl (hl.D 3 9 rfl rfl) (Zq hS _ hk hx _ nlr) (jo hJ hx),iFo hS hJ (Zvn hJ ([(⟨(7:Int),(⟨#[120]⟩:BA),[(⟨#[120]⟩:BA)],[s]⟩:Sm)]) (hG) (rfl) (rfl) (lb rfl)) Zs3,trivial⟩ ?_
 refine ln 0 fun hl1=>?_
 refine ln 1 fun hl2=>?_
 refine ln 2 fun hl3=>?_
 refine ln 3 fun hl4=>?_
 refine qso tb hJ [1002] U3 [_] ?_
 exact tRo 0 (hE:=eB (by rw[←fm7_x s];simp only[ge,List.getD_cons_zero];cases fm7 ⟨7,⟨#[120]⟩,[⟨#[120]⟩],[s]⟩<;>simp))
end Go.Proofs.YtneapgbkkkjagaaGreatDoor
namespace Go.Proofs.YtneapgbkkkjagaaGreatDoor
theorem ZtO {d:Db} {k:Nat} {e:Int} (hk:k<d.consts.length) (h:∀ j,j<k→ZfQ d j=0) (h0:ZfQ d k≠0) (he:ZfQ d k=e):Zbr d=e:=by
 have:=Yp hk h h0
 rw[Zbr,this,he]
 rw[he]at h0
 simp[h0]
theorem ZtN {d:Db} {k:Nat} {e:Int} (h1:Xz d.consts.length (ZfQ d)=0) (hk:k<d.vars.length) (h:∀ j,j<k→ZgC d j=0) (h0:ZgC d k≠0) (he:ZgC d k=e):Zbr d=e:=by
 rw[Zbr,h1,Yp hk h h0,he];rfl
theorem ZuI {d:Db} (h1:Xz d.consts.length (ZfQ d)=0) (h2:Xz d.vars.length (ZgC d)=0):Zbr d=0:=by
 rw[Zbr,h1,h2];rfl
theorem ZaH {α:Type} (ls:List (List α)) (k:Nat):(ls.take k).flatten.length≤ls.flatten.length:=by
 have h:ls.flatten=(ls.take k).flatten++(ls.drop k).flatten:=by rw[←List.flatten_append,List.take_append_drop]
 rw[h,List.length_append];omega
theorem ZpB {ts:List (BA×BA)} {vis:List BA} {k:BA} (h1:vis.Nodup) (h2:∀ q∈vis,q∈ts.map (·.1)) (h3:k∉vis∧(Ya ts k).isSome=true):ts.length-(vis++[k]).length<ts.length-vis.length:=by
 have hk:k∈ts.map (·.1):=by have:=h3.2;rw[Qc]at this;simpa using this
 have hn:(vis++[k]).Nodup:=by
  rw[List.nodup_append]
  exact⟨h1,by simp,fun x hx y hy e=>by rw[List.mem_singleton.1 hy]at e;subst e;exact h3.1 hx⟩
 have:=Zb5 (ys:=ts.map (·.1)) hn fun x hx=>by
  rcases List.mem_append.1 hx with h | h
  · exact h2 x h
  · rw[List.mem_singleton.1 h];exact hk
 simp at this ⊢
 omega
theorem ZpA {ts tm tn:List (BA×BA)} {vis:List BA} {k:BA} (h1:∀ q,Ya tn q=if q∈vis then Ya ts q else Ya tm q) (h3:k∉vis∧(Ya ts k).isSome=true):∀ q,Ya (Zbc tn k ((Ya ts k).getD default)) q=if q∈vis++[k]then Ya ts q else Ya tm q:=fun q=>by
 obtain⟨v,hv⟩:=Option.isSome_iff_exists.1 h3.2
 rw[Zb6]
 by_cases e:q=k
 · subst e;simp[hv]
 · rw[if_neg e,h1 q]
   simp[e]
def ZkV (vs:List BA) (f:Fr):List BA:=Zab vs (f.text::(YZ f.hyps).map Hy.text).flatten
def Zms (m:List BA) (h:Hy):Bool:=!h.floating||decide (ge h.text 1∈m)
def ZqC (vs:List BA) (wide:List Pr) (i:Nat):Bool:=((!Op.bytesLess (ge wide i).a.toList (ge wide i).b.toList|| !decide ((ge wide i).a∈vs))|| !decide ((ge wide i).b∈vs))|| (decide ((0:Int)< ((i:Nat):Int))&&decide ((0:Int)≤ZiJ (ge wide (((i:Nat):Int)-1).toNat) (ge wide i)))
def ZtR (vs:List BA) (f:Fr):Bool:=
 ((f.hyps.all (Zms (ZkV vs f))&&decide ((ZdT f.hyps).length=(ZkV vs f).length))&& (List.range f.wide.length).all fun i=>!ZqC vs f.wide i)&&decide (f.apart=f.wide.filter (inV (ZkV vs f)))
def ZfK (vs:List BA) (f:Fr):Int:=if ZtR vs f then 0 else 70
theorem setE_h {vs:List BA} {f:Fr} (h:f.hyps.all (Zms (ZkV vs f))=false):ZfK vs f=70:=by simp[ZfK,ZtR,h]
theorem setE_n {vs:List BA} {f:Fr} (h:¬ (ZdT f.hyps).length=(ZkV vs f).length):ZfK vs f=70:=by simp[ZfK,ZtR,h]
theorem setE_w {vs:List BA} {f:Fr} {k:Nat} (hk:k<f.wide.length) (h:ZqC vs f.wide k=true):ZfK vs f=70:=by
 have:((List.range f.wide.length).all fun i=>!ZqC vs f.wide i)=false:=by
  rw[List.all_eq_false]
  exact⟨k,by simpa using hk,by simp[h]⟩
 simp[ZfK,ZtR,this]
theorem setE_a {vs:List BA} {f:Fr} (h:¬ f.apart=f.wide.filter (inV (ZkV vs f))):ZfK vs f=70:=by simp[ZfK,ZtR,h]
theorem ZuP {vs:List BA} {f:Fr} (h1:f.hyps.all (Zms (ZkV vs f))=true) (h2:(ZdT f.hyps).length=(ZkV vs f).length) (h3:∀ j,j<f.wide.length→ZqC vs f.wide j=false) (h4:f.apart=f.wide.filter (inV (ZkV vs f))):ZfK vs f=0:=by
 have:((List.range f.wide.length).all fun i=>!ZqC vs f.wide i)=true:=by
  rw[List.all_eq_true]
  intro i hi
  simp[h3 i (by simpa using hi)]
 rw[ZfK,ZtR,h1,this,decide_eq_true h2,decide_eq_true h4]
 rfl
end Go.Proofs.YtneapgbkkkjagaaGreatDoor
set_option maxHeartbeats 8000000
set_option maxRecDepth 100000
namespace Go.Proofs.YtneapgbkkkjagaaGreatDoor
open Go.RowKit
theorem Zok {J:WP} (hJ:Stab J) (M1 M2:Nat) (M3 M4 M5:Nat) (d:Db)  :FnM (ι:= { p':List BA×List BA // Zbr d=0→p'=(d.consts,d.vars) }) Tryz.prog J 49 [] [.ptr (mpC [M1,M2,M3,M4,M5]),.agg (dbC d)] [OB.set keyS M1 ([]:List BA),OB.set keyS M2 ([]:List BA)] (fun _=>.int (Zbr d)) (fun i'=>[OB.set keyS M1 (i'.1.1),OB.set keyS M2 (i'.1.2)]):=by
 refine fEM Tryz.func49 fun S w0 R hS hJ0 hH=>?_
 refine Yq (B:=So J S w0 50 (OB.set keyS M1 ([]:List BA)::OB.set keyS M2 ([]:List BA)::R) [(0,.ptr (mpC [M1,M2,M3,M4,M5])),(1,.agg (dbC d))]) ?_ fun a w h=>h
 refine ZG tb hJ [0,1000] [.ptr (dbC d),_] [0] U2 rfl ⟨iBo hS hJ,trivial⟩ ?_
 refine Ze (ZG tb hJ [0,1,1001,1002,1003] [_,_,.int (d.consts.length:Nat),_] [2] U5 rfl ⟨Z3 Zm,trivial⟩ ?_)
 refine ln 2 fun hl1=>?_
 refine Zc (lpo (ι:=Nat×(List BA)) (fun(k,cs)=>(k≤d.consts.length)∧(cs=d.consts.take k)∧(∀ j,j<k→ZfQ d j=0)) (fun(_,cs)=>(OB.set keyS M1 cs::OB.set keyS M2 ([]:List BA)::R)) (fun(k,_)=>[(12,.int (k:Nat))]) (fun(k,_)=>d.consts.length-k) (r5 []) U4 (0,([]:List BA)) ⟨nzl,rfl,fun j hj=>by omega⟩ ?_)
 rintro⟨k,cs⟩ ⟨f1_1,f1_2,f1_3⟩
 refine qso tb hJ (r5 [1000]) [_] U6 ?_
 refine cjS 5 (fun hb1=>?_) fun hb1=>?_
 ·
  try simp at hb1
  refine Zb (nx (Ze (Zc (ZG tb hJ (r5 [1002]) [.ptr [lS (ge d.consts k)],_,_] [0] U6 rfl ⟨iIx Zd,trivial⟩ ?_))))
  refine Ze (ZG tb hJ (r6 [1002]) [_,.bool (ZgH (ge d.consts k)),_] [1] U7 rfl ⟨iFo hS hJ (ZdF hJ (ge d.consts k)) ZjR,trivial⟩ ?_)
  refine cj 6 (fun hb2=>?_) fun hb2=>?_
  ·
   try simp at hb2
   have q2:ZfQ d k=2:=by simp[ZfQ,hb2]
   have e9:Zbr d=2:=ZtO oz f1_3 (by rw[q2];decide) q2
   refine qso tb hJ [1000] [_] [_] ?_
   exact ZA (fun a w h=>Yg  (m:=0) ⟨(cs,([]:List BA)),by first | (intro h9;rw[e9]at h9;exact absurd h9 dz) | (intro _;rw[e1c,f2_2,ZD oz])⟩ rfl h rfl (eI (e9.symm)))
  ·
   try simp at hb2
   refine Zb (nx (Ze (ZG tb hJ (r6 [1005]) (V5 [.bool (decide ((ge d.consts k)∈cs))]) [5] U7 rfl ⟨fun _ _ _ hx hl _=>YG (Kd:=keyS) (xs:=cs) Yf Yk (ge d.consts k) rfl (Zh hx (mo 0 rfl)) (hl.D 3 22 rfl rfl) (hl.D 4 23 rfl rfl) hx,trivial⟩ ?_)))
   refine cj 6 (fun hb3=>?_) fun hb3=>?_
   ·
    try simp at hb3
    have q2:ZfQ d k=6:=by simp[ZfQ,hb2,←f1_2,hb3]
    have e9:Zbr d=6:=ZtO oz f1_3 (by rw[q2];decide) q2
    refine qso tb hJ [1000] [_] [_] ?_
    exact ZA (fun a w h=>Yg  (m:=0) ⟨(cs,([]:List BA)),by first | (intro h9;rw[e9]at h9;exact absurd h9 dz) | (intro _;rw[e1c,f2_2,ZD oz])⟩ rfl h rfl (eI (e9.symm)))
   ·
    try simp at hb3
    refine Zb (nx (ZE (snK 5 tb rfl (ZcA Yf hJ hJ0 (ge d.consts k) rfl rfl (.inl rfl) (fun a w h=>⟨(h.get 1 rfl),(h.get 0 rfl),(Rel.of_lit (.bool true))⟩) ?_))))
    refine seK [5,6,7,8,9] U5 rfl (nx (Yo tb hJ [0,1,2,3,1001] [.int (k+1:Nat),_] [0] U5 rfl ⟨Z7,trivial⟩ ?_))
    exact YE (k+1,QS cs (ge d.consts k)) (r5 []) ⟨oz,by rw[ZZ oz,←f1_2];simp[QS,hb3],ZK f1_3 (by simp[ZfQ,hb2,←f1_2,hb3])⟩
 ·
  try simp at hb1
  have e1c:cs=d.consts:=by rw[f1_2,ZD oz]
  have e1:Xz d.consts.length (ZfQ d)=0:=X7 fun j hj=>f1_3 j oz
  refine Zs (nx (Ze (ZG tb hJ [0,1001,1002,1003] [_,_,.int (d.vars.length:Nat),_] [2] U4 rfl ⟨Z3 Zm,trivial⟩ ?_)))
  refine ln 1 fun hl2=>?_
  refine Zc (lpo (ι:=Nat×(List BA)) (fun(k,vs)=>(k≤d.vars.length)∧(vs=d.vars.take k)∧(∀ j,j<k→ZgC d j=0)) (fun(_,vs)=>(OB.set keyS M1 cs::OB.set keyS M2 vs::R)) (fun(k,_)=>[(34,.int (k:Nat))]) (fun(k,_)=>d.vars.length-k) [0,1,2,3] U3 (0,([]:List BA)) ⟨nzl,rfl,fun j hj=>by omega⟩ ?_)
  rintro⟨k,vs⟩ ⟨f2_1,f2_2,f2_3⟩
  refine qso tb hJ [0,1,2,3,1000] [_] U5 ?_
  refine cjS 4 (fun hb4=>?_) fun hb4=>?_
  ·
   try simp at hb4
   refine Zb (nx (Ze (Zc (ZG tb hJ [0,1,2,3,1002] [.ptr [lS (ge d.vars k)],_,_] [0] U5 rfl ⟨iIx Zd,trivial⟩ ?_))))
   refine Ze (ZG tb hJ (r5 [1002]) [_,.bool (ZgH (ge d.vars k)),_] [1] U6 rfl ⟨iFo hS hJ (ZdF hJ (ge d.vars k)) ZjR,trivial⟩ ?_)
   refine cj 5 (fun hb5=>?_) fun hb5=>?_
   ·
    try simp at hb5
    have q5:ZgC d k=2:=by simp[ZgC,hb5]
    have e9:Zbr d=2:=ZtN e1 oz f2_3 (by rw[q5];decide) q5
    refine qso tb hJ [1000] [_] [_] ?_
    exact ZA (fun a w h=>Yg  (m:=0) ⟨(cs,vs),by first | (intro h9;rw[e9]at h9;exact absurd h9 dz) | (intro _;rw[e1c,f2_2,ZD oz])⟩ rfl h rfl (eI (e9.symm)))
   ·
    try simp at hb5
    refine Zb (nx (Ze (ZG tb hJ (r5 [1002]) [_,_,.bool (decide ((ge d.vars k)∈cs)||decide ((ge d.vars k)∈vs))] [2] U6 rfl ⟨fun _ _ hk hx hl _=>Y5 (Zb3 hJ M1 M2 M3 M4 M5 cs vs (ge d.vars k)) Zhk rfl (Zq hS _ hk hx) (hx.1) (ZP (Zh hx (mo 0 rfl)) (ZP (Zh hx (mo 1 rfl)) Zv)) (Za (hl.D 0 41 rfl rfl) (Za (hl.D 1 42 rfl rfl) Zg)) (jo hJ hx),trivial⟩ ?_)))
    refine cj 5 (fun hb6=>?_) fun hb6=>?_
    ·
     try simp at hb6
     have q5:ZgC d k=6:=by rw[ZgC,if_neg (by simp[hb5]),if_pos (by rw[←f2_2,←e1c];simpa using hb6)]
     have e9:Zbr d=6:=ZtN e1 oz f2_3 (by rw[q5];decide) q5
     refine qso tb hJ [1000] [_] [_] ?_
     exact ZA (fun a w h=>Yg  (m:=0) ⟨(cs,vs),by first | (intro h9;rw[e9]at h9;exact absurd h9 dz) | (intro _;rw[e1c,f2_2,ZD oz])⟩ rfl h rfl (eI (e9.symm)))
    ·
     try simp at hb6
     refine Zb (nx (ZE (snK 5 tb rfl (kw pm1 ?_))))
     refine ZcA Yf hJ hJ0 (ge d.vars k) rfl rfl (.inl rfl) (fun a w h=>⟨(h.get 1 rfl),(h.get 0 rfl),(Rel.of_lit (.bool true))⟩) ?_
     refine seK [5,6,7,8] U4 rfl (nx (Yo tb hJ [0,1,2,1001] [.int (k+1:Nat),_] [0] U4 rfl ⟨Z7,trivial⟩ ?_))
     exact kw pm1 (YE (k+1,QS vs (ge d.vars k)) [0,1,2,3] ⟨oz,by rw[ZZ oz,←f2_2];simp only[QS];rw[if_neg hb6.2],ZK f2_3 (by rw[ZgC,if_neg (by simp[hb5]),if_neg (by rw[←f2_2,←e1c];simpa using hb6)])⟩)
  ·
   try simp at hb4
   have e9:Zbr d=0:=ZuI e1 (X7 fun j hj=>f2_3 j oz)
   refine Zs (nx (qso tb hJ [1000] [_] [_] ?_))
   exact ZA (fun a w h=>Yg  (m:=0) ⟨(cs,vs),by first | (intro h9;rw[e9]at h9;exact absurd h9 dz) | (intro _;rw[e1c,f2_2,ZD oz])⟩ rfl h rfl (eI (e9.symm)))
theorem p_hyp {J:WP} (hJ:Stab J) (M1 M2:Nat) (M3 M4:Nat) (M5 L1 T1:Nat) (cs vs fs:List BA) (hm:List (BA×Hy)) (tm:List (BA×BA)) (ls:List BA) (ts:List (BA×BA)) (y:Hy) (dm:Bool)  :FnR Tryz.prog J 78 [OB.set keyS M1 cs,OB.set keyS M2 vs,OB.set keyS M3 fs,OB.mH M4 hm,OB.mT M5 tm,OB.set keyS L1 ls,OB.mT T1 ts] [.ptr (mpC [M1,M2,M3,M4,M5]),.agg [.lit (.map (some L1)),.lit (.map (some T1))],.agg (hyC y),.bool dm] (.int (Zg6 cs vs fs hm tm ls ts y dm)):=by
 refine fER Tryz.func78 fun S w0 hS hJ0 hH=>?_
 refine tw ZR (ZG tb hJ [0,3,1000,1001] [.ptr (mpC [L1,T1]),.ptr (hyC y),_] [0,1] U4 rfl ⟨iBo hS hJ,iBo hS hJ,trivial⟩ ?_)
 refine Ze (ZG tb hJ [0,2,3,1038] [_,_,.bool (QK y.label),_,_,_,_,_,_,_,_,_,_,_,_,_,_,_,.int (y.text.length:Nat),_,_,_,_,_,_,_,_,_,_,.int (y.text.length:Nat),_,_,_,_,.int (y.text.length:Nat),_,_,_,_] [2,18,29,34] U4 rfl ⟨iFo hS hJ (Zc4 hJ y.label) Zhj,Z3 Zm,Z3 Zm,Z3 Zm,trivial⟩ ?_)
 refine cj 3 (fun hb1=>?_) fun hb1=>?_
 ·
  replace hb1:Zar y dm=true:=hb1
  refine qso tb hJ [1000] [_] [_] ?_
  exact tRo 0 (hE:=eI (by grind[Zg6]))
 ·
  replace hb1:Zar y dm=false:=hb1
  have hy1:=Zix hb1
  refine Zb (nx (Ze (ZG tb hJ [0,1,2,1019] (V3 [.bool (decide (y.label∈cs)||decide (y.label∈vs)),_,_,_,_,_,_,_,.bool (decide (y.label∈fs)),_,_,_,_,_,_,.bool (decide (y.label∈ls)),_]) [3,11,18] U4 rfl ⟨fun _ _ hk hx hl _=>Y5 (Zb3 hJ M1 M2 M3 M4 M5 cs vs y.label) Zhk rfl (Zq hS _ hk hx) (hx.1) (ZP (Yc hH hk hx (mo 0 rfl)) (ZP (Yc hH hk hx (mo 1 rfl)) Zv)) (Za (hl.D 0 55 rfl rfl) (Za (hl.D 2 57 rfl rfl) Zg)) (jo hJ hx),fun _ _ hk hx hl hc=>YG (Kd:=keyS) (xs:=fs) Yf Yk y.label rfl (Yc hH hk hx (mo 2 rfl)) (hl.D 8 63 rfl hc) (hl.D 10 65 rfl hc) hx,fun _ _ hk hx hl hc=>YG (Kd:=keyS) (xs:=ls) Yf Yk y.label rfl (Yc hH hk hx (mo 5 rfl)) (hl.D 15 70 rfl hc) (hl.D 17 72 rfl hc) hx,trivial⟩ ?_)))
  refine cj 3 (fun hb2=>?_) fun hb2=>?_
  ·
   refine qso tb hJ [1000] [_] [_] ?_
   exact tRo 0 (hE:=eI (by grind[Zg6]))
  ·
   refine Zb (nx (Ze (qso tb hJ [0,1,2,1001] U2 U4 ?_)))
   refine cj 3 (fun hb3=>?_) fun hb3=>?_
   ·
    refine Ze (ZG tb hJ [0,1,2,1005,1021] (V6 [.ptr [lS (ge y.text 0)],_,.bool (decide ((ge y.text 0)∈cs)),_,_,_,_,_,_,_,_,.ptr [lS (ge y.text 1)],_,.bool (decide ((ge y.text 1)∈vs)),_,_]) [6,8,17,19] U5 rfl ⟨iIx (k:=0) Zd (hk:=by have:=Yv hb1 hb3;omega),fun _ _ hk hx hl _=>YG (Kd:=keyS) (xs:=cs) Yf Yk (ge y.text 0) rfl (Yc hH hk hx (mo 0 rfl)) (hl.D 3 80 rfl rfl) (hl.D 7 84 rfl rfl) hx,gIx (k:=1) Zd (hk:=fun(hc':((!(decide ((ge y.text 0)∈cs)))==false)=true)=>by(try simp at hc');have:=Yv hb1 hb3;omega),fun _ _ hk hx hl hc=>YG (Kd:=keyS) (xs:=vs) Yf Yk (ge y.text 1) rfl (Yc hH hk hx (mo 1 rfl)) (hl.D 14 91 rfl hc) (hl.D 18 95 rfl hc) hx,trivial⟩ ?_)
    refine ln 3 fun hl1=>?_
    refine cj 4 (fun hb4=>?_) fun hb4=>?_
    ·
     refine qso tb hJ [1000] [_] [_] ?_
     exact tRo 0 (hE:=eI (by grind[Zg6]))
    ·
     refine Zb (nx (ZG tb hJ [0,2,1010,1011] (V4 [.ptr [lS (ge y.text 1)],_,.tup [.str ((Ya ts (ge y.text 1)).getD default),.bool ((Ya ts (ge y.text 1)).isSome)],_,_,_,_,_]) [4,6] U4 rfl ⟨iIx (k:=1) Zd (hk:=by have:=Yv hb1 hb3;omega),fun _ _ hk hx hl _=>Qs (Kd:=keyS) (f:=(fun z':BA=>AV.str z')) (L:=ts) Zbi Zey (ge y.text 1) rfl (Yc hH hk hx (mo 6 rfl)) (hl.D 1 101 rfl rfl) (hl.D 5 105 rfl rfl) hx,trivial⟩ ?_))
     refine Ze (ZG tb hJ [0,1,2,3,1012,1013] (V6 [.ptr [lS (ge y.text 1)],_,.tup [.str ((Ya tm (ge y.text 1)).getD default),.bool ((Ya tm (ge y.text 1)).isSome)],_,_,_,_,_]) [6,8] U6 rfl ⟨iIx (k:=1) Zd (hk:=by have:=Yv hb1 hb3;omega),fun _ _ hk hx hl _=>Qs (Kd:=keyS) (f:=(fun z':BA=>AV.str z')) (L:=tm) Zbi Zey (ge y.text 1) rfl (Yc hH hk hx (mo 4 rfl)) (hl.D 3 113 rfl rfl) (hl.D 7 117 rfl rfl) hx,trivial⟩ ?_)
     refine ZG tb hJ [0,1,3,1019] (V5 [.ptr [lS (ge y.text 0)],_,_,_,_,_,_,_,_,_,.ptr [lS (ge y.text 0)],_,_,_,_]) [5,15] U4 rfl ⟨gIx (k:=0) Zd (hk:=fun(hc':(((Ya tm (ge y.text 1)).isSome)==true)=true)=>by(try simp at hc');have:=Yv hb1 hb3;omega),gIx (k:=0) Zd (hk:=fun(hc':(((((Ya tm (ge y.text 1)).isSome)&& (!decide (((Ya tm (ge y.text 1)).getD default)=(ge y.text 0))))==false)&& (((Ya ts (ge y.text 1)).isSome)==true))=true)=>by(try simp at hc');have:=Yv hb1 hb3;omega),trivial⟩ ?_
     refine cj 3 (fun hb5=>?_) fun hb5=>?_
     ·
      refine qso tb hJ [1000] [_] [_] ?_
      exact tRo 0 (hE:=eI (by grind[Zg6]))
     ·
      refine Zb (nx (qso tb hJ [0,1,1000] [_] U3 ?_))
      refine cj 2 (fun hb6=>?_) fun hb6=>?_
      ·
       refine qso tb hJ [1000] [_] [_] ?_
       exact tRo 0 (hE:=eI (by grind[Zg6]))
      ·
       refine Zb (nx (Ze (Ze (fun a w h=>YF (γ:=Nat) (fun ix'=>([.ptr (mpC [M1,M2,M3,M4,M5]),.ptr (mpC [M1,M2,M3,M4,M5]),.ptr (mpC [M4,M5]),.lit (.map (some M4)),.ptr (hyC y),.str y.label,.tup [.agg (hyC ((Ya hm y.label).getD default)),.bool ((Ya hm y.label).isSome)],.tup [.agg (hyC ((Ya hm y.label).getD default)),.bool ((Ya hm y.label).isSome)],.agg (hyC ((Ya hm y.label).getD default)),.bool ((Ya hm y.label).isSome),.any,.any,.bool ((Ya hm y.label).isSome)]:List AV).getD ix' .any) (fun _=>true) [(6,fun _=>.ptr (hyC y)),(14,fun g=>.at g 0),(15,fun _=>.bool ((Ya hm y.label).isSome))] (fun j' g=>match j' with | 0=>[] | 1=>[OB.var g [lS (⟨#[]⟩:BA),lB false,Zf ([]:List BA)]] | _=>[OB.var g (hyC ((Ya hm y.label).getD default))]) (fun k' g=>match k' with | 0=>(.pointer (some ⟨g,0,none⟩)) | _=>undef) [10,11] 2 0 (fun _=>rfl) h hJ Yr rfl rfl rfl rfl rfl rfl hsb ⟨?_,?_,?_,?_,?_,?_,?_,?_,?_,?_,?_,?_,?_,trivial⟩ ⟨?e17_1_0,?e17_1_1,trivial⟩ ⟨.old 1 6 _,.eff 0 10 14 (fun g=>(.pointer (some ⟨g,0,none⟩))) rfl rfl (fun _=>rfl) (fun _=>True.intro),.new 12 15 _,trivial⟩ ?n17_1))))
       exact oX rfl fun hx hl=>Z2 rfl (hl.env 0 0 _ rfl rfl) hx
       exact oX rfl fun hx hl=>XA rfl (hl.D 0 150 rfl rfl) hx
       exact oX rfl fun hx hl=>ZN Za3 rfl (hl.D 1 151 rfl rfl) hx
       exact oX rfl fun hx hl=>ZH Zid rfl (hl.D 2 152 rfl rfl) hx
       exact oX rfl fun hx hl=>ZN Zca rfl (hl.env 1 6 _ rfl rfl) hx
       exact oX rfl fun hx hl=>ZH QU rfl (hl.D 4 154 rfl rfl) hx
       exact oY rfl fun hk hx hl=>Qs (Kd:=keyS) (f:=(fun z':Hy=>AV.agg (hyC z'))) (L:=hm) QV Zbd y.label rfl (Yc hH hk hx (mo 3 rfl)) (hl.D 3 153 rfl rfl) (hl.D 5 155 rfl rfl) hx
       exact oX rfl fun hx hl=>Z2 rfl (hl.D 6 156 rfl rfl) hx
       exact oX rfl fun hx hl=>YT rfl (hl.D 7 149 rfl rfl) rfl hx
       exact oX rfl fun hx hl=>YT rfl (hl.D 7 149 rfl rfl) rfl hx
       exact Zl rfl
       exact Zl rfl
       exact oX rfl fun hx hl=>XW rfl (hl.D 9 158 rfl rfl) hx
       case e17_1_0=>exact⟨_,rfl,rfl,rfl,rfl,fun g _ w hk hx _ _=>Zx (ZaQ YI hJ rfl hk hx) fun v w' ⟨g',hv,hp⟩=>⟨g',rfl,fun k' hk'=>absurd hk' (Nat.not_lt_zero _),fun _=>hv,hp⟩⟩
       case e17_1_1=>exact⟨_,rfl,rfl,rfl,rfl,fun g _ w hk hx hl hs=>(by obtain⟨us2,hv2,hr3⟩:=Q3 (hl.D 8 157 rfl rfl);exact Zx (Xl (S':=S) (off:=0) (news:=U3) (es:=U3) (us:=us2) hJ hJ0 YN rfl hk hx (Zcs (hs 0 10 _ 14 oz rfl rfl rfl)) (by rw[hv2];rfl) hr3 (lb rfl) rfl) fun v w' hp=>⟨g,rfl,fun _ _=>rfl,fun e=>(by cases e),hp⟩)⟩
       clear a w h
       intro b1
       dsimp only[List.map]
       refine kw (fun h=>YJ hS h (m:=1) (s:=14) rfl) (nx (ZG tb hJ [1006] (V4 [.bool (Zmr ((Ya hm y.label).getD default) y),_,_]) [4] [_] rfl ⟨iFo hS hJ (ZhW hJ ((Ya hm y.label).getD default) y) Zly,trivial⟩ ?_))
       refine cj 0 (fun hb8=>?_) fun hb8=>?_
       ·
        refine qso tb hJ [1000] [_] [_] ?_
        exact tRo 0 (hE:=eI (by grind[Zg6]))
       ·
        refine Zb (nx (qso tb hJ [1000] [_] [_] ?_))
        exact tRo 0 (hE:=eI (by grind[Zg6]))
   ·
    refine ZG tb hJ [0,2,1002,1004] (V3 [.int (ZlN cs vs y.text),_]) [3] U4 rfl ⟨fun _ _ hk hx hl _=>Y5 (ZtZ hJ M1 M2 M3 M4 M5 cs vs y.text) ZpQ rfl (Zq hS _ hk hx) (hx.1) (ZP (Yc hH hk hx (mo 0 rfl)) (ZP (Yc hH hk hx (mo 1 rfl)) Zv)) (Za (hl.D 0 142 rfl rfl) (Za (hl.D 2 144 rfl rfl) Zg)) (jo hJ hx),trivial⟩ ?_
    refine ln 2 fun hl2=>?_
    refine qso tb hJ [0,1,3,1001] U2 U4 ?_
    refine cj 3 (fun hb7=>?_) fun hb7=>?_
    ·
     refine qso tb hJ [1001] U2 [_] ?_
     exact tRo 0 (hE:=eI (by grind[Zg6]))
    ·
     refine Zb (nx (Ze (Ze (fun a w h=>YF (γ:=Nat) (fun ix'=>([.ptr (mpC [M1,M2,M3,M4,M5]),.ptr (mpC [M1,M2,M3,M4,M5]),.ptr (mpC [M4,M5]),.lit (.map (some M4)),.ptr (hyC y),.str y.label,.tup [.agg (hyC ((Ya hm y.label).getD default)),.bool ((Ya hm y.label).isSome)],.tup [.agg (hyC ((Ya hm y.label).getD default)),.bool ((Ya hm y.label).isSome)],.agg (hyC ((Ya hm y.label).getD default)),.bool ((Ya hm y.label).isSome),.any,.any,.bool ((Ya hm y.label).isSome)]:List AV).getD ix' .any) (fun _=>true) [(6,fun _=>.ptr (hyC y)),(14,fun g=>.at g 0),(15,fun _=>.bool ((Ya hm y.label).isSome))] (fun j' g=>match j' with | 0=>[] | 1=>[OB.var g [lS (⟨#[]⟩:BA),lB false,Zf ([]:List BA)]] | _=>[OB.var g (hyC ((Ya hm y.label).getD default))]) (fun k' g=>match k' with | 0=>(.pointer (some ⟨g,0,none⟩)) | _=>undef) [10,11] 2 0 (fun _=>rfl) h hJ Yr rfl rfl rfl rfl rfl rfl hsb ⟨?_,?_,?_,?_,?_,?_,?_,?_,?_,?_,?_,?_,?_,trivial⟩ ⟨?e17_2_0,?e17_2_1,trivial⟩ ⟨.old 1 6 _,.eff 0 10 14 (fun g=>(.pointer (some ⟨g,0,none⟩))) rfl rfl (fun _=>rfl) (fun _=>True.intro),.new 12 15 _,trivial⟩ ?n17_2))))
     exact oX rfl fun hx hl=>Z2 rfl (hl.env 0 0 _ rfl rfl) hx
     exact oX rfl fun hx hl=>XA rfl (hl.D 0 150 rfl rfl) hx
     exact oX rfl fun hx hl=>ZN Za3 rfl (hl.D 1 151 rfl rfl) hx
     exact oX rfl fun hx hl=>ZH Zid rfl (hl.D 2 152 rfl rfl) hx
     exact oX rfl fun hx hl=>ZN Zca rfl (hl.env 1 6 _ rfl rfl) hx
     exact oX rfl fun hx hl=>ZH QU rfl (hl.D 4 154 rfl rfl) hx
     exact oY rfl fun hk hx hl=>Qs (Kd:=keyS) (f:=(fun z':Hy=>AV.agg (hyC z'))) (L:=hm) QV Zbd y.label rfl (Yc hH hk hx (mo 3 rfl)) (hl.D 3 153 rfl rfl) (hl.D 5 155 rfl rfl) hx
     exact oX rfl fun hx hl=>Z2 rfl (hl.D 6 156 rfl rfl) hx
     exact oX rfl fun hx hl=>YT rfl (hl.D 7 149 rfl rfl) rfl hx
     exact oX rfl fun hx hl=>YT rfl (hl.D 7 149 rfl rfl) rfl hx
     exact Zl rfl
     exact Zl rfl
     exact oX rfl fun hx hl=>XW rfl (hl.D 9 158 rfl rfl) hx
     case e17_2_0=>exact⟨_,rfl,rfl,rfl,rfl,fun g _ w hk hx _ _=>Zx (ZaQ YI hJ rfl hk hx) fun v w' ⟨g',hv,hp⟩=>⟨g',rfl,fun k' hk'=>absurd hk' (Nat.not_lt_zero _),fun _=>hv,hp⟩⟩
     case e17_2_1=>exact⟨_,rfl,rfl,rfl,rfl,fun g _ w hk hx hl hs=>(by obtain⟨us2,hv2,hr3⟩:=Q3 (hl.D 8 157 rfl rfl);exact Zx (Xl (S':=S) (off:=0) (news:=U3) (es:=U3) (us:=us2) hJ hJ0 YN rfl hk hx (Zcs (hs 0 10 _ 14 oz rfl rfl rfl)) (by rw[hv2];rfl) hr3 (lb rfl) rfl) fun v w' hp=>⟨g,rfl,fun _ _=>rfl,fun e=>(by cases e),hp⟩)⟩
     clear a w h
     intro b2
     dsimp only[List.map]
     refine kw (fun h=>YJ hS h (m:=1) (s:=14) rfl) (nx (ZG tb hJ [1006] (V4 [.bool (Zmr ((Ya hm y.label).getD default) y),_,_]) [4] [_] rfl ⟨iFo hS hJ (ZhW hJ ((Ya hm y.label).getD default) y) Zly,trivial⟩ ?_))
     refine cj 0 (fun hb8=>?_) fun hb8=>?_
     ·
      refine qso tb hJ [1000] [_] [_] ?_
      exact tRo 0 (hE:=eI (by grind[Zg6]))
     ·
      refine Zb (nx (qso tb hJ [1000] [_] [_] ?_))
      exact tRo 0 (hE:=eI (by grind[Zg6]))
section
variable {J:WP} (hJ:Stab J)
include hJ
theorem ZrF (xs ys:List Pr)  :Fn Tryz.prog J 129 [.rd (YV xs),.rd (YV ys)] (.bool (decide (xs=ys))):=by
 refine fE Tryz.func129 fun S w0 hS hJ0=>?_
 clear hJ0
 refine ln 0 fun hl1=>?_
 refine ln 1 fun hl2=>?_
 refine qs tb hJ [0,1] [_] U2 ?_
 refine Ze (hqs tb hJ [0,1,1004] [_,.int (xs.length:Nat),_,.int (ys.length:Nat),_] [1,3] U3 rfl ⟨Z3 ZL,Z3 ZL,trivial⟩ ?_)
 refine cj 2 (fun hb1=>?_) fun hb1=>?_
 ·
  try simp at hb1
  refine qs tb hJ [1000] [_] [_] ?_
  exact tRn 0 (hE:=eB (by first | (have:=Za7 (xs:=xs) (ys:=ys) oz (fun j hj=>prEq_iff.1 (f1_2 j oz));simp[this];done) | (symm;rw[decide_eq_false_iff_not];intro e;subst e;simp at hb3;done) | (symm;rw[decide_eq_false_iff_not];intro e;subst e;exact hb1 rfl)))
 ·
  try simp at hb1
  refine Zb (nx (Ze (hqs tb hJ [0,1,1001,1002] [_,.int (xs.length:Nat),_] [1] U4 rfl ⟨Z3 ZL,trivial⟩ ?_)))
  refine Zc (lp (ι:=Nat) (fun k=>(k≤xs.length)∧(∀ j,j<k→ZfF (ge xs j) (ge ys j)=true)) (fun k=>[(13,.int (k:Nat))]) (fun k=>xs.length-k) [0,1,2,3] U3 0 ⟨nzl,fun j hj=>by omega⟩ ?_)
  rintro k ⟨f1_1,f1_2⟩
  refine qs tb hJ [0,1,2,3,1000] [_] U5 ?_
  refine cjS 4 (fun hb2=>?_) fun hb2=>?_
  ·
   try simp at hb2
   refine Zb (nx (Ze (Zc (qs tb hJ [0,1,2,3,1001] U2 U5 ?_))))
   refine hqs tb hJ [0,1,2,3,1008] [_,_,.ptr (prC (ge xs k)),_,_,_,.ptr (prC (ge ys k)),_,.bool (!(decide ((ge xs k).a=(ge ys k).a)&&decide ((ge xs k).b=(ge ys k).b)))] [2,6,8] U5 rfl ⟨iIx Zt,iIx Zt,fun _ _ _ hx hl _=>ZnZ Zgj rfl (hl.D 3 19 rfl rfl) (hl.D 7 23 rfl rfl) hx,trivial⟩ ?_
   refine cj 4 (fun hb3=>?_) fun hb3=>?_
   ·
    try simp at hb3
    refine qs tb hJ [1000] [_] [_] ?_
    exact tRn 0 (hE:=eB (by first | (have:=Za7 (xs:=xs) (ys:=ys) oz (fun j hj=>prEq_iff.1 (f1_2 j oz));simp[this];done) | (symm;rw[decide_eq_false_iff_not];intro e;subst e;simp at hb3;done) | (symm;rw[decide_eq_false_iff_not];intro e;subst e;exact hb1 rfl)))
   ·
    try simp at hb3
    refine Zb (nx (hqp tb hJ [0,1,2,1001] [.int (k+1:Nat),_] [0] U4 rfl ⟨Z7,trivial⟩ ?_))
    exact lpE (k+1) [0,1,2,3] ⟨oz,ZK f1_2 (by simp[ZfF,hb3])⟩
  ·
   try simp at hb2
   refine Zs (nx (qs tb hJ [1000] [_] [_] ?_))
   exact tRn 0 (hE:=eB (by first | (have:=Za7 (xs:=xs) (ys:=ys) oz (fun j hj=>prEq_iff.1 (f1_2 j oz));simp[this];done) | (symm;rw[decide_eq_false_iff_not];intro e;subst e;simp at hb3;done) | (symm;rw[decide_eq_false_iff_not];intro e;subst e;exact hb1 rfl)))
theorem p_sets (M1 M2:Nat) (M3 M4 M5:Nat) (vs:List BA) (f:Fr) (h2:f.hyps.length≤40) (h3:f.wide.length*32≤140737488351232) (h4:∀ x∈f.hyps,x.floating=true→x.text.length=2):FnR Tryz.prog J 80 [OB.set keyS M2 vs] [.ptr (mpC [M1,M2,M3,M4,M5]),.agg (frC f)] (.int (ZfK vs f)):=by
 refine fER Tryz.func80 fun S w0 hS hJ0 hH=>?_
 refine tw ZR (ZG tb hJ [0,1000] [.ptr (frC f),_] [0] U2 rfl ⟨iBo hS hJ,trivial⟩ ?_)
 refine Ze (fun a w h=>YF (γ:=Nat) (fun ix'=>([.ptr (mpC [M1,M2,M3,M4,M5]),.ptr (mpC [M1,M2,M3,M4,M5]),.ptr (mpC [M2,M3,M4,M5]),.lit (.map (some M2)),.ptr [Y1 f.hyps,YV f.apart,Zf f.text,Y1 f.dummies,YV f.wide,Zf f.proof],.rd (Y1 f.hyps),.ptr [Zf f.text,Y1 f.dummies,YV f.wide,Zf f.proof],.rd (Zf f.text),.rd (Ye (f.text::(YZ f.hyps).map Hy.text)),.any,.any]:List AV).getD ix' .any) (fun _=>true) [(0,fun _=>.ptr (mpC [M1,M2,M3,M4,M5])),(3,fun _=>.ptr (frC f)),(5,fun g=>.lit (.map (some g)))] (fun j' g=>match j' with | 0=>[] | _=>[OB.set keyS g (Zab vs (f.text::(YZ f.hyps).map Hy.text).flatten)]) (fun k' g=>match k' with | 0=>(.map (some g)) | 1=>(.map (some g)) | _=>undef) [9,10] 2 0 (fun _=>rfl) h hJ Yr rfl rfl rfl rfl rfl rfl hsb ⟨?_,?_,?_,?_,?_,?_,?_,?_,?_,?_,?_,trivial⟩ ⟨?e1_1_0,?e1_1_1,trivial⟩ ⟨.old 0 0 _,.old 1 3 _,.eff 1 10 5 (fun g=>(.map (some g))) rfl rfl (fun _=>rfl) (fun _=>True.intro),trivial⟩ ?n1_1)
 exact oX rfl fun hx hl=>Z2 rfl (hl.env 0 0 _ rfl rfl) hx
 exact oX rfl fun hx hl=>XA rfl (hl.D 0 11 rfl rfl) hx
 exact oX rfl fun hx hl=>ZN Zmz rfl (hl.D 1 12 rfl rfl) hx
 exact oX rfl fun hx hl=>ZH Zt6 rfl (hl.D 2 13 rfl rfl) hx
 exact oX rfl fun hx hl=>ZN Qh rfl (hl.env 1 3 _ rfl rfl) hx
 exact oX rfl fun hx hl=>ZH Zcu rfl (hl.D 4 15 rfl rfl) hx
 exact oX rfl fun hx hl=>ZN Zcc rfl (hl.env 1 3 _ rfl rfl) hx
 exact oX rfl fun hx hl=>ZH Xg rfl (hl.D 6 17 rfl rfl) hx
 exact oY rfl fun hk hx hl=>ZaY (Zmf hJ f.hyps f.text (h2)) Zs7 rfl (Zq hS _ hk hx) (hx.1) (Za (hl.D 5 16 rfl rfl) (Za (hl.D 7 18 rfl rfl) Zg)) (jo hJ hx)
 exact Zl rfl
 exact Zl rfl
 case e1_1_0=>exact⟨_,rfl,rfl,rfl,rfl,fun _ _ w hk hx hl _=>Zx (d_fn (O:=[]) (R:=[]) (Zjn hJ M2 vs (f.text::(YZ f.hyps).map Hy.text)) Zs8 rfl hS hJ0 (ZP (hH _ (mo 0 rfl)) Zv) hk hx (Za (hl.D 3 14 rfl rfl) (Za (hl.D 8 19 rfl rfl) Zg))) fun v w' ⟨i,hp,hv⟩=>⟨i,rfl,fun k' hk'=>absurd hk' (Nat.not_lt_zero _),fun _=>hv.lit,hp⟩⟩
 case e1_1_1=>exact⟨_,rfl,rfl,rfl,rfl,fun g _ w hk hx _ hs=>Zx (Zbn (.inl rfl) (hs 0 9 _ 20 oz rfl rfl rfl) hk hx) fun v w' hp=>⟨g,rfl,fun _ _=>rfl,fun _=>hp.1,hp.2⟩⟩
 clear a w h
 intro z1
 dsimp only[List.map]
 refine nx (qso tb hJ [0,1,2,1000] [_] U4 ?_)
 refine Ze (ZG tb hJ [0,1,2,3,1001,1002,1003] [_,_,.int (f.hyps.length:Nat),_] [2] U7 rfl ⟨Z3 Zz,trivial⟩ ?_)
 refine ln 4 fun hl1=>?_
 refine Zc (lpo (ι:=Nat×Nat) (fun(k,n)=>(k≤f.hyps.length)∧(n=(ZdT (f.hyps.take k)).length)∧((f.hyps.take k).all (Zms (ZkV vs f))=true)∧(n≤k)) (fun(_,_)=>[OB.set keyS z1 (Zab vs (f.text::(YZ f.hyps).map Hy.text).flatten)]) (fun(k,n)=>[(24,.int (k:Nat)),(6,.int (n:Nat))]) (fun(k,_)=>f.hyps.length-k) [0,1,2,4,5,6,3] U5 (0,0) ⟨nzl,rfl,rfl,nzl⟩ ?_)
 rintro⟨k,n⟩ ⟨f1_1,f1_2,f1_3,f1_4⟩
 refine qso tb hJ (r7 [1000]) [_] U8 ?_
 refine cjS 7 (fun hb1=>?_) fun hb1=>?_
 ·
  try simp at hb1
  refine Zb (nx (Ze (Zc (tsq (sy (.ptr (hyC (ge f.hyps k))) (fun h=>ZQ (i:=(k:Int)) Zo rfl (h.get 3 rfl) (h.get 5 rfl) nnn (Z0 (xs:=f.hyps) (k:=k) sfz) rfl h.x) ?_)))))
  refine snK 1 tb rfl (XZ (cs:=hyC (ge f.hyps k)) ZbW rfl rfl rfl (lb rfl) rfl rfl rfl dz (m:=0) rfl rfl (fun a w h=>Zq hS _ h.keep h.x _ nlr) (fun a w h w' hk'=>YA hJ _ _ hk' h.x) ?_)
  refine seK [0,3,4,5,6,7,8,9] U8 rfl (nx (qso tb hJ (r8 [1001]) U2 U9 ?_))
  refine cj 8 (fun hb2=>?_) fun hb2=>?_
  ·
   try simp at hb2
   refine Ze (ZG tb hJ [1,2,3,4,5,6,7,1002,1006] (V3 [.ptr [lS (ge ((ge f.hyps k).text) 1)],_,.bool (decide ((ge ((ge f.hyps k).text) 1)∈(Zab vs (f.text::(YZ f.hyps).map Hy.text).flatten))),_]) [3,5] U9 rfl ⟨iIx (k:=1) Zd (hk:=by have:=h4 _ (Zu oz) hb2;omega),fun _ _ _ hx hl _=>YG (Kd:=keyS) (xs:=(Zab vs (f.text::(YZ f.hyps).map Hy.text).flatten)) Yf Yk (ge ((ge f.hyps k).text) 1) rfl (Zh hx (mo 0 rfl)) (hl.D 0 30 rfl rfl) (hl.D 4 34 rfl rfl) hx,trivial⟩ ?_)
   refine ln 7 fun hl2=>?_
   refine cj 8 (fun hb3=>?_) fun hb3=>?_
   ·
    have q3:ZfK vs f=70:=setE_h (QI hb1 (by simp only[Zms,hb2,Bool.not_true,Bool.false_or];exact decide_eq_false (ZgZ hb3)))
    refine qso tb hJ [1000] [_] [_] ?_
    exact tRo 0 (hE:=eI (q3.symm))
   ·
    refine Zb (nx (Yo tb hJ (r6 [1002]) [_,.int (n+1:Nat),_] [1] U7 rfl ⟨Z7 (h0:=by omega),trivial⟩ ?_))
    refine nx (Yo tb hJ (r5 [6,1001]) [.int (k+1:Nat),_] [0] U7 rfl ⟨Z7,trivial⟩ ?_)
    exact YE (k+1,n+1) (r5 [6,5]) ⟨oz,by rw[ZdT,Z4 oz,f1_2];simp[ZdT,hb2],by rw[XX oz,f1_3];simp only[Zms,hb2,Bool.not_true,Bool.false_or,Bool.true_and];exact decide_eq_true (Zt8 hb3),oz⟩
  ·
   try simp at hb2
   refine Zb (nx (Yo tb hJ [1,2,3,4,5,7,1001] [.int (k+1:Nat),_] [0] U7 rfl ⟨Z7,trivial⟩ ?_))
   exact YE (k+1,n) (r5 [6,5]) ⟨oz,by rw[ZdT,Z4 oz,f1_2];simp[ZdT,hb2],by rw[XX oz,f1_3];simp[Zms,hb2],oz⟩
 ·
  try simp at hb1
  have e1:f.hyps.all (Zms (ZkV vs f))=true:=by rw[←ZD (xs:=f.hyps) oz];exact f1_3
  have f1_2':n=(ZdT f.hyps).length:=by rw[f1_2,ZD oz]
  refine Zs (nx (Ze (ZG tb hJ [0,1,2,1003] [_,_,.int ((Zab vs (f.text::(YZ f.hyps).map Hy.text).flatten).length:Nat),_] [2] U4 rfl ⟨fun _ _ _ hx hl _=>Zrh Zi6 rfl (Zh hx (mo 0 rfl)) (hl.D 1 41 rfl rfl) hx,trivial⟩ ?_)))
  refine cj 3 (fun hb4=>?_) fun hb4=>?_
  ·
   have hb4a:¬ n=(ZkV vs f).length:=fun e=>ZgZ hb4 (congrArg Int.ofNat e)
   have q3:ZfK vs f=70:=setE_n (by rw[←f1_2'];exact hb4a)
   refine qso tb hJ [1000] [_] [_] ?_
   exact tRo 0 (hE:=eI (q3.symm))
  ·
   have hb4a:n=(ZkV vs f).length:=Int.ofNat.inj (Zt8 hb4)
   refine Zb (nx (Ze (ZG tb hJ [0,1,2,1001,1002,1003] [_,_,.int (f.wide.length:Nat),_] [2] U6 rfl ⟨Z3 ZL,trivial⟩ ?_)))
   refine ln 3 fun hl3=>?_
   refine Zc (lpo (ι:=Nat) (fun k=>(k≤f.wide.length)∧(∀ j,j<k→ZqC vs f.wide j=false)) (fun _=>[OB.set keyS z1 (Zab vs (f.text::(YZ f.hyps).map Hy.text).flatten)]) (fun k=>[(47,.int (k:Nat))]) (fun k=>f.wide.length-k) (r6 []) U5 0 ⟨nzl,fun j hj=>by omega⟩ ?_)
   rintro k ⟨f2_1,f2_2⟩
   refine qso tb hJ (r6 [1000]) [_] U7 ?_
   refine cjS 6 (fun hb5=>?_) fun hb5=>?_
   ·
    try simp at hb5
    refine Zb (nx (Ze (Zc (tsq (snK 1 tb rfl (sy (.ptr (prC (ge f.wide k))) (fun h=>ZQ (i:=(k:Int)) Zt rfl (h.get 4 rfl) (h.get 6 rfl) nnn (Z0 (xs:=f.wide) (k:=k) sfz) rfl h.x) ?_))))))
    refine snK 1 tb rfl (ZT XL hJ rfl rfl rfl (lb rfl) fun b2=>?_)
    refine snK 1 tb rfl (ZB (b:=b2) (off:=0) (es:=U2) (news:=U2) hJ hJ0 YK rfl rfl rfl (lb rfl) rfl (fun a w h=>⟨(h.get 1 rfl),(h.get 2 rfl)⟩) ?_)
    refine kw (fun h=>YJ hS h (m:=1) (s:=10) rfl) (seK [0,1,5,6,7,8,9,10] U8 rfl ?_)
    refine nx (ZG tb hJ [2,3,4,5,6,7,1039] (V12 [.bool (decide ((ge f.wide k).a∈vs)),_,_,_,_,_,_,_,_,_,.bool (decide ((ge f.wide k).b∈vs)),_,_,_,_,_,_,_,_,_,.int ((k:Int)-(1:Int)),.ptr (prC (ge f.wide ((k:Int)-(1:Int)).toNat)),_,_,.int (ZiJ (ge f.wide ((k:Int)-(1:Int)).toNat) (ge f.wide k)),_,_,_]) [12,22,32,33,36] U7 rfl ⟨fun a _ hk hx hl hc=>YG (Kd:=keyS) (xs:=vs) Yf Yk ((ge f.wide k).a) rfl (Yc hH hk hx (mo 0 rfl)) (hl.D 9 61 rfl hc) (hl.D 11 63 rfl hc) hx,fun _ _ hk hx hl hc=>YG (Kd:=keyS) (xs:=vs) Yf Yk ((ge f.wide k).b) rfl (Yc hH hk hx (mo 0 rfl)) (hl.D 19 71 rfl hc) (hl.D 21 73 rfl hc) hx,fun a _ _ hx hl hc=>Zcn (i:=(k:Int)) (j:=(1:Int)) rfl (hl.D 31 83 rfl hc) (Rel.of_lit (.int .i64 1)) (by have hc':(((((!Op.bytesLess ((ge f.wide k).a).toList ((ge f.wide k).b).toList)|| (!(decide ((ge f.wide k).a∈vs))))|| (!(decide ((ge f.wide k).b∈vs))))==false)&& ((decide ((0:Int)< (k:Int)))==true))=true:=hc;(try simp at hc');(first | omega | (simp;omega) | grind[Zu])) (by have hc':(((((!Op.bytesLess ((ge f.wide k).a).toList ((ge f.wide k).b).toList)|| (!(decide ((ge f.wide k).a∈vs))))|| (!(decide ((ge f.wide k).b∈vs))))==false)&& ((decide ((0:Int)< (k:Int)))==true))=true:=hc;(try simp at hc');(first | omega | (simp;omega) | grind[Zu])) hx,fun a _ _ hx hl hc=>ZQ (i:=(k:Int)-(1:Int)) Zt rfl (hl.D 30 82 rfl hc) (hl.D 32 84 rfl hc) (by have hc':(((((!Op.bytesLess ((ge f.wide k).a).toList ((ge f.wide k).b).toList)|| (!(decide ((ge f.wide k).a∈vs))))|| (!(decide ((ge f.wide k).b∈vs))))==false)&& ((decide ((0:Int)< (k:Int)))==true))=true:=hc;(try simp at hc');(first | omega | (simp;omega) | grind[Zu])) (ZdB (xs:=f.wide) (i:=(k:Int)-(1:Int)) (by have hc':(((((!Op.bytesLess ((ge f.wide k).a).toList ((ge f.wide k).b).toList)|| (!(decide ((ge f.wide k).a∈vs))))|| (!(decide ((ge f.wide k).b∈vs))))==false)&& ((decide ((0:Int)< (k:Int)))==true))=true:=hc;(try simp at hc');(first | omega | (simp;omega) | grind[Zu])) (by have hc':(((((!Op.bytesLess ((ge f.wide k).a).toList ((ge f.wide k).b).toList)|| (!(decide ((ge f.wide k).a∈vs))))|| (!(decide ((ge f.wide k).b∈vs))))==false)&& ((decide ((0:Int)< (k:Int)))==true))=true:=hc;(try simp at hc');(first | omega | (simp;omega) | grind[Zu]))) rfl hx,iFo hS hJ (ZfN hJ (ge f.wide ((k:Int)-(1:Int)).toNat) (ge f.wide k)) Zs6,trivial⟩ ?_)
    refine cj 6 (fun hb6=>?_) fun hb6=>?_
    ·
     have q3:ZfK vs f=70:=setE_w hb5 hb6
     refine qso tb hJ [1000] [_] [_] ?_
     exact tRo 0 (hE:=eI (q3.symm))
    ·
     refine Zb (nx (Yo tb hJ (r5 [1001]) [.int (k+1:Nat),_] [0] U6 rfl ⟨Z7,trivial⟩ ?_))
     exact YE (k+1) (r6 []) ⟨oz,ZK f2_2 hb6⟩
   ·
    try simp at hb5
    refine Zs (nx (Ze (ZG tb hJ [1001,1005,1007] (V5 [.rd (YV (f.wide.filter (inV (Zab vs (f.text::(YZ f.hyps).map Hy.text).flatten)))),.bool (decide (f.apart=(f.wide.filter (inV (Zab vs (f.text::(YZ f.hyps).map Hy.text).flatten))))),_]) [5,6] U3 rfl ⟨fun _ _ hk hx hl _=>Y5 (Zrr hJ z1 (Zab vs (f.text::(YZ f.hyps).map Hy.text).flatten) f.wide (h3)) Zs4 rfl (Zq hS _ hk hx) (hx.1) (ZP (Zh hx (mo 0 rfl)) Zv) (Za (hl.D 2 95 rfl rfl) (Za (hl.D 4 97 rfl rfl) Zg)) (jo hJ hx),iFo hS hJ (ZrF hJ f.apart (f.wide.filter (inV (Zab vs (f.text::(YZ f.hyps).map Hy.text).flatten)))) Zs5,trivial⟩ ?_)))
    refine ln 0 fun hl4=>?_
    refine ln 1 fun hl5=>?_
    refine cj 2 (fun hb7=>?_) fun hb7=>?_
    ·
     have q3:ZfK vs f=70:=setE_a (ZgZ hb7)
     refine qso tb hJ [1000] [_] [_] ?_
     exact tRo 0 (hE:=eI (q3.symm))
    ·
     have q3:ZfK vs f=0:=ZuP e1 (by rw[←f1_2'];exact hb4a) (fun j hj=>f2_2 j oz) (Zt8 hb7)
     refine Zb (nx (qso tb hJ [1000] [_] [_] ?_))
     exact tRo 0 (hE:=eI (q3.symm))
theorem Zrx (s:BA) (hG:Q2 J):Fn Tryz.prog J 81 [.str s] (.bool (!Y6 s)):=by
 refine fE Tryz.func81 fun S w0 hS hJ0=>?_
 clear hJ0
 refine qs tb hJ [0] [_] [_] ?_
 refine hqs tb hJ [1003] [_,.bool (Y6 s),_,_] [1] [_] rfl ⟨iFn hS hJ (Zon hJ s (hG)) Zwo,trivial⟩ ?_
 exact tRn 0 (hE:=eB (by first | rfl | grind[Zu]))
theorem Zrw (M1 M2:Nat) (M3 M4 M5:Nat) (hm:List (BA×Hy)) (y:Hy)  :FnR Tryz.prog J 84 [OB.mH M4 hm] [.agg (hyC y),.ptr [.ptr (mpC [M1,M2,M3,M4,M5])]] (.bool ((Ya hm y.label).isSome)):=by
 refine fER Tryz.func84 fun S w0 hS hJ0 hH=>?_
 refine tw ZR (ZG tb hJ [1,1000] [.ptr (hyC y),_] [0] U2 rfl ⟨iBo hS hJ,trivial⟩ ?_)
 refine Ze (fun a w h=>YF (γ:=Nat) (fun ix'=>([.ptr (mpC [M1,M2,M3,M4,M5]),.ptr (mpC [M1,M2,M3,M4,M5]),.ptr (mpC [M4,M5]),.lit (.map (some M4)),.ptr (hyC y),.str y.label,.tup [.agg (hyC ((Ya hm y.label).getD default)),.bool ((Ya hm y.label).isSome)],.tup [.agg (hyC ((Ya hm y.label).getD default)),.bool ((Ya hm y.label).isSome)],.agg (hyC ((Ya hm y.label).getD default)),.bool ((Ya hm y.label).isSome),.any,.any,.bool ((Ya hm y.label).isSome)]:List AV).getD ix' .any) (fun _=>true) [(5,fun _=>.bool ((Ya hm y.label).isSome))] (fun j' g=>match j' with | 0=>[] | 1=>[OB.var g [lS (⟨#[]⟩:BA),lB false,Zf ([]:List BA)]] | _=>[OB.var g (hyC ((Ya hm y.label).getD default))]) (fun k' g=>match k' with | 0=>(.pointer (some ⟨g,0,none⟩)) | _=>undef) [10,11] 2 0 (fun _=>rfl) h hJ Yr rfl rfl rfl rfl rfl rfl hsb ⟨?_,?_,?_,?_,?_,?_,?_,?_,?_,?_,?_,?_,?_,trivial⟩ ⟨?e1_1_0,?e1_1_1,trivial⟩ ⟨.new 12 5 _,trivial⟩ ?n1_1)
 exact oX rfl fun hx hl=>Zc1 Zie rfl (hl.env 0 1 _ rfl rfl) hx
 exact oX rfl fun hx hl=>XA rfl (hl.D 0 7 rfl rfl) hx
 exact oX rfl fun hx hl=>ZN Za3 rfl (hl.D 1 8 rfl rfl) hx
 exact oX rfl fun hx hl=>ZH Zid rfl (hl.D 2 9 rfl rfl) hx
 exact oX rfl fun hx hl=>ZN Zca rfl (hl.env 1 2 _ rfl rfl) hx
 exact oX rfl fun hx hl=>ZH QU rfl (hl.D 4 11 rfl rfl) hx
 exact oY rfl fun hk hx hl=>Qs (Kd:=keyS) (f:=(fun z':Hy=>AV.agg (hyC z'))) (L:=hm) QV Zbd y.label rfl (Yc hH hk hx (mo 0 rfl)) (hl.D 3 10 rfl rfl) (hl.D 5 12 rfl rfl) hx
 exact oX rfl fun hx hl=>Z2 rfl (hl.D 6 13 rfl rfl) hx
 exact oX rfl fun hx hl=>YT rfl (hl.D 7 6 rfl rfl) rfl hx
 exact oX rfl fun hx hl=>YT rfl (hl.D 7 6 rfl rfl) rfl hx
 exact Zl rfl
 exact Zl rfl
 exact oX rfl fun hx hl=>XW rfl (hl.D 9 15 rfl rfl) hx
 case e1_1_0=>exact⟨_,rfl,rfl,rfl,rfl,fun g _ w hk hx _ _=>Zx (ZaQ YI hJ rfl hk hx) fun v w' ⟨g',hv,hp⟩=>⟨g',rfl,fun k' hk'=>absurd hk' (Nat.not_lt_zero _),fun _=>hv,hp⟩⟩
 case e1_1_1=>exact⟨_,rfl,rfl,rfl,rfl,fun g _ w hk hx hl hs=>(by obtain⟨us2,hv2,hr3⟩:=Q3 (hl.D 8 14 rfl rfl);exact Zx (Xl (S':=S) (off:=0) (news:=U3) (es:=U3) (us:=us2) hJ hJ0 YN rfl hk hx (Zcs (hs 0 10 _ 4 oz rfl rfl rfl)) (by rw[hv2];rfl) hr3 (lb rfl) rfl) fun v w' hp=>⟨g,rfl,fun _ _=>rfl,fun e=>(by cases e),hp⟩)⟩
 clear a w h
 intro b1
 dsimp only[List.map]
 refine kw ZM (nx (qso tb hJ [1001] U2 [_] ?_))
 exact tRo 0 (hE:=rfl)
end
section
variable {J:WP} (hJ:Stab J)
include hJ
theorem Zvq (n:Nat) (b:n*48≤140737488351232):FnM (ι:=Value) Tryz.prog J 123 [] [.lit (.slice none 0 0),.int (n:Nat)] [] (fun i'=>.lit (i')) (fun i'=>[OB.row i' 61 3 (([]:List Hy).map hyC)]):=by
 refine fEM Tryz.func123 fun S w0 R hS hJ0 hH=>?_
 refine Yq (B:=So J S w0 27 (R) [(0,.lit (.slice none 0 0)),(1,.int (n:Nat))]) ?_ fun a w h=>h
 refine qso tb hJ [0,1] [_] U2 ?_
 refine Ze (qso tb hJ [0,1,1001] U2 U3 ?_)
 refine cj 2 (fun hb1=>?_) fun hb1=>?_
 ·
  try simp at hb1
  exact False.elim oz
 ·
  try simp at hb1
  refine Zb (nx (Ze (ZG tb hJ [0,1007] [_,_,.int (0:Nat),_,.int (0:Nat),.int (((0:Nat):Int)-((0:Nat):Int)),.int ((n:Int)-((0:Nat):Int)-((0:Nat):Int)),_] [2,4,5,6] U2 rfl ⟨fun _ _ _ hx hl _=>ZkD Zz rfl (hl.D 1 9 rfl rfl) hx,fun _ _ _ hx hl _=>ZkB Zz rfl (hl.D 3 11 rfl rfl) hx,ZvR,ZvR,trivial⟩ ?_)))
  refine tw (sa 1 rfl (congrArg AV.int (show(n:Int)-((0:Nat):Int)-((0:Nat):Int)=(n:Int)from by omega))) (qso tb hJ [0,1,1001] U2 U3 ?_)
  refine cj 2 (fun hb2=>?_) fun hb2=>?_
  ·
   try simp at hb2
   refine ZE (snK 2 tb rfl (sy (.int (0:Nat)) (fun h=>ZkD Zz rfl (h.get 0 rfl) h.x) ?_))
   refine sy (.lit (.slice none 0 0)) (fun h=>Zrk Zo rfl (h.get 2 rfl) (h.get 0 rfl) h.x) ?_
   refine snK 1 tb rfl (ZuM (m:=n) Q1 XT hJ rfl rfl rfl (lb rfl) oz oz oz (fun a w h=>⟨(h.get 1 rfl),(h.get 0 rfl)⟩) fun v1=>?_)
   refine snK 1 tb rfl (sy (.int (0:Nat)) (fun h=>ZkB Zz rfl (h.get 0 rfl) h.x) ?_)
   refine sy (.lit (Zcw v1 0)) (fun h=>ZhS (m:=0) Zo rfl (Zh h.x (mo 0 rfl)) (by first | rfl | (rw[List.length_map];exact(rfl))) (h.get 2 rfl) (h.get 0 rfl) h.x) ?_
   refine snK 1 tb rfl (seK [0] [_] rfl ?_)
   refine nx (qso tb hJ [1001] U2 [_] ?_)
   exact ZA (fun a w h=>Yg  (m:=0) (Zcw v1 0) rfl h rfl rfl)
  ·
   try simp at hb2
   refine Zb (nx (qso tb hJ [1001] U2 [_] ?_))
   exact tw (YS 61 3 hJ) (ZA (fun a w h=>Yg  (m:=0) (.slice none 0 0) rfl h rfl rfl))
theorem Zh9 (ls:List (List Hy)) (b:ls.flatten.length*48≤140737488351232):Fn Tryz.prog J 77 [.rd (ZvS ls)] (.rd (Y1 ls.flatten)):=by
 refine fE Tryz.func77 fun S w0 hS hJ0=>?_
 refine tw ZR (ln 0 fun hl1=>?_)
 refine qso tb hJ [0] [_] [_] ?_
 refine qso tb hJ [0,1000] [_] U2 ?_
 refine Ze (ZG tb hJ [0,1,1000,1001,1002] [_,.int (ls.length:Nat),_] [1] U5 rfl ⟨Z3 ZeD,trivial⟩ ?_)
 refine Zc (lpo (ι:=Nat×Nat) (fun(k,z)=>(k≤ls.length)∧(z=(ls.take k).flatten.length)) (fun(_,_)=>[]) (fun(k,z)=>[(11,.int (k:Nat)),(3,.int (z:Nat))]) (fun(k,_)=>ls.length-k) [0,2,3,4,1] U3 (0,0) ⟨nzl,by simp⟩ ?_)
 rintro⟨k,z⟩ ⟨f1_1,f1_2⟩
 refine qso tb hJ (r5 [1000]) [_] U6 ?_
 refine cjS 5 (fun hb1=>?_) fun hb1=>?_
 ·
  try simp at hb1
  refine Zb (nx (Ze (Zc (ZG tb hJ (r5 [1001,1002]) [.ptr [Y1 (ge ls k)],_,_] [0] U7 rfl ⟨iIx Q8,trivial⟩ ?_))))
  refine ln 5 fun hl2=>?_
  refine ZG tb hJ [0,1,2,3,1004] [_,_,.int ((ge ls k).length:Nat),.int (z+(ge ls k).length:Nat),_] [2,3] U5 rfl ⟨Z3 Zz,Z7 (h0:=by have:=ZaH ls (k+1);rw[ZZ oz]at this;simp only[List.flatten_append,List.length_append,List.flatten_cons,List.flatten_nil,List.append_nil]at this;omega),trivial⟩ ?_
  refine qso tb hJ (r5 [1001]) U2 U6 ?_
  refine cj 5 (fun hb2=>?_) fun hb2=>?_
  ·
   try simp at hb2
   exact False.elim oz
  ·
   try simp at hb2
   refine Zb (nx (Yo tb hJ [0,1,2,4,1001] [.int (k+1:Nat),_] [0] U5 rfl ⟨Z7,trivial⟩ ?_))
   exact YE (k+1,z+(ge ls k).length) [0,1,2,4,3] ⟨oz,by rw[f1_2,ZZ oz];simp⟩
 ·
  try simp at hb1
  refine Zs (nx (tsq (snK 1 tb rfl (Xv (O:=[]) (R:=[]) (Zvq hJ z (by rw[f1_2];exact Nat.le_trans (Nat.mul_le_mul_right 48 (ZaH ls k)) b)) Zta rfl rfl rfl (lb rfl) hS hJ0 Zv (fun a w h=>(Za (Rel.of_lit (.slice none 0 0)) (Za (h.get 0 rfl) Zg))) fun z1=>?_))))
  refine snK 1 tb rfl (seK [0,3] U2 rfl ?_)
  refine nx (Ze (ZG tb hJ [0,1000,1001,1002] [_,.int (ls.length:Nat),_] [1] U4 rfl ⟨Z3 ZeD,trivial⟩ ?_))
  refine Zc (lpo (ι:=Nat×Value×(List Hy)) (fun(k,_,out)=>(k≤ls.length)∧(out=(ls.take k).flatten)) (fun(_,vo,out)=>[OB.row vo 61 3 (out.map hyC)]) (fun(k,vo,_)=>[(27,.int (k:Nat)),(6,.lit vo)]) (fun(k,_,_)=>ls.length-k) [1,2,3,0] U2 (0,z1,([]:List Hy)) ⟨nzl,by simp⟩ ?_)
  rintro⟨k,vo,out⟩ ⟨f2_1,f2_2⟩
  refine qso tb hJ [0,1,2,3,1000] [_] U5 ?_
  refine cjS 4 (fun hb3=>?_) fun hb3=>?_
  ·
   try simp at hb3
   refine Zb (nx (Ze (Zc (ZG tb hJ [0,1,2,3,1001,1002] [.ptr [Y1 (ge ls k)],_,_] [0] U6 rfl ⟨iIx Q8,trivial⟩ ?_))))
   refine ln 4 fun hl3=>?_
   refine ZE (snK 2 tb rfl (ZS (f:=hyC) (m:=1) (s:=31) out (ge ls k) (fun _=>rfl) Q1 hJ hJ0 rfl rfl rfl (lb rfl) rfl rfl (fun a w h=>(h.get 0 rfl)) (by have:=ZaH ls (k+1);rw[ZZ oz]at this;simp only[List.flatten_append,List.length_append,List.flatten_cons,List.flatten_nil,List.append_nil]at this;rw[f2_2];omega) (by have:=ZaH ls (k+1);rw[ZZ oz]at this;simp only[List.flatten_append,List.length_append,List.flatten_cons,List.flatten_nil,List.append_nil]at this;rw[f2_2];omega) fun v2=>?_))
   refine snK 1 tb rfl (seK [0,4,5,6] U4 rfl ?_)
   refine nx (Yo tb hJ [0,1,2,1001] [.int (k+1:Nat),_] [0] U4 rfl ⟨Z7,trivial⟩ ?_)
   exact YE (k+1,v2,out++(ge ls k)) [1,2,3,0] ⟨oz,by rw[f2_2,ZZ oz];simp⟩
  ·
   try simp at hb3
   refine Zs (nx (qso tb hJ [1001] U2 [_] ?_))
   exact tw (fun h=>ZO hS h (m:=0) (s:=2) rfl) (tRo 0 (hE:=congrArg (fun z=>AV.rd (Y1 z)) (show out=ls.flatten from by rw[f2_2,ZD oz])))
theorem ZrG (M5 T1:Nat) (tm:List (BA×BA)) (ts:List (BA×BA)) (hq:∀ q'∈ts.map (·.1),q'.size≤9223372036854775807):FnM (ι:= { q':List (BA×BA) // ∀ k',Ya q' k'=if(Ya ts k').isSome then Ya ts k' else Ya tm k' }) Tryz.prog J 86 [] [.lit (.map (some M5)),.lit (.map (some T1))] [OB.mT M5 tm,OB.mT T1 ts] (fun _=>.tup []) (fun i'=>[OB.mT M5 (i'.1),OB.mT T1 ts]):=by
 refine fEM Tryz.func86 fun S w0 R hS hJ0 hH=>?_
 refine Yq (B:=So J S w0 16 (OB.mT M5 tm::OB.mT T1 ts::R) [(0,.lit (.map (some M5))),(1,.lit (.map (some T1)))]) ?_ fun a w h=>h
 refine tsq (snK 1 tb rfl (kw pm1 ?_))
 refine ZqW (Kd:=keyS) (f:=(fun z':BA=>AV.str z')) (L:=ts) Zi5 hJ hJ0 rfl rfl rfl (lb rfl) (fun a w h=>(h.get 0 rfl)) fun b1=>?_
 refine seK [0,2] U2 rfl (nx (Zc (lpo (ι:=(List BA)×(List (BA×BA))) (fun(vis,tn)=>(∀ q',Ya tn q'=if q'∈vis then Ya ts q' else Ya tm q')∧(vis.Nodup)∧(∀ q'∈vis,q'∈ts.map (·.1))) (fun(vis,tn)=>(OB.iter b1 keyS (fun z':BA=>AV.str z') T1 ts vis::OB.mT M5 tn::R)) (fun(_,_)=>[]) (fun(vis,_)=>ts.length-vis.length) [0,1] U2 (([]:List BA),tm) ⟨fun q'=>by simp,by simp,fun q' h=>by simp at h⟩ ?_)))
 rintro⟨vis,tn⟩ ⟨f1_1,f1_2,f1_3⟩
 refine tsq (ZuN (Kd:=keyS) (f:=(fun z':BA=>AV.str z')) (L:=ts) (vis:=vis) (fun k' hk'=>hq k' hk') hJ hJ0 rfl rfl rfl (lb rfl) (fun a w h=>(h.get 0 rfl)) fun z2 h0z2 h1z2=>?_)
 refine sy (.bool z2.1) (fun h=>YT rfl (h.get 0 rfl) rfl h.x) ?_
 refine seK [0,2,3] U3 rfl (nx (cjS 0 (fun hb1=>?_) fun hb1=>?_))
 ·
  refine tw (ob0 (congrArg (fun z'=>OB.iter b1 keyS (fun z':BA=>AV.str z') T1 ts (z')) (show(if z2.1 then vis++[z2.2]else vis)=(vis++[z2.2])from by rw[hb1];rfl))) (Zb (nx (Zc (ZG tb hJ [1,2,1003,1004] [.tup [.str z2.2,.str ((Ya ts z2.2).getD default)],_,_,_,_] [0] U4 rfl ⟨fun _ _ _ hx hl _=>Zu4 (Kd:=keyS) (f:=(fun z':BA=>AV.str z')) (L:=ts) (k:=z2.2) rfl (Zh hx (mo 0 rfl)) (hq z2.2 (by have:=(h1z2 hb1).2;rw[Qc]at this;simpa using this)) (hl.env 1 7 _ rfl rfl) hx,trivial⟩ ?_))))
  refine ZE (snK 3 tb rfl (kw pm1 ?_))
  refine Znx (f:=(fun z':BA=>AV.str z')) Zbi hJ hJ0 z2.2 ((Ya ts z2.2).getD default) rfl rfl (.inl rfl) (fun a w h=>⟨(h.get 2 rfl),(h.get 1 rfl),(h.get 0 rfl)⟩) ?_
  refine seK [3,4] U2 rfl (kw pm1 ?_)
  exact YE (vis++[z2.2],Zbc tn z2.2 ((Ya ts z2.2).getD default)) [0,1] ⟨ZpA f1_1 (h1z2 hb1),by rw[List.nodup_append];exact⟨f1_2,by simp,fun x hx y hy e=>by rw[List.mem_singleton.1 hy]at e;subst e;exact(h1z2 hb1).1 hx⟩,fun q' hq'=>by rcases List.mem_append.1 hq' with h | h;exact f1_3 q' h;rw[List.mem_singleton.1 h];have:=(h1z2 hb1).2;rw[Qc]at this;simpa using this⟩ (hm:=(show ts.length-(vis++[z2.2]).length<ts.length-vis.length from ZpB f1_2 f1_3 (h1z2 hb1)))
 ·
  refine tw (ob0 (congrArg (fun z'=>OB.iter b1 keyS (fun z':BA=>AV.str z') T1 ts (z')) (show(if z2.1 then vis++[z2.2]else vis)=vis from by rw[hb1];rfl))) (Zs (kw ZlS ?_))
  exact kw pm1 (fun a w h=>Qu  ⟨tn,by intro k';rw[f1_1];by_cases hk9:(Ya ts k').isSome=true;(rw[if_pos hk9,if_pos (h0z2 hb1 k' hk9)]);(rw[if_neg hk9];by_cases hv9:k'∈vis;(exact absurd (by rw[Qc];simpa using f1_3 k' hv9) hk9);rw[if_neg hv9])⟩ rfl h rfl)
end
end Go.Proofs.YtneapgbkkkjagaaGreatDoor
namespace Go.Proofs.YtneapgbkkkjagaaGreatDoor
abbrev alH (f:Fr):List Hy:=f.hyps++f.dummies
def lsK (l:List Hy):List BA:=l.foldl (fun s h=>QS s h.label) []
def tsK (l:List Hy):List (BA×BA):=l.foldl (fun t h=>if h.floating then Zbc t (ge h.text 1) (ge h.text 0)else t) []
def hmK (hm:List (BA×Hy)) (l:List Hy):List (BA×Hy):=l.foldl (fun m h=>Zbc m h.label h) hm
def hyK (cs vs fs:List BA) (hm:List (BA×Hy)) (tm:List (BA×BA)) (f:Fr) (i:Nat):Int:=
 Zg6 cs vs (QS fs f.label) hm tm (lsK ((alH f).take i)) (tsK ((alH f).take i)) (ge (alH f) i) (decide (((f.hyps.length:Nat):Int)≤((i:Nat):Int)))
def Zxd (f:Fr):Bool:=decide ((0:Int)< ((f.proof.length:Nat):Int))&& ((!f.thm||decide ((8000:Int)< ((f.proof.length:Nat):Int)))||f.proof.any fun s=>!Y6 s)
def Zfc (cs vs fs:List BA) (hm:List (BA×Hy)) (tm:List (BA×BA)) (f:Fr) (bf:List Hy):Int:=
 if !QK f.label then 2 else if((Ya hm f.label).isSome|| (decide (f.label∈cs)||decide (f.label∈vs)))||decide (f.label∈fs)then 6
 else if decide ((40:Int)< ((f.hyps.length:Nat):Int))||decide ((40:Int)< ((f.dummies.length:Nat):Int))then 4
 else if !decide (Xz (alH f).length (hyK cs vs fs hm tm f)=0)then Xz (alH f).length (hyK cs vs fs hm tm f)
 else if !decide (ZlN cs vs f.text=0)then ZlN cs vs f.text
 else if !decide (ZfK vs f=0)then ZfK vs f
 else if Zxd f then 2
 else if((YZ f.hyps).drop (Zen (bf.map Hy.label) ((YZ f.hyps).map Hy.label))).any fun y=>(Ya hm y.label).isSome then 7 else 0
theorem Ziu {cs vs fs:List BA} {hm:List (BA×Hy)} {tm:List (BA×BA)} {ls:List BA} {ts:List (BA×BA)} {y:Hy} {dm:Bool} (h:Zg6 cs vs fs hm tm ls ts y dm=0):Zar y dm=false:=by
 cases hf:Zar y dm with
 | false=>rfl
 | true=>simp[Zg6,hf]at h
theorem Zpc {y:Hy} {dm:Bool} (h:Zar y dm=false):y.text.length≤200:=by
 cases hf:y.floating with
 | true=>have:=Yv h hf;omega
 | false=>simp[Zar,hf]at h;omega
theorem Zg2 (l:List Hy) (y:Hy):lsK (l++[y])=QS (lsK l) y.label:=by simp[lsK]
theorem ZcS (l:List Hy) (y:Hy):tsK (l++[y])=if y.floating then Zbc (tsK l) (ge y.text 1) (ge y.text 0)else tsK l:=by simp[tsK]
theorem Zr9 (hm:List (BA×Hy)) (l:List Hy) (y:Hy):hmK hm (l++[y])=Zbc (hmK hm l) y.label y:=by simp[hmK]
theorem ZqP:∀(l:List Hy),(∀ y∈l,y.floating=true→y.text.length=2)→(∀ y∈l,∀ s∈y.text,s.size≤9223372036854775807)→∀ q∈(tsK l).map (·.1),q.size≤9223372036854775807:=by
 intro l
 rw[←List.reverse_reverse l]
 induction l.reverse with
 | nil=>simp[tsK]
 | cons y m ih=>
  intro h1 h2 q hq
  rw[List.reverse_cons]at h1 h2 hq
  rw[ZcS]at hq
  have ih':=ih (fun z hz=>h1 z (by simp at hz ⊢;exact .inl hz)) (fun z hz=>h2 z (by simp at hz ⊢;exact .inl hz))
  by_cases hf:y.floating=true
  · rw[if_pos hf,ZoH]at hq
    split at hq
    · exact ih' q hq
    · rcases List.mem_append.1 hq with h | h
      · exact ih' q h
      · rw[List.mem_singleton.1 h]
        exact h2 y yz _ (Zu (by have:=h1 y yz hf;omega))
  · rw[if_neg hf]at hq;exact ih' q hq
def Zsi (tm ts:List (BA×BA)):List (BA×BA):=ts.foldr (fun p m=>Zbc m p.1 p.2) tm
theorem ZiI (tm:List (BA×BA)):∀(ts:List (BA×BA)) (k:BA),Ya (Zsi tm ts) k=if(Ya ts k).isSome then Ya ts k else Ya tm k
 | [],k=>by simp[Zsi,QO]
 | p::ts,k=>by
  have ih:=ZiI tm ts k
  simp only[Zsi,List.foldr_cons,Zb6,X6]at ih ⊢
  by_cases h:k=p.1
  · simp[h]
  · simp only[if_neg h];exact ih
end Go.Proofs.YtneapgbkkkjagaaGreatDoor
set_option maxHeartbeats 8000000
set_option maxRecDepth 100000
namespace Go.Proofs.YtneapgbkkkjagaaGreatDoor
open Go.RowKit
theorem Zvk {J:WP} (hJ:Stab J) (M1 M2:Nat) (M3 M4 M5:Nat) (cs vs fs:List BA) (hm:List (BA×Hy)) (tm:List (BA×BA)) (f:Fr) (bf:List Hy) (hw:f.wide.length*32≤140737488351232) (hG:Q2 J):FnM (ι:= { q':List BA×List (BA×Hy)×List (BA×BA) // Zfc cs vs fs hm tm f bf=0→q'.1=QS fs f.label∧q'.2.1=hmK hm (alH f)∧∀ k',Ya q'.2.2 k'=if(Ya (tsK (alH f)) k').isSome then Ya (tsK (alH f)) k' else Ya tm k' }) Tryz.prog J 50 [] [.ptr (mpC [M1,M2,M3,M4,M5]),.agg (frC f),.rd (Y1 bf)] [OB.set keyS M1 cs,OB.set keyS M2 vs,OB.set keyS M3 fs,OB.mH M4 hm,OB.mT M5 tm] (fun _=>.int (Zfc cs vs fs hm tm f bf)) (fun i'=>[OB.set keyS M1 cs,OB.set keyS M2 vs,OB.set keyS M3 (i'.1.1),OB.mH M4 (i'.1.2.1),OB.mT M5 (i'.1.2.2)]):=by
 refine fEM Tryz.func50 fun S w0 R hS hJ0 hH=>?_
 refine Yq (B:=So J S w0 183 (OB.set keyS M1 cs::OB.set keyS M2 vs::OB.set keyS M3 fs::OB.mH M4 hm::OB.mT M5 tm::R) [(0,.ptr (mpC [M1,M2,M3,M4,M5])),(1,.agg (frC f)),(2,.rd (Y1 bf))]) ?_ fun a w h=>h
 refine ln 2 fun hl1=>?_
 refine Zi7 (fun a w h=>Zsa (h.get 1 rfl)) fun hsm=>?_
 refine ZG tb hJ [2,1000,1001] [.ptr [.ptr (mpC [M1,M2,M3,M4,M5])],.ptr (frC f),_] [0,1] U3 rfl ⟨fun _ _ hk hx hl _=>Zn5 rfl (hl.env 0 0 _ rfl rfl) (Zq hS _ hk hx _ nlr) (jo hJ hx),iBo hS hJ,trivial⟩ ?_
 refine Ze (ZG tb hJ [0,1,2,1003] [_,_,.bool (QK f.label),_] [2] U4 rfl ⟨iFo hS hJ (Zc4 hJ f.label) Zhj,trivial⟩ ?_)
 refine cj 3 (fun hb1=>?_) fun hb1=>?_
 ·
  have e9:Zfc cs vs fs hm tm f bf=2:=by rw[Zfc,if_pos hb1]
  refine qso tb hJ [1000] [_] [_] ?_
  exact ZA (fun a w h=>Yg  (m:=0) ⟨(fs,hm,tm),by first | (intro h9;rw[e9]at h9;exact absurd h9 (by first | decide | exact nz)) | (intro _;exact⟨rfl,by rw[f2_2,ZD oz],fun k'=>by rw[NOGHOST.2 k',e3]⟩)⟩ rfl h rfl (eI (e9.symm)))
 ·
  refine Zb (nx (Ze (Ze (fun a w h=>YF (γ:=Nat) (fun ix'=>([.ptr (mpC [M1,M2,M3,M4,M5]),.ptr (mpC [M1,M2,M3,M4,M5]),.ptr (mpC [M4,M5]),.lit (.map (some M4)),.ptr (frC f),.str f.label,.tup [.agg (hyC ((Ya hm f.label).getD default)),.bool ((Ya hm f.label).isSome)],.tup [.agg (hyC ((Ya hm f.label).getD default)),.bool ((Ya hm f.label).isSome)],.agg (hyC ((Ya hm f.label).getD default)),.bool ((Ya hm f.label).isSome),.any,.any,.bool ((Ya hm f.label).isSome)]:List AV).getD ix' .any) (fun _=>true) [(2,fun _=>.rd (Y1 bf)),(3,fun _=>.ptr [.ptr (mpC [M1,M2,M3,M4,M5])]),(4,fun _=>.ptr (frC f)),(8,fun _=>.bool ((Ya hm f.label).isSome))] (fun j' g=>match j' with | 0=>(OB.set keyS M1 cs::OB.set keyS M2 vs::OB.set keyS M3 fs::OB.mH M4 hm::OB.mT M5 tm::R) | 1=>(OB.var g [lS (⟨#[]⟩:BA),lB false,Zf ([]:List BA)]::OB.set keyS M1 cs::OB.set keyS M2 vs::OB.set keyS M3 fs::OB.mH M4 hm::OB.mT M5 tm::R) | _=>(OB.var g (hyC ((Ya hm f.label).getD default))::OB.set keyS M1 cs::OB.set keyS M2 vs::OB.set keyS M3 fs::OB.mH M4 hm::OB.mT M5 tm::R)) (fun k' g=>match k' with | 0=>(.pointer (some ⟨g,0,none⟩)) | _=>undef) [10,11] 2 0 (fun _=>rfl) h hJ Yr rfl rfl rfl rfl rfl rfl hsb ⟨?_,?_,?_,?_,?_,?_,?_,?_,?_,?_,?_,?_,?_,trivial⟩ ⟨?e3_1_0,?e3_1_1,trivial⟩ ⟨.old 0 2 _,.old 1 3 _,.old 2 4 _,.new 12 8 _,trivial⟩ ?n3_1))))
  exact oX rfl fun hx hl=>Zc1 Zie rfl (hl.env 1 3 _ rfl rfl) hx
  exact oX rfl fun hx hl=>XA rfl (hl.D 0 24 rfl rfl) hx
  exact oX rfl fun hx hl=>ZN Za3 rfl (hl.D 1 25 rfl rfl) hx
  exact oX rfl fun hx hl=>ZH Zid rfl (hl.D 2 26 rfl rfl) hx
  exact oX rfl fun hx hl=>ZN ZdL rfl (hl.env 2 4 _ rfl rfl) hx
  exact oX rfl fun hx hl=>ZH QU rfl (hl.D 4 28 rfl rfl) hx
  exact fun _ O' hO'=>⟨rfl,fun _ _ _ hx hl _=>Qs (Kd:=keyS) (f:=(fun z':Hy=>AV.agg (hyC z'))) (L:=hm) QV Zbd f.label rfl (Zh hx (hO' _ (mo 3 rfl))) (hl.D 3 27 rfl rfl) (hl.D 5 29 rfl rfl) hx⟩
  exact oX rfl fun hx hl=>Z2 rfl (hl.D 6 30 rfl rfl) hx
  exact oX rfl fun hx hl=>YT rfl (hl.D 7 23 rfl rfl) rfl hx
  exact oX rfl fun hx hl=>YT rfl (hl.D 7 23 rfl rfl) rfl hx
  exact Zl rfl
  exact Zl rfl
  exact oX rfl fun hx hl=>XW rfl (hl.D 9 32 rfl rfl) hx
  case e3_1_0=>exact⟨_,rfl,rfl,rfl,rfl,fun g _ w hk hx _ _=>Zx (ZaQ YI hJ rfl hk hx) fun v w' ⟨g',hv,hp⟩=>⟨g',rfl,fun k' hk'=>absurd hk' (Nat.not_lt_zero _),fun _=>hv,hp⟩⟩
  case e3_1_1=>exact⟨_,rfl,rfl,rfl,rfl,fun g _ w hk hx hl hs=>(by obtain⟨us2,hv2,hr3⟩:=Q3 (hl.D 8 31 rfl rfl);exact Zx (Xl (S':=S) (off:=0) (news:=U3) (es:=U3) (us:=us2) hJ hJ0 YN rfl hk hx (Zcs (hs 0 10 _ 7 oz rfl rfl rfl)) (by rw[hv2];rfl) hr3 (lb rfl) rfl) fun v w' hp=>⟨g,rfl,fun _ _=>rfl,fun e=>(by cases e),hp⟩)⟩
  clear a w h
  intro b1
  dsimp only[List.map]
  refine kw ZM (nx (ZG tb hJ [0,1,2,1015] (V5 [.bool (decide (f.label∈cs)||decide (f.label∈vs)),_,_,_,_,_,_,_,_,.bool (decide (f.label∈fs)),_]) [5,14] U4 rfl ⟨fun _ _ hk hx hl hc=>Y5 (Zb3 hJ M1 M2 M3 M4 M5 cs vs f.label) Zhk rfl (Zq hS _ hk hx) (hx.1) (ZP (Zh hx (mo 0 rfl)) (ZP (Zh hx (mo 1 rfl)) Zv)) (Za (hl.D 2 35 rfl hc) (Za (hl.D 4 37 rfl hc) Zg)) (jo hJ hx),fun _ _ _ hx hl hc=>YG (Kd:=keyS) (xs:=fs) Yf Yk f.label rfl (Zh hx (mo 2 rfl)) (hl.D 11 44 rfl hc) (hl.D 13 46 rfl hc) hx,trivial⟩ ?_))
  refine cj 3 (fun hb2=>?_) fun hb2=>?_
  ·
   have e9:Zfc cs vs fs hm tm f bf=6:=by rw[Zfc,if_neg (by rw[hb1];decide),if_pos hb2]
   refine qso tb hJ [1000] [_] [_] ?_
   exact ZA (fun a w h=>Yg  (m:=0) ⟨(fs,hm,tm),by first | (intro h9;rw[e9]at h9;exact absurd h9 (by first | decide | exact nz)) | (intro _;exact⟨rfl,by rw[f2_2,ZD oz],fun k'=>by rw[NOGHOST.2 k',e3]⟩)⟩ rfl h rfl (eI (e9.symm)))
  ·
   refine Zb (nx (Ze (ZG tb hJ [0,1,2,1001,1009] [_,_,.int (f.hyps.length:Nat),_,_,_,_,.int (f.dummies.length:Nat),_,_] [2,7] U5 rfl ⟨Z3 Zz,Z3 Zz,trivial⟩ ?_)))
   refine ln 3 fun hl2=>?_
   refine cj 4 (fun hb3=>?_) fun hb3=>?_
   ·
    have e9:Zfc cs vs fs hm tm f bf=4:=by rw[Zfc,if_neg (by rw[hb1];decide),if_neg (by rw[hb2];decide),if_pos hb3]
    refine qso tb hJ [1000] [_] [_] ?_
    exact ZA (fun a w h=>Yg  (m:=0) ⟨(fs,hm,tm),by first | (intro h9;rw[e9]at h9;exact absurd h9 (by first | decide | exact nz)) | (intro _;exact⟨rfl,by rw[f2_2,ZD oz],fun k'=>by rw[NOGHOST.2 k',e3]⟩)⟩ rfl h rfl (eI (e9.symm)))
   ·
    have hb3a:f.hyps.length≤40∧f.dummies.length≤40:=by simp at hb3;omega
    refine Zb (nx (tw pm2 (Ze (fun a w h=>YF (γ:=Unit) (fun ix'=>([.ptr (mpC [M1,M2,M3,M4,M5]),.ptr (mpC [M1,M2,M3,M4,M5]),.ptr (mpC [M3,M4,M5]),.lit (.map (some M3)),.ptr (frC f),.str f.label,.any]:List AV).getD ix' .any) (fun _=>true) [(2,fun _=>.rd (Y1 bf)),(3,fun _=>.ptr [.ptr (mpC [M1,M2,M3,M4,M5])]),(4,fun _=>.ptr (frC f))] (fun j' _=>match j' with | 0=>(OB.set keyS M3 fs::OB.set keyS M1 cs::OB.set keyS M2 vs::OB.mH M4 hm::OB.mT M5 tm::R) | _=>(OB.set keyS M3 (QS fs f.label)::OB.set keyS M1 cs::OB.set keyS M2 vs::OB.mH M4 hm::OB.mT M5 tm::R)) (fun _ _=>undef) [6] 0 () (fun _=>rfl) h hJ Yr rfl rfl rfl rfl rfl rfl hsb ⟨?_,?_,?_,?_,?_,?_,?_,trivial⟩ ⟨?e8_2_0,trivial⟩ ⟨.old 0 2 _,.old 1 3 _,.old 2 4 _,trivial⟩ ?n8_2))))
    exact oX rfl fun hx hl=>Zc1 Zie rfl (hl.env 1 3 _ rfl rfl) hx
    exact oX rfl fun hx hl=>XA rfl (hl.D 0 59 rfl rfl) hx
    exact oX rfl fun hx hl=>ZN Zmy rfl (hl.D 1 60 rfl rfl) hx
    exact oX rfl fun hx hl=>ZH Zt6 rfl (hl.D 2 61 rfl rfl) hx
    exact oX rfl fun hx hl=>ZN ZdL rfl (hl.env 2 4 _ rfl rfl) hx
    exact oX rfl fun hx hl=>ZH QU rfl (hl.D 4 63 rfl rfl) hx
    exact Zl rfl
    case e8_2_0=>exact⟨_,rfl,rfl,rfl,rfl,fun g _ w hk hx hl _=>Zx (d_putS Yf hJ hJ0 f.label (.inl rfl) hk hx (hl.D 3 62 rfl rfl) (hl.D 5 64 rfl rfl) (Rel.of_lit (.bool true))) fun v w' ⟨_,hp⟩=>⟨g,rfl,fun _ _=>rfl,fun e=>(by cases e),hp⟩⟩
    clear a w h
    intro _
    dsimp only[List.map]
    refine nx (tsq (ZbC keyS hJ rfl rfl rfl (lb rfl) fun m2=>?_))
    refine ZhH keyS (fun z':BA=>AV.str z') hJ rfl rfl rfl (lb rfl) fun m3=>?_
    refine sq (.agg [.lit (.map (some m2)),.lit (.map (some m3))]) rfl rfl (lb rfl) (fun a _ h=>Xe (us:=[a.eval (.tmp 65),a.eval (.tmp 66)]) Zj3 rfl yz (Zi (h.get 1 rfl) (Zi (h.get 0 rfl) ZJ)) rfl h.x) ?_
    refine ZT Zi4 hJ rfl rfl rfl (lb rfl) fun b4=>?_
    refine ZB (b:=b4) (off:=0) (es:=U2) (news:=U2) hJ hJ0 ZlW rfl rfl rfl (lb rfl) rfl (fun a w h=>⟨(h.get 0 rfl),(h.get 1 rfl)⟩) ?_
    refine kw (fun h=>YJ hS h (m:=0) (s:=9) rfl) (seK [0,4,5,6] U4 rfl ?_)
    refine nx (Ze (Ze (Yo tb hJ [0,1,2,3,1003,1004,1005,1006,1007] (V4 [.rd (ZvS ([f.hyps,f.dummies]:List (List Hy))),.rd (Y1 (([f.hyps,f.dummies]:List (List Hy)).flatten)),.int ((([f.hyps,f.dummies]:List (List Hy)).flatten).length:Nat),_]) [4,5,6] U9 rfl ⟨fun a _ hk hx hl _=>XH (k:=2) (us:=[a.eval (.tmp 69),a.eval (.tmp 71)]) Q8 ZfV rfl yz (Zi (hl.D 1 69 rfl rfl) (Zi (hl.D 3 71 rfl rfl) ZJ)) rfl dz dz (Zq hS _ hk hx _ nlr) (jo hJ hx),iFo hS hJ (Zh9 hJ ([f.hyps,f.dummies]:List (List Hy)) (by refine Qb ?_;simp;omega)) ZpR,Z3 Zz,trivial⟩ ?_)))
    refine kw (sa 6 rfl (congrArg (fun z'=>AV.rd (Y1 z')) (show(([f.hyps,f.dummies]:List (List Hy)).flatten)=(alH f)from by simp))) (kw (sa 7 rfl (congrArg AV.int (show(((([f.hyps,f.dummies]:List (List Hy)).flatten).length:Nat):Int)=(((alH f).length:Nat):Int)from by simp))) ?_)
    refine nx (ln 4 fun hl3=>?_)
    refine ln 5 fun hl4=>?_
    refine ln 6 fun hl5=>?_
    refine Zc (lpo (ι:=Nat×(List BA)×(List (BA×BA))) (fun(k,ls,ts)=>(k≤(alH f).length)∧(ls=lsK ((alH f).take k))∧(ts=tsK ((alH f).take k))∧(∀ j,j<k→hyK cs vs fs hm tm f j=0)) (fun(_,ls,ts)=>(OB.mT m3 ts::OB.set keyS m2 ls::OB.set keyS M3 (QS fs f.label)::OB.set keyS M1 cs::OB.set keyS M2 vs::OB.mH M4 hm::OB.mT M5 tm::R)) (fun(k,_,_)=>[(75,.int (k:Nat))]) (fun(k,_,_)=>(alH f).length-k) [0,1,2,3,6,7,8] U6 (0,([]:List BA),([]:List (BA×BA))) ⟨nzl,rfl,rfl,fun j hj=>by omega⟩ ?_)
    rintro⟨k,ls,ts⟩ ⟨f1_1,f1_2,f1_3,f1_4⟩
    refine qso tb hJ (r7 [1000]) [_] U8 ?_
    refine cjS 7 (fun hb4=>?_) fun hb4=>?_
    ·
     have hk4:k< (alH f).length:=Int.ofNat_lt.1 (of_decide_eq_true hb4)
     refine Zb (nx (Ze (Zc (tsq (snK 1 tb rfl (sy (.ptr (hyC (ge (alH f) k))) (fun h=>ZQ (i:=(k:Int)) Zo rfl (h.get 5 rfl) (h.get 7 rfl) nnn (Z0 (xs:=alH f) (k:=k) sfz) rfl h.x) ?_))))))
     refine snK 1 tb rfl (ZT YI hJ rfl rfl rfl (lb rfl) fun b5=>?_)
     refine snK 1 tb rfl (ZB (b:=b5) (off:=0) (es:=U3) (news:=U3) hJ hJ0 YN rfl rfl rfl (lb rfl) rfl (fun a w h=>⟨(h.get 1 rfl),(h.get 2 rfl)⟩) ?_)
     refine kw (fun h=>YJ hS h (m:=1) (s:=11) rfl) (seK [0,1,5,6,7,8,9,10,11] U9 rfl ?_)
     refine nx (Ze (ZG tb hJ [0,2,3,4,5,6,7,8,1009] (V6 [.int (f.hyps.length:Nat),_,.int (Zg6 cs vs (QS fs f.label) hm tm ls ts (ge (alH f) k) (decide ((f.hyps.length:Int)≤(k:Int)))),_]) [6,8] U9 rfl ⟨Z3 Zz,fun _ _ hk hx hl _=>Y5 (p_hyp hJ M1 M2 M3 M4 M5 m2 m3 cs vs (QS fs f.label) hm tm ls ts (ge (alH f) k) (decide ((f.hyps.length:Int)≤(k:Int)))) Zwr rfl (Zq hS _ hk hx) (hx.1) (ZP (Zh hx (mo 3 rfl)) (ZP (Zh hx (mo 4 rfl)) (ZP (Zh hx (mo 2 rfl)) (ZP (Zh hx (mo 5 rfl)) (ZP (Zh hx (mo 6 rfl)) (ZP (Zh hx (mo 1 rfl)) (ZP (Zh hx (mo 0 rfl)) Zv))))))) (Za (hl.D 0 80 rfl rfl) (Za (hl.D 1 81 rfl rfl) (Za (hl.D 2 82 rfl rfl) (Za (hl.D 7 87 rfl rfl) Zg)))) (jo hJ hx),trivial⟩ ?_))
     refine qso tb hJ [0,1,2,3,4,5,6,7,8,1001] U2 U10 ?_
     refine cj 9 (fun hb5=>?_) fun hb5=>?_
     ·
      have nz:=ZgZ hb5
      have e0:hyK cs vs fs hm tm f k=Zg6 cs vs (QS fs f.label) hm tm ls ts (ge (alH f) k) (decide ((f.hyps.length:Int)≤(k:Int))):=by rw[hyK,←f1_2,←f1_3]
      have e5:Xz (alH f).length (hyK cs vs fs hm tm f)=hyK cs vs fs hm tm f k:=Yp oz f1_4 (by rw[e0];exact nz)
      have e9:Zfc cs vs fs hm tm f bf=Zg6 cs vs (QS fs f.label) hm tm ls ts (ge (alH f) k) (decide ((f.hyps.length:Int)≤(k:Int))):=by rw[Zfc,if_neg (by rw[hb1];decide),if_neg (by rw[hb2];decide),if_neg (by rw[hb3];decide),if_pos (by rw[e5,e0];exact hb5),e5,e0]
      refine qso tb hJ [1001] U2 [_] ?_
      refine tw ZM (tw ZM ?_)
      refine tw pm4 (tw pm4 ?_)
      refine tw pm2 (tw pm4 ?_)
      exact tw pm4 (ZA (fun a w h=>Yg  (m:=0) ⟨((QS fs f.label),hm,tm),by first | (intro h9;rw[e9]at h9;exact absurd h9 (by first | decide | exact nz)) | (intro _;exact⟨rfl,by rw[f2_2,ZD oz],fun k'=>by rw[NOGHOST.2 k',e3]⟩)⟩ rfl h rfl (eI (e9.symm))))
     ·
      have q5:=Zt8 hb5
      have hf5:=Ziu q5
      refine Zb (nx (tsq (snK 4 tb rfl (kw pm1 ?_))))
      refine ZcA Yf hJ hJ0 ((ge (alH f) k).label) rfl rfl (.inl rfl) (fun a w h=>⟨(h.get 2 rfl),(h.get 0 rfl),(Rel.of_lit (.bool true))⟩) ?_
      refine seK [4,5,6,7,8,9,10,11] U8 rfl (nx (qso tb hJ (r8 [1001]) U2 U9 ?_))
      refine cj 8 (fun hb6=>?_) fun hb6=>?_
      ·
       try simp at hb6
       refine tw pm1 (fun a w h=>YF (γ:=Unit) (fun ix'=>([.ptr [.lit (.map (some m3))],.lit (.map (some m3)),.ptr [Zf ((ge (alH f) k).text)],.rd (Zf ((ge (alH f) k).text)),.ptr [lS (ge ((ge (alH f) k).text) 1)],.str (ge ((ge (alH f) k).text) 1),.ptr [Zf ((ge (alH f) k).text)],.rd (Zf ((ge (alH f) k).text)),.ptr [lS (ge ((ge (alH f) k).text) 0)],.str (ge ((ge (alH f) k).text) 0),.any]:List AV).getD ix' .any) (fun _=>true) [(9,fun _=>.ptr (mpC [m2,m3])),(2,fun _=>.rd (Y1 bf)),(3,fun _=>.ptr [.ptr (mpC [M1,M2,M3,M4,M5])]),(4,fun _=>.ptr (frC f)),(73,fun _=>.rd (Y1 (alH f))),(74,fun _=>.int ((alH f).length:Nat)),(75,fun _=>.int (k:Nat))] (fun j' _=>match j' with | 0=>(OB.mT m3 ts::OB.set keyS m2 (QS ls ((ge (alH f) k).label))::OB.set keyS M3 (QS fs f.label)::OB.set keyS M1 cs::OB.set keyS M2 vs::OB.mH M4 hm::OB.mT M5 tm::R) | _=>(OB.mT m3 (Zbc ts (ge ((ge (alH f) k).text) 1) (ge ((ge (alH f) k).text) 0))::OB.set keyS m2 (QS ls ((ge (alH f) k).label))::OB.set keyS M3 (QS fs f.label)::OB.set keyS M1 cs::OB.set keyS M2 vs::OB.mH M4 hm::OB.mT M5 tm::R)) (fun _ _=>undef) [10] 0 () (fun _=>rfl) h hJ Yr rfl rfl rfl rfl rfl rfl hsb ⟨?_,?_,?_,?_,?_,?_,?_,?_,?_,?_,?_,trivial⟩ ⟨?e18_3_0,trivial⟩ ⟨.old 1 9 _,.old 2 2 _,.old 3 3 _,.old 4 4 _,.old 5 73 _,.old 6 74 _,.old 7 75 _,trivial⟩ ?n18_3)
       exact oX rfl fun hx hl=>ZN Zff rfl (hl.env 1 9 _ rfl rfl) hx
       exact oX rfl fun hx hl=>ZH ZoA rfl (hl.D 0 98 rfl rfl) hx
       exact oX rfl fun hx hl=>ZN Qg rfl (hl.env 0 11 _ rfl rfl) hx
       exact oX rfl fun hx hl=>ZH Xg rfl (hl.D 2 100 rfl rfl) hx
       exact oX rfl fun hx hl=>ZQ (i:=((1:Nat):Int)) Zd rfl (hl.D 3 101 rfl rfl) (Rel.of_lit (.int .i64 1)) nnn (Z0 (xs:=(ge (alH f) k).text) (k:=1) (by have:=Yv hf5 hb6;omega)) rfl hx
       exact oX rfl fun hx hl=>ZH QU rfl (hl.D 4 102 rfl rfl) hx
       exact oX rfl fun hx hl=>ZN Qg rfl (hl.env 0 11 _ rfl rfl) hx
       exact oX rfl fun hx hl=>ZH Xg rfl (hl.D 6 104 rfl rfl) hx
       exact oX rfl fun hx hl=>ZQ (i:=((0:Nat):Int)) Zd rfl (hl.D 7 105 rfl rfl) (Rel.of_lit (.int .i64 0)) nnn (Z0 (xs:=(ge (alH f) k).text) (k:=0) (by have:=Yv hf5 hb6;omega)) rfl hx
       exact oX rfl fun hx hl=>ZH QU rfl (hl.D 8 106 rfl rfl) hx
       exact Zl rfl
       case e18_3_0=>exact⟨_,rfl,rfl,rfl,rfl,fun g _ w hk hx hl _=>Zx (Zpx (f:=(fun z':BA=>AV.str z')) Zbi hJ hJ0 (ge ((ge (alH f) k).text) 1) (ge ((ge (alH f) k).text) 0) (.inl rfl) hk hx (hl.D 1 99 rfl rfl) (hl.D 5 103 rfl rfl) (hl.D 9 107 rfl rfl)) fun v w' ⟨_,hp⟩=>⟨g,rfl,fun _ _=>rfl,fun e=>(by cases e),hp⟩⟩
       clear a w h
       intro _
       dsimp only[List.map]
       refine nx (Yo tb hJ (r6 [1001]) [.int (k+1:Nat),_] [0] U7 rfl ⟨Z7,trivial⟩ ?_)
       exact YE (k+1,QS ls ((ge (alH f) k).label),Zbc ts (ge ((ge (alH f) k).text) 1) (ge ((ge (alH f) k).text) 0)) (r7 []) ⟨oz,by rw[ZZ oz,Zg2,←f1_2],by rw[ZZ oz,ZcS,←f1_3,if_pos hb6],ZK f1_4 (by rw[hyK,←f1_2,←f1_3];exact q5)⟩
      ·
       try simp at hb6
       refine Zb (nx (Yo tb hJ [1,2,3,4,5,6,1001] [.int (k+1:Nat),_] [0] U7 rfl ⟨Z7,trivial⟩ ?_))
       refine kw pm6 (kw pm6 ?_)
       refine kw pm6 (kw pm6 ?_)
       refine kw pm6 (kw pm5 ?_)
       exact kw pm6 (YE (k+1,QS ls ((ge (alH f) k).label),ts) (r7 []) ⟨oz,by rw[ZZ oz,Zg2,←f1_2],by rw[ZZ oz,ZcS,←f1_3,if_neg (by simp[hb6])],ZK f1_4 (by rw[hyK,←f1_2,←f1_3];exact q5)⟩)
    ·
     have hk4:(alH f).length≤k:=by have:=of_decide_eq_false hb4;omega
     have e4:Xz (alH f).length (hyK cs vs fs hm tm f)=0:=X7 fun j hj=>f1_4 j oz
     have e3:ts=tsK (alH f):=by rw[f1_3,ZD oz]
     have hfm:∀ y∈alH f,∃ dm,Zar y dm=false:=fun y hy=>by obtain⟨j,hj,rfl⟩:=Xp hy;exact⟨_,Ziu (f1_4 j oz)⟩
     have h2t:∀ y∈alH f,y.floating=true→y.text.length=2:=fun y hy hf=>by obtain⟨dm,hd⟩:=hfm y hy;exact Yv hd hf
     refine Zs (nx (Ze (ZG tb hJ [0,1,2,3,1002,1004] (V3 [.int (ZlN cs vs f.text),_]) [3] U6 rfl ⟨fun _ _ hk hx hl _=>Y5 (ZtZ hJ M1 M2 M3 M4 M5 cs vs f.text) ZpQ rfl (Zq hS _ hk hx) (hx.1) (ZP (Zh hx (mo 3 rfl)) (ZP (Zh hx (mo 4 rfl)) Zv)) (Za (hl.D 0 109 rfl rfl) (Za (hl.D 2 111 rfl rfl) Zg)) (jo hJ hx),trivial⟩ ?_)))
     refine ln 4 fun hl6=>?_
     refine qso tb hJ [0,1,2,3,5,1001] U2 U6 ?_
     refine cj 5 (fun hb7=>?_) fun hb7=>?_
     ·
      have nz:=ZgZ hb7
      have e9:Zfc cs vs fs hm tm f bf=ZlN cs vs f.text:=by rw[Zfc,if_neg (by rw[hb1];decide),if_neg (by rw[hb2];decide),if_neg (by rw[hb3];decide),if_neg (by rw[e4];decide),if_pos hb7]
      refine qso tb hJ [1001] U2 [_] ?_
      refine tw ZM (tw ZM ?_)
      refine tw pm4 (tw pm4 ?_)
      refine tw pm2 (tw pm4 ?_)
      exact tw pm4 (ZA (fun a w h=>Yg  (m:=0) ⟨((QS fs f.label),hm,tm),by first | (intro h9;rw[e9]at h9;exact absurd h9 (by first | decide | exact nz)) | (intro _;exact⟨rfl,by rw[f2_2,ZD oz],fun k'=>by rw[NOGHOST.2 k',e3]⟩)⟩ rfl h rfl (eI (e9.symm))))
     ·
      refine Zb (nx (Ze (ZG tb hJ [0,1,2,3,1003] [_,_,.int (ZfK vs f),_] [2] U5 rfl ⟨fun _ _ hk hx hl _=>Y5 (p_sets hJ M1 M2 M3 M4 M5 vs f (hb3a.1) (hw) (fun x hx=>h2t x (List.mem_append_left _ hx))) Zwq rfl (Zq hS _ hk hx) (hx.1) (ZP (Zh hx (mo 4 rfl)) Zv) (Za (hl.D 0 116 rfl rfl) (Za (hl.D 1 117 rfl rfl) Zg)) (jo hJ hx),trivial⟩ ?_)))
      refine qso tb hJ (r5 [1001]) U2 U6 ?_
      refine cj 5 (fun hb8=>?_) fun hb8=>?_
      ·
       have nz:=ZgZ hb8
       have e9:Zfc cs vs fs hm tm f bf=ZfK vs f:=by rw[Zfc,if_neg (by rw[hb1];decide),if_neg (by rw[hb2];decide),if_neg (by rw[hb3];decide),if_neg (by rw[e4];decide),if_neg (by rw[hb7];decide),if_pos hb8]
       refine qso tb hJ [1001] U2 [_] ?_
       refine tw ZM (tw ZM ?_)
       refine tw pm4 (tw pm4 ?_)
       refine tw pm2 (tw pm4 ?_)
       exact tw pm4 (ZA (fun a w h=>Yg  (m:=0) ⟨((QS fs f.label),hm,tm),by first | (intro h9;rw[e9]at h9;exact absurd h9 (by first | decide | exact nz)) | (intro _;exact⟨rfl,by rw[f2_2,ZD oz],fun k'=>by rw[NOGHOST.2 k',e3]⟩)⟩ rfl h rfl (eI (e9.symm))))
      ·
       refine Zb (nx (Ze (ZG tb hJ [0,1,2,3,1001,1019] [_,_,.int (f.proof.length:Nat),_,_,_,_,_,_,_,_,.int (f.proof.length:Nat),_,_,_,_,_,.bool (f.proof.any (fun s=>!Y6 s)),_,_] [2,11,17] U6 rfl ⟨Z3 Zm,Z3 Zm,fun _ _ hk hx hl hc=>Y5 (YD hJ f.proof 81 [] [] (fun s=>!Y6 s) (fun q'=>(Zrx hJ q' hG).r) (Zwp)) Zdf rfl (Zq hS _ hk hx) (hx.1) Zv (Za (hl.D 16 138 rfl hc) (Za (Qr 81) Zg)) (jo hJ hx),trivial⟩ ?_)))
       refine ln 4 fun hl7=>?_
       refine cj 5 (fun hb9=>?_) fun hb9=>?_
       ·
        have e9:Zfc cs vs fs hm tm f bf=2:=by rw[Zfc,if_neg (by rw[hb1];decide),if_neg (by rw[hb2];decide),if_neg (by rw[hb3];decide),if_neg (by rw[e4];decide),if_neg (by rw[hb7];decide),if_neg (by rw[hb8];decide),if_pos (show Zxd f=true from hb9)]
        refine qso tb hJ [1000] [_] [_] ?_
        refine tw ZM (tw ZM ?_)
        refine tw pm4 (tw pm4 ?_)
        refine tw pm2 (tw pm4 ?_)
        exact tw pm4 (ZA (fun a w h=>Yg  (m:=0) ⟨((QS fs f.label),hm,tm),by first | (intro h9;rw[e9]at h9;exact absurd h9 (by first | decide | exact nz)) | (intro _;exact⟨rfl,by rw[f2_2,ZD oz],fun k'=>by rw[NOGHOST.2 k',e3]⟩)⟩ rfl h rfl (eI (e9.symm))))
       ·
        refine Zb (nx (ZG tb hJ [0,1,2,3,1001,1002] [_,.rd (Y1 (YZ f.hyps)),_] [1] U6 rfl ⟨iFo hS hJ (ZdX hJ f (by refine Qb ?_;omega)) ZpY,trivial⟩ ?_))
        refine ln 4 fun hl8=>?_
        refine ZG tb hJ [0,2,3,1008,1009] (V3 [.int (Zen (bf.map Hy.label) ((YZ f.hyps).map Hy.label):Nat),_,.int ((YZ f.hyps).length:Nat),_,.int ((YZ f.hyps).length:Nat),.rd (Y1 ((YZ f.hyps).drop (Zen (bf.map Hy.label) ((YZ f.hyps).map Hy.label)))),_]) [3,5,7,8] U5 rfl ⟨iFo hS hJ (ZrA hJ bf (YZ f.hyps)) Zwn,Z3 Zz,Z3 Zz,fun _ _ _ hx hl _=>Zrd (ys:=(YZ f.hyps).drop (Zen (bf.map Hy.label) ((YZ f.hyps).map Hy.label))) (lo:=Zen (bf.map Hy.label) ((YZ f.hyps).map Hy.label)) rfl Zo (fun _=>rfl) rfl (hl.D 0 144 rfl rfl) (hl.D 3 147 rfl rfl) (hl.D 5 149 rfl rfl) (hl.D 7 151 rfl rfl) (by have:=ZjN (bf.map Hy.label) ((YZ f.hyps).map Hy.label);simpa using this) hx,trivial⟩ ?_
        refine ln 3 fun hl9=>?_
        refine Ze (ZG tb hJ [0,1,2,1002] [_,.fn 84 [.ptr [.ptr (mpC [M1,M2,M3,M4,M5])]],.bool (((YZ f.hyps).drop (Zen (bf.map Hy.label) ((YZ f.hyps).map Hy.label))).any (fun y=>(Ya hm y.label).isSome))] [1,2] U4 rfl ⟨fun _ _ _ hx hl _=>XB (caps:=[(.tmp 3)]) rfl (Za (hl.env 1 3 _ rfl rfl) Zg) hx,fun _ _ hk hx hl _=>Y5 (Qt hJ ((YZ f.hyps).drop (Zen (bf.map Hy.label) ((YZ f.hyps).map Hy.label))) 84 [.ptr [.ptr (mpC [M1,M2,M3,M4,M5])]] [OB.mH M4 hm] (fun y=>(Ya hm y.label).isSome) (fun q'=>Zrw hJ M1 M2 M3 M4 M5 hm q') (Zwm)) Zhm rfl (Zq hS _ hk hx) (hx.1) (ZP (Zh hx (mo 5 rfl)) Zv) (Za (hl.D 0 153 rfl rfl) (Za (hl.D 1 154 rfl rfl) Zg)) (jo hJ hx),trivial⟩ ?_)
        refine cj 3 (fun hb10=>?_) fun hb10=>?_
        ·
         have e9:Zfc cs vs fs hm tm f bf=7:=by rw[Zfc,if_neg (by rw[hb1];decide),if_neg (by rw[hb2];decide),if_neg (by rw[hb3];decide),if_neg (by rw[e4];decide),if_neg (by rw[hb7];decide),if_neg (by rw[hb8];decide),if_neg (by rw[show Zxd f=_ from hb9];decide),if_pos hb10]
         refine qso tb hJ [1000] [_] [_] ?_
         refine tw ZM (tw ZM ?_)
         refine tw pm4 (tw pm4 ?_)
         refine tw pm2 (tw pm4 ?_)
         exact tw pm4 (ZA (fun a w h=>Yg  (m:=0) ⟨((QS fs f.label),hm,tm),by first | (intro h9;rw[e9]at h9;exact absurd h9 (by first | decide | exact nz)) | (intro _;exact⟨rfl,by rw[f2_2,ZD oz],fun k'=>by rw[NOGHOST.2 k',e3]⟩)⟩ rfl h rfl (eI (e9.symm))))
        ·
         have e9:Zfc cs vs fs hm tm f bf=0:=by rw[Zfc,if_neg (by rw[hb1];decide),if_neg (by rw[hb2];decide),if_neg (by rw[hb3];decide),if_neg (by rw[e4];decide),if_neg (by rw[hb7];decide),if_neg (by rw[hb8];decide),if_neg (by rw[show Zxd f=_ from hb9];decide),if_neg (by rw[hb10];decide)]
         refine Zb (nx (Ze (Ze (Yo tb hJ [0,1,1005,1006,1007] (V4 [.rd (ZvS ([f.hyps,f.dummies]:List (List Hy))),.rd (Y1 (([f.hyps,f.dummies]:List (List Hy)).flatten)),.int ((([f.hyps,f.dummies]:List (List Hy)).flatten).length:Nat),_]) [4,5,6] U5 rfl ⟨fun a _ hk hx hl _=>XH (k:=2) (us:=[a.eval (.tmp 157),a.eval (.tmp 159)]) Q8 ZfV rfl yz (Zi (hl.D 1 157 rfl rfl) (Zi (hl.D 3 159 rfl rfl) ZJ)) rfl dz dz (Zq hS _ hk hx _ nlr) (jo hJ hx),iFo hS hJ (Zh9 hJ ([f.hyps,f.dummies]:List (List Hy)) (by refine Qb ?_;simp;omega)) ZpR,Z3 Zz,trivial⟩ ?_))))
         refine kw (sa 2 rfl (congrArg (fun z'=>AV.rd (Y1 z')) (show(([f.hyps,f.dummies]:List (List Hy)).flatten)=(alH f)from by simp))) (kw (sa 3 rfl (congrArg AV.int (show(((([f.hyps,f.dummies]:List (List Hy)).flatten).length:Nat):Int)=(((alH f).length:Nat):Int)from by simp))) ?_)
         refine nx (Zc (lpo (ι:=Nat×(List (BA×Hy))) (fun(k,hn)=>(k≤(alH f).length)∧(hn=hmK hm ((alH f).take k))) (fun(_,hn)=>(OB.mT m3 ts::OB.set keyS m2 ls::OB.set keyS M3 (QS fs f.label)::OB.set keyS M1 cs::OB.set keyS M2 vs::OB.mH M4 hn::OB.mT M5 tm::R)) (fun(k,_)=>[(163,.int (k:Nat))]) (fun(k,_)=>(alH f).length-k) (r5 []) U4 (0,hm) ⟨nzl,rfl⟩ ?_))
         rintro⟨k,hn⟩ ⟨f2_1,f2_2⟩
         refine qso tb hJ (r5 [1000]) [_] U6 ?_
         refine cjS 5 (fun hb11=>?_) fun hb11=>?_
         ·
          have hk4:k< (alH f).length:=Int.ofNat_lt.1 (of_decide_eq_true hb11)
          refine Zb (nx (Ze (Zc (tsq (sy (.ptr (hyC (ge (alH f) k))) (fun h=>ZQ (i:=(k:Int)) Zo rfl (h.get 2 rfl) (h.get 4 rfl) nnn (Z0 (xs:=alH f) (k:=k) sfz) rfl h.x) ?_)))))
          refine snK 1 tb rfl (XZ (cs:=hyC (ge (alH f) k)) ZbW rfl rfl rfl (lb rfl) rfl rfl rfl dz (m:=0) rfl rfl (fun a w h=>Zq hS _ h.keep h.x _ nlr) (fun a w h w' hk'=>YA hJ _ _ hk' h.x) ?_)
          refine seK [0,3,4,5,6,7] U6 rfl (nx (tw pm5 ?_))
          refine fun a w h=>YF (γ:=Unit) (fun ix'=>([.ptr (mpC [M1,M2,M3,M4,M5]),.ptr (mpC [M1,M2,M3,M4,M5]),.ptr (mpC [M4,M5]),.lit (.map (some M4)),.ptr (hyC (ge (alH f) k)),.str ((ge (alH f) k).label),.agg (hyC (ge (alH f) k)),.agg (hyC (ge (alH f) k)),.any]:List AV).getD ix' .any) (fun _=>true) [(9,fun _=>.ptr (mpC [m2,m3])),(3,fun _=>.ptr [.ptr (mpC [M1,M2,M3,M4,M5])]),(161,fun _=>.rd (Y1 (alH f))),(162,fun _=>.int ((alH f).length:Nat)),(163,fun _=>.int (k:Nat))] (fun j' _=>match j' with | 0=>(OB.mH M4 hn::OB.mT m3 ts::OB.set keyS m2 ls::OB.set keyS M3 (QS fs f.label)::OB.set keyS M1 cs::OB.set keyS M2 vs::OB.mT M5 tm::R) | _=>(OB.mH M4 (Zbc hn ((ge (alH f) k).label) (ge (alH f) k))::OB.mT m3 ts::OB.set keyS m2 ls::OB.set keyS M3 (QS fs f.label)::OB.set keyS M1 cs::OB.set keyS M2 vs::OB.mT M5 tm::R)) (fun _ _=>undef) [8] 0 () (fun _=>rfl) h hJ Yr rfl rfl rfl rfl rfl rfl hsb ⟨?_,?_,?_,?_,?_,?_,?_,?_,?_,trivial⟩ ⟨?e35_4_0,trivial⟩ ⟨.old 1 9 _,.old 2 3 _,.old 3 161 _,.old 4 162 _,.old 5 163 _,trivial⟩ ?n35_4
          exact oX rfl fun hx hl=>Zc1 Zie rfl (hl.env 2 3 _ rfl rfl) hx
          exact oX rfl fun hx hl=>XA rfl (hl.D 0 167 rfl rfl) hx
          exact oX rfl fun hx hl=>ZN Za3 rfl (hl.D 1 168 rfl rfl) hx
          exact oX rfl fun hx hl=>ZH Zid rfl (hl.D 2 169 rfl rfl) hx
          exact oX rfl fun hx hl=>ZN Zca rfl (hl.env 0 18 _ rfl rfl) hx
          exact oX rfl fun hx hl=>ZH QU rfl (hl.D 4 171 rfl rfl) hx
          exact oX rfl fun hx hl=>ZaN XY rfl (hl.env 0 18 _ rfl rfl) nlr hx
          exact oY rfl fun hk hx hl=>ZaY (ZkK hJ (ge (alH f) k) (by refine Zi9 ?_;obtain⟨dm,hd⟩:=hfm _ (Zu (by omega:k< (alH f).length));have:=Zpc hd;omega)) ZpP rfl (Zq hS _ hk hx) (hx.1) (Za (hl.D 6 173 rfl rfl) Zg) (jo hJ hx)
          exact Zl rfl
          case e35_4_0=>exact⟨_,rfl,rfl,rfl,rfl,fun g _ w hk hx hl _=>Zx (Zpx (f:=(fun z':Hy=>AV.agg (hyC z'))) QV hJ hJ0 ((ge (alH f) k).label) (ge (alH f) k) (.inl rfl) hk hx (hl.D 3 170 rfl rfl) (hl.D 5 172 rfl rfl) (hl.D 7 174 rfl rfl)) fun v w' ⟨_,hp⟩=>⟨g,rfl,fun _ _=>rfl,fun e=>(by cases e),hp⟩⟩
          clear a w h
          intro _
          dsimp only[List.map]
          refine nx (Yo tb hJ [0,1,2,3,1001] [.int (k+1:Nat),_] [0] U5 rfl ⟨Z7,trivial⟩ ?_)
          refine kw pm6 (kw pm1 ?_)
          refine kw pm6 (kw pm6 ?_)
          refine kw pm6 (kw pm6 ?_)
          exact kw pm6 (YE (k+1,Zbc hn ((ge (alH f) k).label) (ge (alH f) k)) (r5 []) ⟨oz,by rw[ZZ oz,Zr9,←f2_2]⟩)
         ·
          have hk4:(alH f).length≤k:=by have:=of_decide_eq_false hb11;omega
          refine Zs (nx (tw pm6 (Ze (fun a w h=>YF (γ:= { q':List (BA×BA) // ∀ k',Ya q' k'=if(Ya ts k').isSome then Ya ts k' else Ya tm k' }) (fun ix'=>([.ptr (mpC [M1,M2,M3,M4,M5]),.ptr (mpC [M1,M2,M3,M4,M5]),.ptr [.lit (.map (some M5))],.lit (.map (some M5)),.ptr [.lit (.map (some m3))],.lit (.map (some m3)),.any]:List AV).getD ix' .any) (fun _=>true) [] (fun j' g=>match j' with | 0=>(OB.mT M5 tm::OB.mT m3 ts::OB.set keyS m2 ls::OB.set keyS M3 (QS fs f.label)::OB.set keyS M1 cs::OB.set keyS M2 vs::OB.mH M4 hn::R) | _=>(OB.mT M5 g.1::OB.mT m3 ts::OB.set keyS m2 ls::OB.set keyS M3 (QS fs f.label)::OB.set keyS M1 cs::OB.set keyS M2 vs::OB.mH M4 hn::R)) (fun k' _=>match k' with | 0=>(.tuple #[]) | _=>undef) [6] 0 ⟨Zsi tm ts,ZiI tm ts⟩ (fun _=>rfl) h hJ Yr rfl rfl rfl rfl rfl rfl hsb ⟨?_,?_,?_,?_,?_,?_,?_,trivial⟩ ⟨?e37_5_0,trivial⟩ trivial ?n37_5))))
          exact oX rfl fun hx hl=>Zc1 Zie rfl (hl.env 1 3 _ rfl rfl) hx
          exact oX rfl fun hx hl=>XA rfl (hl.D 0 176 rfl rfl) hx
          exact oX rfl fun hx hl=>ZN Zmx rfl (hl.D 1 177 rfl rfl) hx
          exact oX rfl fun hx hl=>ZH ZoA rfl (hl.D 2 178 rfl rfl) hx
          exact oX rfl fun hx hl=>ZN Zff rfl (hl.env 0 9 _ rfl rfl) hx
          exact oX rfl fun hx hl=>ZH ZoA rfl (hl.D 4 180 rfl rfl) hx
          exact Zl rfl
          case e37_5_0=>exact⟨_,rfl,rfl,rfl,rfl,fun _ _ w hk hx hl _=>Zx (d_fn (O:=[OB.mT M5 tm,OB.mT m3 ts]) (R:=(OB.set keyS m2 ls::OB.set keyS M3 (QS fs f.label)::OB.set keyS M1 cs::OB.set keyS M2 vs::OB.mH M4 hn::R)) (ZrG hJ M5 m3 tm ts (by rw[e3];exact ZqP _ h2t hsm)) Zwl rfl hS hJ0 Zv hk hx (Za (hl.D 3 179 rfl rfl) (Za (hl.D 5 181 rfl rfl) Zg))) fun v w' ⟨i,hp,hv⟩=>⟨i,rfl,fun k' hk'=>absurd hk' (Nat.not_lt_zero _),fun _=>ZgO hv,hp⟩⟩
          clear a w h
          intro z6
          dsimp only[List.map]
          refine nx (qso tb hJ [1000] [_] [_] ?_)
          refine tw pm1 (tw ZM ?_)
          refine tw pm1 (tw ZM ?_)
          refine tw pm4 (tw pm2 ?_)
          refine tw pm4 (tw pm4 ?_)
          exact ZA (fun a w h=>Yg  (m:=0) ⟨((QS fs f.label),hn,z6.1),by first | (intro h9;rw[e9]at h9;exact absurd h9 (by first | decide | exact nz)) | (intro _;exact⟨rfl,by rw[f2_2,ZD oz],fun k'=>by rw[z6.2 k',e3]⟩)⟩ rfl h rfl (eI (e9.symm)))
end Go.Proofs.YtneapgbkkkjagaaGreatDoor
namespace Go.Proofs.YtneapgbkkkjagaaGreatDoor

theorem Zdn:∀ x:List UInt8,Op.bytesLess x x=false
 | []=>rfl
 | a::x=>by simp[Op.bytesLess,Zdn x]
theorem Zhv:∀ x y z:List UInt8,Op.bytesLess x y=true→Op.bytesLess y z=true→Op.bytesLess x z=true
 | _,_,[],_,h=>by cases ‹List UInt8› <;>simp[Op.bytesLess]at h
 | x,[],_::_,h,_=>by cases x<;>simp[Op.bytesLess]at h
 | [],_::_,_::_,_,_=>rfl
 | a::x,b::y,c::z,h1,h2=>by
  simp only[Op.bytesLess,Bool.or_eq_true,Bool.and_eq_true,decide_eq_true_eq,beq_iff_eq]at h1 h2 ⊢
  rcases h1 with h1 | ⟨rfl,h1⟩
  · rcases h2 with h2 | ⟨rfl,h2⟩
    · exact Or.inl (UInt8.lt_trans h1 h2)
    · exact Or.inl h1
  · rcases h2 with h2 | ⟨rfl,h2⟩
    · exact Or.inl h2
    · exact Or.inr ⟨rfl,Zhv x y z h1 h2⟩
theorem Zhw:∀ x y:List UInt8,Op.bytesLess x y=false→Op.bytesLess y x=false→x=y
 | [],[],_,_=>rfl
 | [],_::_,h,_=>by simp[Op.bytesLess]at h
 | _::_,[],_,h=>by simp[Op.bytesLess]at h
 | a::x,b::y,h1,h2=>by
  simp only[Op.bytesLess,Bool.or_eq_false_iff,Bool.and_eq_false_iff,decide_eq_false_iff_not]at h1 h2
  have hab:a=b:=by
   have h3:=h1.1
   have h4:=h2.1
   rw[UInt8.lt_iff_toNat_lt]at h3 h4
   exact UInt8.toNat_inj.1 oz
  subst hab
  have h3:=h1.2
  have h4:=h2.2
  simp at h3 h4
  rw[Zhw x y h3 h4]
theorem toList_inj {a b:BA} (h:a.toList=b.toList):a=b:=by
 rw[ByteArray.toList_eq,ByteArray.toList_eq]at h
 exact ByteArray.ext (Array.toList_inj.1 h)
theorem ZaZ {x y z:Pr} (h1:ltP x y=true) (h2:ltP y z=true):ltP x z=true:=by
 simp only[ltP,Bool.or_eq_true,Bool.and_eq_true,decide_eq_true_eq]at h1 h2 ⊢
 rcases h1 with h1 | ⟨e1,h1⟩
 · rcases h2 with h2 | ⟨e2,h2⟩
   · exact .inl (Zhv _ _ _ h1 h2)
   · exact .inl (e2▸h1)
 · rcases h2 with h2 | ⟨e2,h2⟩
   · exact .inl (e1▸h2)
   · exact .inr ⟨e1.trans e2,Zhv _ _ _ h1 h2⟩
theorem Zij {x y:Pr} (h1:ltP x y=false) (h2:ZfF x y=false):ltP y x=true:=by
 simp only[ltP,Bool.or_eq_false_iff,Bool.and_eq_false_iff,decide_eq_false_iff_not]at h1
 simp only[ltP,Bool.or_eq_true,Bool.and_eq_true,decide_eq_true_eq]
 by_cases ha:x.a=y.a
 · right
   refine⟨ha.symm,?_⟩
   have h3:=h1.2.resolve_left (fun h=>h ha)
   cases hb:Op.bytesLess y.b.toList x.b.toList with
   | true=>rfl
   | false=>simp[ZfF,ha,toList_inj (Zhw _ _ h3 hb)]at h2
 · left
   cases hb:Op.bytesLess y.a.toList x.a.toList with
   | true=>rfl
   | false=>exact absurd (toList_inj (Zhw _ _ h1.1 hb)) ha
def SrtP (l:List Pr):Prop:=l.Pairwise fun x y=>ltP x y=true
theorem ZkG:∀ {l:List Pr} {p x:Pr},x∈Zc3 l p→x∈l∨x=p
 | [],p,x,h=>by simpa [Zc3]using h
 | y::l,p,x,h=>by
  simp only[Zc3]at h
  split at h
  · rcases List.mem_cons.1 h with rfl | h
    · exact .inl yz
    · rcases ZkG h with h | h
      · exact .inl (by simp[h])
      · exact .inr h
  · split at h
    · exact .inl h
    · rcases List.mem_cons.1 h with rfl | h
      · exact .inr rfl
      · exact .inl h
theorem ZkF:∀ {l:List Pr} {p:Pr},SrtP l→SrtP (Zc3 l p)
 | [],_,_=>by simp[Zc3,SrtP]
 | y::l,p,h=>by
  have h':=List.pairwise_cons.1 h
  simp only[Zc3]
  by_cases h1:ltP y p=true
  · rw[if_pos h1]
    refine List.pairwise_cons.2 ⟨fun x hx=>?_,ZkF h'.2⟩
    rcases ZkG hx with hx | rfl
    · exact h'.1 x hx
    · exact h1
  · rw[if_neg h1]
    by_cases h2:ZfF y p=true
    · rw[if_pos h2];exact h
    · rw[if_neg h2]
      have h3:=Zij (by simpa using h1) (by simpa using h2)
      refine List.pairwise_cons.2 ⟨fun x hx=>?_,h⟩
      rcases List.mem_cons.1 hx with rfl | hx
      · exact h3
      · exact ZaZ h3 (h'.1 x hx)
theorem Zdb:∀(w:List Pr) {a:List Pr},SrtP a→SrtP (w.foldl Zc3 a)
 | [],_,h=>h
 | _::w,_,h=>Zdb w (ZkF h)
theorem ZkI:∀ {l:List Pr} {p:Pr},(∀ x∈l,ltP x p=true)→Zc3 l p=l++[p]
 | [],_,_=>rfl
 | y::l,p,h=>by
  have ih:Zc3 l p=l++[p]:=ZkI fun x hx=>h x (List.mem_cons_of_mem _ hx)
  simp only[Zc3,h y yz,if_true,ih,List.cons_append]
theorem Zd0:∀(w a:List Pr),SrtP (a++w)→w.foldl Zc3 a=a++w
 | [],a,_=>by simp
 | p::w,a,h=>by
  have h1:∀ x∈a,ltP x p=true:=fun x hx=>(List.pairwise_append.1 h).2.2 x hx p yz
  rw[List.foldl_cons,ZkI h1,Zd0 w (a++[p]) (by simpa using h)]
  simp
theorem Zo0 (w:List Pr):w=ZfP w []↔SrtP w:=by
 unfold ZfP
 rw[List.append_nil]
 constructor
 · intro h
   rw[h]
   exact Zdb w .nil
 · intro h
   rw[Zd0 w [] (by simpa using h)]
   simp
theorem Znw {w:List Pr} (h:∀ i,0<i→i<w.length→ltP (ge w (i-1)) (ge w i)=true):SrtP w:=by
 have key:∀ d i,i+1+d<w.length→ltP (ge w i) (ge w (i+1+d))=true:=by
  intro d
  induction d with
  | zero=>intro i hi;simpa using h (i+1) oz oz
  | succ d ih=>
   intro i hi
   refine ZaZ (ih i oz) ?_
   have:=h (i+1+d+1) oz oz
   rw[show i+1+d+1-1=i+1+d by omega]at this
   exact this
 rw[SrtP,List.pairwise_iff_getElem]
 intro i j hi hj hij
 have:=key (j-i-1) i oz
 rw[show i+1+(j-i-1)=j by omega]at this
 rwa [Xj hi,Xj hj]at this
theorem Zqo {vs:List BA} {d:Db} (hv:vs=d.vars) (w:List Pr):((List.range w.length).all fun i=>!ZqC vs w i)=(!w.any (Zw5 d)&&decide (w=ZfP w [])):=by
 subst hv
 have hk:∀ i,0<i→(0≤ZiJ (ge w (((i:Nat):Int)-1).toNat) (ge w i)↔ltP (ge w (i-1)) (ge w i)=false):=fun i h=>by
  rw[show(((i:Nat):Int)-1).toNat=i-1 by omega,←Zsm,decide_eq_false_iff_not];omega
 rw[Bool.eq_iff_iff]
 simp only[List.all_eq_true,List.mem_range,Bool.not_eq_true',Bool.and_eq_true,List.any_eq_false,decide_eq_true_eq,Zo0]
 constructor
 · intro h
   refine⟨fun p hp=>?_,Znw fun i h1 h2=>?_⟩
   · obtain⟨i,hi,rfl⟩:=Xp hp
     have:=h i hi
     simp only[ZqC,Bool.or_eq_false_iff]at this
     simp only[Zw5,Bool.or_eq_true,not_or,Bool.not_eq_true]
     exact this.1
   · have:=h i h2
     simp only[ZqC,Bool.or_eq_false_iff,Bool.and_eq_false_iff,decide_eq_false_iff_not]at this
     have h3:=this.2.resolve_left oz
     rw[hk i h1]at h3
     simpa using h3
 · rintro⟨h1,h2⟩ i hi
   have h3:=h1 _ (Zu hi)
   simp only[Zw5,Bool.or_eq_true,not_or,Bool.not_eq_true]at h3
   simp only[ZqC,Bool.or_eq_false_iff,Bool.and_eq_false_iff,decide_eq_false_iff_not]
   refine⟨h3,?_⟩
   by_cases h0:0<i
   · right
     rw[hk i h0]
     have:=List.pairwise_iff_getElem.1 h2 (i-1) i oz hi oz
     rw[Xj hi,Xj oz,this];decide
   · left;omega

structure TyI (l:List Hy) (tm:List (BA×BA)):Prop where
 hit:∀ x∈l,∀ v,ofB x [v]=true→Ya tm v=some (ge x.text 0)
 got:∀ v t,Ya tm v=some t→∃ x∈l,ofB x [v]=true∧ge x.text 0=t
structure HyI (l:List Hy) (hm:List (BA×Hy)):Prop where
 hit:∀ x∈l,Ya hm x.label=some x
 got:∀ s x,Ya hm s=some x→x∈l∧x.label=s
structure KInv (d:Db) (k:Nat) (fs:List BA) (hm:List (BA×Hy)) (tm:List (BA×BA)) (bf:List Hy):Prop where
 fr:∀ s,s∈fs↔frL d k s=true
 hy:HyI (oth d k) hm
 ty:TyI (oth d k) tm
 bf:bf.map Hy.label=Zj5 d k
theorem ZoW (d:Db):KInv d 0 [] [] [] []:=⟨fun s=>by simp[frL],⟨fun x hx=>by simp[ZkN]at hx,fun s x h=>by simp[QO]at h⟩,⟨fun x hx=>by simp[ZkN]at hx,fun s x h=>by simp[QO]at h⟩,by simp[Zj5]⟩
theorem ofB_one {x:Hy} {v:BA}:ofB x [v]=true↔x.floating=true∧x.text.length=2∧ge x.text 1=v:=by
 simp only[ofB,Bool.and_eq_true,decide_eq_true_eq,List.mem_singleton]
 constructor
 · rintro⟨⟨h1,h2⟩,h3⟩;exact⟨h1,oz,h3⟩
 · rintro⟨h1,h2,h3⟩;exact⟨⟨h1,oz⟩,h3⟩
theorem ZbQ {l:List BA} (h:l.length=2):l.drop 1=[ge l 1]:=by
 match l,h with
 | [a,b],_=>rfl
theorem Zpa {d:Db} {k:Nat} {s:BA}:hyL d k s=(oth d k).any fun x=>decide (x.label=s):=by
 simp only[hyL,oth,hysF]
 induction d.frames.take k with
 | nil=>rfl
 | cons f l ih=>rw[List.any_cons,ih,List.flatMap_cons,List.any_append (xs:=f.hyps++f.dummies)]
section
variable {d:Db} {k:Nat} {fs:List BA} {hm:List (BA×Hy)} {tm:List (BA×BA)} {bf:List Hy}
theorem HyI.some {l:List Hy} (h:HyI l hm) (s:BA):(Ya hm s).isSome=l.any fun x=>decide (x.label=s):=by
 rw[Bool.eq_iff_iff,List.any_eq_true]
 constructor
 · intro e
   obtain⟨x,hx⟩:=Option.isSome_iff_exists.1 e
   have:=h.got s x hx
   exact⟨x,this.1,by simpa using this.2⟩
 · rintro⟨x,hx,e⟩
   simp only[decide_eq_true_eq]at e
   rw[←e,h.hit x hx];rfl
theorem TyI.bad {l:List Hy} (h:TyI l tm) (y:Hy) (h2:y.text.length=2):((Ya tm (ge y.text 1)).isSome&& !decide ((Ya tm (ge y.text 1)).getD default=ge y.text 0))=l.any (Ziw y):=by
 rw[Bool.eq_iff_iff,List.any_eq_true]
 unfold Ziw
 rw[ZbQ h2]
 constructor
 · intro e
   simp only[Bool.and_eq_true,Bool.not_eq_true',decide_eq_false_iff_not]at e
   obtain⟨t,ht⟩:=Option.isSome_iff_exists.1 e.1
   obtain⟨x,hx,h3,h4⟩:=h.got _ _ ht
   refine⟨x,hx,?_⟩
   rw[ht]at e
   simp only[Option.getD_some]at e
   simp[h3,h4,e.2]
 · rintro⟨x,hx,e⟩
   simp only[Bool.and_eq_true,Bool.not_eq_true',decide_eq_false_iff_not]at e
   rw[h.hit x hx _ e.1]
   simp[e.2]
theorem TyI.have {l:List Hy} (h:TyI l tm) (y:Hy) (h2:y.text.length=2):(Ya tm (ge y.text 1)).isSome=l.any (hOf y):=by
 rw[Bool.eq_iff_iff,List.any_eq_true]
 unfold hOf
 rw[ZbQ h2]
 constructor
 · intro e
   obtain⟨t,ht⟩:=Option.isSome_iff_exists.1 e
   obtain⟨x,hx,h3,_⟩:=h.got _ _ ht
   exact⟨x,hx,h3⟩
 · rintro⟨x,hx,e⟩
   rw[h.hit x hx _ e];rfl
theorem HyI.bad {l:List Hy} (h:HyI l hm) (y:Hy):((Ya hm y.label).isSome&& !Zmr ((Ya hm y.label).getD default) y)=l.any (ZdH y):=by
 rw[Bool.eq_iff_iff,List.any_eq_true]
 unfold ZdH
 constructor
 · intro e
   simp only[Bool.and_eq_true,Bool.not_eq_true']at e
   obtain⟨x,hx⟩:=Option.isSome_iff_exists.1 e.1
   have:=h.got _ _ hx
   rw[hx]at e
   exact⟨x,this.1,by simpa [this.2]using e.2⟩
 · rintro⟨x,hx,e⟩
   simp only[Bool.and_eq_true,Bool.not_eq_true',decide_eq_true_eq]at e
   rw[←e.1,h.hit x hx]
   simpa using e.2
theorem ZvH (l:List Hy) (s:BA):s∈lsK l↔ ∃ x∈l,x.label=s:=by
 rw[←List.reverse_reverse l]
 induction l.reverse with
 | nil=>simp[lsK]
 | cons y m ih=>
  rw[List.reverse_cons,Zg2,Zg1,ih]
  simp only[List.mem_append,List.mem_singleton]
  constructor
  · rintro(⟨x,h,e⟩ | rfl)
    · exact⟨x,.inl h,e⟩
    · exact⟨y,.inr rfl,rfl⟩
  · rintro⟨x,h | rfl,e⟩
    · exact .inl ⟨x,h,e⟩
    · exact .inr e.symm
theorem Zkj {l:List Hy} {ts:List (BA×BA)} {y:Hy} (h:TyI l ts) (h2:y.floating=true→y.text.length=2) (h3:y.floating=true→l.any (hOf y)=false):TyI (l++[y]) (if y.floating then Zbc ts (ge y.text 1) (ge y.text 0)else ts):=by
 by_cases hf:y.floating=true
 · rw[if_pos hf]
   have h2':=h2 hf
   have h3':=h3 hf
   rw[List.any_eq_false]at h3'
   refine⟨fun x hx v hv=>?_,fun v t hv=>?_⟩
   · rw[Zb6]
     rcases List.mem_append.1 hx with hx | hx
     · have:¬ v=ge y.text 1:=fun e=>h3' x hx (by rw[hOf,ZbQ h2',←e];exact hv)
       rw[if_neg this]
       exact h.hit x hx v hv
     · rw[List.mem_singleton.1 hx]at hv ⊢
       rw[if_pos (ofB_one.1 hv).2.2.symm]
   · rw[Zb6]at hv
     split at hv
     · rename_i e
       refine⟨y,by simp,ofB_one.2 ⟨hf,h2',e.symm⟩,by simpa using hv⟩
     · obtain⟨x,hx,h4⟩:=h.got v t hv
       exact⟨x,by simp[hx],h4⟩
 · rw[if_neg hf]
   refine⟨fun x hx v hv=>?_,fun v t hv=>?_⟩
   · rcases List.mem_append.1 hx with hx | hx
     · exact h.hit x hx v hv
     · rw[List.mem_singleton.1 hx]at hv
       exact absurd (ofB_one.1 hv).1 hf
   · obtain⟨x,hx,h4⟩:=h.got v t hv
     exact⟨x,by simp[hx],h4⟩
theorem Zjz:∀(l:List Hy) (hm:List (BA×Hy)) (x:Hy),(∀ y∈l,y.label=x.label→y=x)→(x∈l∨Ya hm x.label=some x)→Ya (hmK hm l) x.label=some x
 | [],_,_,_,h=>by simpa [hmK]using h
 | y::l,hm,x,h,h1=>by
  show Ya (hmK (Zbc hm y.label y) l) x.label=_
  refine Zjz l _ x (fun z hz=>h z (by simp[hz])) ?_
  by_cases hx:x∈l
  · exact .inl hx
  · right
    rw[Zb6]
    by_cases e:x.label=y.label
    · rw[if_pos e,h y yz e.symm]
    · rw[if_neg e]
      refine h1.resolve_left fun hm'=>?_
      rcases List.mem_cons.1 hm' with rfl | h'
      · exact e rfl
      · exact hx h'
theorem Zpb:∀(l:List Hy) (hm:List (BA×Hy)) (s:BA) (x:Hy),Ya (hmK hm l) s=some x→(x∈l∧x.label=s)∨Ya hm s=some x
 | [],_,_,_,h=>.inr h
 | y::l,hm,s,x,h=>by
  rcases Zpb l (Zbc hm y.label y) s x h with⟨h1,h2⟩ | h1
  · exact .inl ⟨by simp[h1],h2⟩
  · rw[Zb6]at h1
    split at h1
    · rename_i e
      have:y=x:=by simpa using h1
      subst this
      exact .inl ⟨by simp,e.symm⟩
    · exact .inr h1
theorem Zt9 (g:Nat→Int):∀ n,(∀ j,j<n→g j=0)∨ ∃ i,(i<n∧g i≠0)∧∀ j,j<i→g j=0
 | 0=>.inl fun _ h=>absurd h (Nat.not_lt_zero _)
 | n+1=>by
  rcases Zt9 g n with h | ⟨i,⟨h1,h2⟩,h3⟩
  · by_cases e:g n=0
    · exact .inl (ZK h e)
    · exact .inr ⟨n,⟨oz,e⟩,h⟩
  · exact .inr ⟨i,⟨oz,h2⟩,h3⟩
theorem ZiC {n:Nat} {g h:Nat→Int} (hh:∀ i,i<n→(∀ j,j<i→g j=0)→g i=h i):Xz n g=Xz n h:=by
 by_cases e:∃ i,i<n∧g i≠0
 · obtain⟨i,hi,hmin⟩:∃ i,(i<n∧g i≠0)∧∀ j,j<i→g j=0:=by
    rcases Zt9 g n with h0 | h0
    · obtain⟨i,hi,hn⟩:=e
      exact absurd (h0 i hi) hn
    · exact h0
   have h0:∀ j,j<i→h j=0:=fun j hj=>by rw[←hh j oz fun q hq=>hmin q oz];exact hmin j hj
   have h1:=hh i hi.1 hmin
   rw[Yp hi.1 hmin hi.2,Yp hi.1 h0 (by rw[←h1];exact hi.2),h1]
 · have h0:∀ j,j<n→g j=0:=fun j hj=>Classical.byContradiction fun h=>e ⟨j,hj,h⟩
   rw[X7 h0,X7 fun j hj=>by rw[←hh j hj fun q hq=>h0 q oz];exact h0 j hj]
end
section
variable {d:Db} {k:Nat} {fs:List BA} {hm:List (BA×Hy)} {tm:List (BA×BA)} {bf:List Hy}
theorem KInv.fr' (h:KInv d k fs hm tm bf) (hk:k<d.frames.length) (s:BA):s∈QS fs (ge d.frames k).label↔frL d (k+1) s=true:=by
 rw[Zg1,frL,Qz hk,Bool.or_eq_true,h.fr s,frL,decide_eq_true_eq]
 exact or_congr Iff.rfl eq_comm
theorem Zk2 (h:KInv d k fs hm tm bf) (hk:k<d.frames.length) {y:Hy} {bs:List Hy} {ts:List (BA×BA)} {dm:Bool} (ht:TyI bs ts):
 Zg6 d.consts d.vars (QS fs (ge d.frames k).label) hm tm (lsK bs) ts y dm=Zc9 d k y bs dm:=by
 unfold Zg6 Zc9
 by_cases h1:Zar y dm=true
 · rw[if_pos h1,if_pos h1]
 rw[if_neg h1,if_neg h1]
 have h1':Zar y dm=false:=by simpa using h1
 have q1:(((decide (y.label∈d.consts)||decide (y.label∈d.vars))||decide (y.label∈QS fs (ge d.frames k).label))||decide (y.label∈lsK bs))=((frL d (k+1) y.label||Zdv d y.label)||bs.any (ZjA y)):=by
  rw[show decide (y.label∈QS fs (ge d.frames k).label)=frL d (k+1) y.label by rw[Bool.eq_iff_iff,decide_eq_true_eq];exact h.fr' hk _,
   show decide (y.label∈lsK bs)=bs.any (ZjA y) by rw[Bool.eq_iff_iff,decide_eq_true_eq,ZvH,List.any_eq_true];simp[ZjA],←Zdv,Bool.or_comm (Zdv d y.label)]
 rw[q1]
 by_cases h2:(frL d (k+1) y.label||Zdv d y.label)=true
 · rw[if_pos (by rw[h2];rfl),if_pos h2]
 rw[if_neg h2,show(frL d (k+1) y.label||Zdv d y.label)=false by simpa using h2,Bool.false_or]
 by_cases h3:bs.any (ZjA y)=true
 · rw[if_pos h3,if_pos h3]
 rw[if_neg h3,if_neg h3]
 change (if Zfb d y then 12 else _)=_
 by_cases h4:Zfb d y=true
 · rw[if_pos h4,if_pos h4]
 rw[if_neg h4,if_neg h4,h.hy.bad]
 cases hf:y.floating with
 | true=>
  have hl:=Yv h1' hf
  simp only[Bool.not_true,Bool.false_and,Bool.false_eq_true,if_false,Bool.true_and]
  rw[h.ty.bad y hl,ht.bad y hl,ht.have y hl,List.any_append]
 | false=>
  simp only[Bool.not_false,Bool.false_and,Bool.false_eq_true,if_false,Bool.true_and]
  have hl:(decide (((y.text.length:Nat):Int)=0)||decide (200< ((y.text.length:Nat):Int)))=false:=by
   have:=h1'
   simp only[Zar,hf,Bool.not_false,Bool.true_and,Bool.or_eq_false_iff]at this
   simpa using this.2
  rw[ZhF,hl]
  simp
theorem Ze8 {d:Db} {k:Nat} {y:Hy} {bs:List Hy} {dm:Bool} (h:Zc9 d k y bs dm=0):
 bs.any (ZjA y)=false∧(y.floating=true→(oth d k++bs).any (Ziw y)=false∧bs.any (hOf y)=false)∧(oth d k).any (ZdH y)=false:=by
 unfold Zc9 at h
 by_cases h1:Zar y dm=true
 · rw[if_pos h1]at h;exact absurd h dz
 rw[if_neg h1]at h
 by_cases h2:(frL d (k+1) y.label||Zdv d y.label)=true
 · rw[if_pos h2]at h;exact absurd h dz
 rw[if_neg h2]at h
 by_cases h3:bs.any (ZjA y)=true
 · rw[if_pos h3]at h;exact absurd h dz
 rw[if_neg h3]at h
 by_cases h4:Zfb d y=true
 · rw[if_pos h4]at h;exact absurd h dz
 rw[if_neg h4]at h
 by_cases h5:(!y.floating&& !decide (Zbu d y.text=0))=true
 · rw[if_pos h5]at h;simp[h]at h5
 rw[if_neg h5]at h
 by_cases h6:(y.floating&& (oth d k++bs).any (Ziw y))=true
 · rw[if_pos h6]at h;exact absurd h dz
 rw[if_neg h6]at h
 by_cases h7:(y.floating&&bs.any (hOf y))=true
 · rw[if_pos h7]at h;exact absurd h dz
 rw[if_neg h7]at h
 by_cases h8:(oth d k).any (ZdH y)=true
 · rw[if_pos h8]at h;exact absurd h dz
 exact⟨(Bool.not_eq_true _).mp h3,fun hf=>⟨by rw[hf,Bool.true_and]at h6;exact(Bool.not_eq_true _).mp h6,by rw[hf,Bool.true_and]at h7;exact(Bool.not_eq_true _).mp h7⟩,(Bool.not_eq_true _).mp h8⟩
theorem ZoJ (h:∀ j,j< (alH (ge d.frames k)).length→Zb7 d k j=0):∀ i,i≤(alH (ge d.frames k)).length→TyI ((alH (ge d.frames k)).take i) (tsK ((alH (ge d.frames k)).take i)):=by
 intro i
 induction i with
 | zero=>intro _;exact⟨fun x hx=>by simp at hx,fun v t ht=>by simp[tsK,QO]at ht⟩
 | succ i ih=>
  intro hi
  have h0:=h i oz
  rw[ZZ oz,ZcS]
  exact Zkj (ih oz) (fun hf=>Yv (Za0 h0) hf) fun hf=>((Ze8 h0).2.1 hf).2
theorem ZrP (h:KInv d k fs hm tm bf) (hk:k<d.frames.length):Xz (alH (ge d.frames k)).length (hyK d.consts d.vars fs hm tm (ge d.frames k))=ZmV d k:=by
 have key:∀ i,i< (alH (ge d.frames k)).length→(∀ j,j<i→Zb7 d k j=0)→hyK d.consts d.vars fs hm tm (ge d.frames k) i=Zb7 d k i∧TyI ((alH (ge d.frames k)).take i) (tsK ((alH (ge d.frames k)).take i)):=by
  intro i
  induction i with
  | zero=>
   intro _ _
   have ht:TyI ((alH (ge d.frames k)).take 0) (tsK ((alH (ge d.frames k)).take 0)):=⟨fun x hx=>by simp at hx,fun v t ht=>by simp[tsK,QO]at ht⟩
   exact⟨Zk2 h hk ht,ht⟩
  | succ i ih=>
   intro hi hj
   have h0:=hj i oz
   have ht:TyI ((alH (ge d.frames k)).take (i+1)) (tsK ((alH (ge d.frames k)).take (i+1))):=by
    rw[ZZ oz,ZcS]
    exact Zkj (ih oz fun j hj'=>hj j oz).2 (fun hf=>Yv (Za0 h0) hf) fun hf=>((Ze8 h0).2.1 hf).2
   exact⟨Zk2 h hk ht,ht⟩
 exact(ZiC fun i hi hj=>(key i hi hj).1.symm).symm
theorem ZlM:∀ {l:List Hy},(∀ i,i<l.length→(ge l i).floating=true→(ge l i).text.length=2∧(l.take i).any (hOf (ge l i))=false)→(ZdT l).Nodup:=by
 intro l h
 have key:∀ i,i≤l.length→(ZdT (l.take i)).Nodup:=by
  intro i
  induction i with
  | zero=>intro _;simp[ZdT]
  | succ i ih=>
   intro hi
   rw[ZdT,Z4 oz,List.map_append]
   by_cases hf:(ge l i).floating=true
   · simp only[hf,if_true,List.map_cons,List.map_nil]
     rw[List.nodup_append]
     refine⟨ih oz,by simp,fun x hx z hz e=>?_⟩
     rw[List.mem_singleton.1 hz]at e
     obtain⟨w,hw,rfl⟩:=List.mem_map.1 hx
     rw[List.mem_filter]at hw
     have h1:=h i oz hf
     have h2:=List.any_eq_false.1 h1.2 w hw.1
     refine h2 ?_
     rw[hOf,ZbQ h1.1]
     obtain⟨q,hq,rfl⟩:=Xp hw.1
     have hq':q<i:=by simp at hq;omega
     have e2:ge (l.take i) q=ge l q:=by simp[ge,List.getD_eq_getElem?_getD,hq']
     rw[e2]at hw e ⊢
     exact ofB_one.2 ⟨by simpa using hw.2,(h q oz (by simpa using hw.2)).1,e⟩
   · simp only[hf,Bool.false_eq_true,if_false,List.map_nil,List.append_nil]
     exact ih oz
 have:=key l.length nlr
 rwa [ZD nlr]at this
theorem ZvV {α:Type} [Inhabited α] {xs ys:List α} {i:Nat} (h:i<xs.length):ge (xs++ys) i=ge xs i:=by
 simp[ge,List.getD_eq_getElem?_getD,List.getElem?_append_left h]
theorem ZuO (h:∀ j,j< (alH (ge d.frames k)).length→Zb7 d k j=0):ZtR d.vars (ge d.frames k)=Zed d (ge d.frames k):=by
 have hf0:∀ i,i< (ge d.frames k).hyps.length→(ge (ge d.frames k).hyps i).floating=true→(ge (ge d.frames k).hyps i).text.length=2∧((ge d.frames k).hyps.take i).any (hOf (ge (ge d.frames k).hyps i))=false:=fun i hi hf=>by
  have h0:=h i (by simp[alH];omega)
  rw[Zb7]at h0
  rw[ZvV hi]at h0
  rw[List.take_append_of_le_length oz]at h0
  exact⟨Yv (Za0 h0) hf,((Ze8 h0).2.1 hf).2⟩
 have hnd:=ZlM hf0
 have hm0:ZkV d.vars (ge d.frames k)=QW d (ge d.frames k):=rfl
 have hmn:(QW d (ge d.frames k)).Nodup:=(ZeY _ _).1
 unfold ZtR Zed
 rw[Zqo rfl,hm0]
 have e1:(ge d.frames k).hyps.all (Zms (QW d (ge d.frames k)))=(ge d.frames k).hyps.all (hIn (QW d (ge d.frames k))):=by
  rw[Bool.eq_iff_iff,List.all_eq_true,List.all_eq_true]
  refine forall_congr' fun x=>⟨fun hx hm=>?_,fun hx hm=>?_⟩<;>have:=hx hm
  · obtain⟨i,hi,rfl⟩:=Xp hm
    cases hf:(ge (ge d.frames k).hyps i).floating with
    | false=>simp[hIn,hf]
    | true=>
     simp only[Zms,hf,Bool.not_true,Bool.false_or,decide_eq_true_eq]at this
     simp[hIn,ofB,hf,(hf0 i hi hf).1,this]
  · obtain⟨i,hi,rfl⟩:=Xp hm
    cases hf:(ge (ge d.frames k).hyps i).floating with
    | false=>simp[Zms,hf]
    | true=>
     simp only[hIn,ofB,hf,Bool.not_true,Bool.false_or,Bool.true_and,Bool.and_eq_true,decide_eq_true_eq]at this
     simp[Zms,hf,this.2]
 rw[e1]
 by_cases ha:(ge d.frames k).hyps.all (hIn (QW d (ge d.frames k)))=true
 · have hsub:∀ s∈ZdT (ge d.frames k).hyps,s∈QW d (ge d.frames k):=fun s hs=>by
    obtain⟨x,hx,rfl⟩:=List.mem_map.1 hs
    rw[List.mem_filter]at hx
    have:=List.all_eq_true.1 (e1.trans ha) x hx.1
    simpa [Zms,hx.2]using this
   have e2:decide ((ZdT (ge d.frames k).hyps).length=(QW d (ge d.frames k)).length)=(QW d (ge d.frames k)).all fun s=>decide (s∈ZdT (ge d.frames k).hyps):=by
    rw[Bool.eq_iff_iff,decide_eq_true_eq,List.all_eq_true]
    constructor
    · intro e s hs
      rw[decide_eq_true_eq]
      refine Classical.byContradiction fun hn=>?_
      have:=Zb5 (ys:=(QW d (ge d.frames k)).erase s) hnd fun z hz=>(List.mem_erase_of_ne (fun e':z=s=>hn (by rw[←e'];exact hz))).2 (hsub z hz)
      rw[List.length_erase_of_mem hs]at this
      have:=List.length_pos_of_mem hs
      omega
    · intro e
      have h1:=Zb5 hnd hsub
      have h2:=Zb5 hmn fun s hs=>by simpa using e s hs
      omega
   rw[e2,ha]
   simp only[Bool.true_and,Bool.and_assoc]
 · rw[show(ge d.frames k).hyps.all (hIn (QW d (ge d.frames k)))=false by simpa using ha]
   rfl
theorem ZdI (h:KInv d k fs hm tm bf) (hk:k<d.frames.length):Zfc d.consts d.vars fs hm tm (ge d.frames k) bf=frE d k:=by
 unfold Zfc frE Zda
 by_cases h1:(!QK (ge d.frames k).label)=true
 · rw[if_pos h1,if_pos h1]
 rw[if_neg h1,if_neg h1,h.hy.some,←Zpa]
 have q:((hyL d k (ge d.frames k).label|| (decide ((ge d.frames k).label∈d.consts)||decide ((ge d.frames k).label∈d.vars)))||decide ((ge d.frames k).label∈fs))=((frL d k (ge d.frames k).label||hyL d k (ge d.frames k).label)||Zdv d (ge d.frames k).label):=by
  rw[show decide ((ge d.frames k).label∈fs)=frL d k (ge d.frames k).label by rw[Bool.eq_iff_iff,decide_eq_true_eq];exact h.fr _,←Zdv]
  cases hyL d k (ge d.frames k).label<;>cases frL d k (ge d.frames k).label<;>cases Zdv d (ge d.frames k).label<;>rfl
 rw[q]
 by_cases h2:((frL d k (ge d.frames k).label||hyL d k (ge d.frames k).label)||Zdv d (ge d.frames k).label)=true
 · rw[if_pos h2,if_pos h2]
 rw[if_neg h2,if_neg h2]
 by_cases h3:(decide ((40:Int)< (((ge d.frames k).hyps.length:Nat):Int))||decide ((40:Int)< (((ge d.frames k).dummies.length:Nat):Int)))=true
 · rw[if_pos h3,if_pos h3]
 rw[if_neg h3,if_neg h3,ZrP h hk]
 by_cases h4:(!decide (ZmV d k=0))=true
 · rw[if_pos h4,if_pos h4]
 rw[if_neg h4,if_neg h4,ZhF]
 have h4':∀ j,j< (alH (ge d.frames k)).length→Zb7 d k j=0:=Qj (n:=(alH (ge d.frames k)).length) (show ZmV d k=0 by simpa using h4)
 by_cases h5:(decide ((((ge d.frames k).text.length:Nat):Int)=0)||decide (200< (((ge d.frames k).text.length:Nat):Int)))=true
 · rw[if_pos h5,if_pos h5,if_pos dz]
 rw[if_neg h5,if_neg h5]
 by_cases h6:(!decide (Zbu d (ge d.frames k).text=0))=true
 · rw[if_pos h6,if_pos h6]
 rw[if_neg h6,if_neg h6,ZfK,ZuO h4']
 by_cases h7:Zed d (ge d.frames k)=true
 · rw[if_pos h7,if_neg (show ¬ (!decide ((0:Int)=0))=true by decide),if_neg (show ¬ (!Zed d (ge d.frames k))=true by simp[h7])]
   have e8:Zxd (ge d.frames k)=(((decide (0< (((ge d.frames k).proof.length:Nat):Int))&& !(ge d.frames k).thm)||decide (8000< (((ge d.frames k).proof.length:Nat):Int)))|| !(ge d.frames k).proof.all Y6):=by
    rw[show(!(ge d.frames k).proof.all Y6)=(ge d.frames k).proof.any fun s=>!Y6 s from List.not_all_eq_any_not ..]
    unfold Zxd
    by_cases h0:(ge d.frames k).proof=[]
    · simp[h0]
    · have:0< (ge d.frames k).proof.length:=List.length_pos_iff.2 h0
      simp[this]
   have e9:(((YZ (ge d.frames k).hyps).drop (Zen (bf.map Hy.label) ((YZ (ge d.frames k).hyps).map Hy.label))).any fun y=>(Ya hm y.label).isSome)=ordB d k (ge d.frames k):=by
    rw[ordB,h.bf,←List.map_drop,List.any_map]
    congr 1
    funext y
    rw[h.hy.some,←Zpa];rfl
   rw[e8,e9]
   by_cases h8:((decide (0< (((ge d.frames k).proof.length:Nat):Int))&& !(ge d.frames k).thm)||decide (8000< (((ge d.frames k).proof.length:Nat):Int)))=true
   · rw[if_pos (by rw[h8];rfl),if_pos h8]
   · rw[if_neg h8,show((decide (0< (((ge d.frames k).proof.length:Nat):Int))&& !(ge d.frames k).thm)||decide (8000< (((ge d.frames k).proof.length:Nat):Int)))=false by simpa using h8,Bool.false_or]
 · rw[if_neg h7,if_pos (show(!decide ((70:Int)=0))=true by decide),if_pos (show(!Zed d (ge d.frames k))=true by simpa using h7)]
theorem Zsb (h:frE d k=0):∀ j,j< (alH (ge d.frames k)).length→Zb7 d k j=0:=by
 refine Qj (n:=(alH (ge d.frames k)).length) ?_
 change ZmV d k=0
 unfold frE Zda at h
 refine Classical.byContradiction fun hn=>?_
 by_cases h1:(!QK (ge d.frames k).label)=true
 · rw[if_pos h1]at h;exact absurd h dz
 rw[if_neg h1]at h
 by_cases h2:((frL d k (ge d.frames k).label||hyL d k (ge d.frames k).label)||Zdv d (ge d.frames k).label)=true
 · rw[if_pos h2]at h;exact absurd h dz
 rw[if_neg h2]at h
 by_cases h3:(decide ((40:Int)< (((ge d.frames k).hyps.length:Nat):Int))||decide ((40:Int)< (((ge d.frames k).dummies.length:Nat):Int)))=true
 · rw[if_pos h3]at h;exact absurd h dz
 rw[if_neg h3,if_pos (by simpa using hn)]at h
 exact hn h
theorem ZoX (h:KInv d k fs hm tm bf) (hk:k<d.frames.length) (h0:frE d k=0) {tn:List (BA×BA)}
 (ht:∀ v,Ya tn v=if(Ya (tsK (alH (ge d.frames k))) v).isSome then Ya (tsK (alH (ge d.frames k))) v else Ya tm v):
 KInv d (k+1) (QS fs (ge d.frames k).label) (hmK hm (alH (ge d.frames k))) tn (YZ (ge d.frames k).hyps):=by
 have hl:=Zsb h0
 have hT:=ZoJ hl (alH (ge d.frames k)).length nlr
 rw[ZD nlr]at hT
 have hat:∀ y∈alH (ge d.frames k),(y.floating=true→(oth d k).any (Ziw y)=false)∧(oth d k).any (ZdH y)=false:=fun y hy=>by
  obtain⟨j,hj,rfl⟩:=Xp hy
  have:=Ze8 (hl j hj)
  refine⟨fun hf=>?_,this.2.2⟩
  have:=(this.2.1 hf).1
  rw[List.any_append,Bool.or_eq_false_iff]at this
  exact this.1
 have hdist:∀ x∈alH (ge d.frames k),∀ y∈alH (ge d.frames k),y.label=x.label→y=x:=fun x hx y hy e=>by
  obtain⟨i,hi,rfl⟩:=Xp hx
  obtain⟨j,hj,rfl⟩:=Xp hy
  have key:∀ p q,p<q→q< (alH (ge d.frames k)).length→(ge (alH (ge d.frames k)) p).label≠(ge (alH (ge d.frames k)) q).label:=fun p q hpq hq e=>by
   have:=(Ze8 (hl q hq)).1
   rw[List.any_eq_false]at this
   refine this (ge (alH (ge d.frames k)) p) ?_ (by simpa [ZjA]using e)
   have e2:ge ((alH (ge d.frames k)).take q) p=ge (alH (ge d.frames k)) p:=by simp[ge,List.getD_eq_getElem?_getD,hpq]
   rw[←e2]
   exact Zu (show p< ((alH (ge d.frames k)).take q).length by rw[List.length_take];omega)
  rcases Nat.lt_trichotomy i j with h1 | h1 | h1
  · exact absurd e.symm (key i j h1 hj)
  · rw[h1]
  · exact absurd e (key j i h1 hi)
 have hsam:∀ x∈oth d k,∀ y∈alH (ge d.frames k),y.label=x.label→y=x:=fun x hx y hy e=>by
  have:=List.any_eq_false.1 (hat y hy).2 x hx
  simp only[ZdH,Bool.and_eq_true,Bool.not_eq_true',decide_eq_true_eq,not_and,Bool.not_eq_false]at this
  exact(hyEq_iff.1 (this e.symm)).symm
 refine⟨h.fr' hk,⟨fun x hx=>?_,fun s x hx=>?_⟩,⟨fun x hx v hv=>?_,fun v t hv=>?_⟩,?_⟩
 · rw[Zb4 hk]at hx
   rcases List.mem_append.1 hx with hx | hx
   · exact Zjz _ _ _ (hsam x hx) (.inr (h.hy.hit x hx))
   · exact Zjz _ _ _ (hdist x hx) (.inl hx)
 · rw[Zb4 hk]
   rcases Zpb _ _ _ _ hx with⟨h1,h2⟩ | h1
   · exact⟨List.mem_append_right _ h1,h2⟩
   · have:=h.hy.got _ _ h1
     exact⟨List.mem_append_left _ this.1,this.2⟩
 · rw[Zb4 hk]at hx
   rw[ht]
   rcases List.mem_append.1 hx with hx | hx
   · cases hs:Ya (tsK (alH (ge d.frames k))) v with
     | none=>simpa using h.ty.hit x hx v hv
     | some t=>
      obtain⟨y,hy,h1,h2⟩:=hT.got v t hs
      have hy1:=ofB_one.1 h1
      have:=List.any_eq_false.1 ((hat y hy).1 hy1.1) x hx
      simp only[Ziw,ZbQ hy1.2.1,hy1.2.2,hv,Bool.true_and,Bool.not_eq_true',decide_eq_false_iff_not,Classical.not_not]at this
      simp[this,h2]
   · rw[hT.hit x hx v hv];rfl
 · rw[Zb4 hk]
   rw[ht]at hv
   split at hv
   · obtain⟨y,hy,h1⟩:=hT.got v t hv
     exact⟨y,List.mem_append_right _ hy,h1⟩
   · obtain⟨y,hy,h1⟩:=h.ty.got v t hv
     exact⟨y,List.mem_append_left _ hy,h1⟩
 · rw[Zj5,if_neg oz,Nat.add_sub_cancel]
end
end Go.Proofs.YtneapgbkkkjagaaGreatDoor
set_option maxHeartbeats 8000000
set_option maxRecDepth 100000
namespace Go.Proofs.YtneapgbkkkjagaaGreatDoor
open Go.RowKit
theorem Zvs {J:WP} (hJ:Stab J) (d:Db) (hw:∀ f∈d.frames,f.wide.length*32≤140737488351232) (hG:Q2 J):Fn Tryz.prog J 38 [.agg (dbC d)] (.int (Zaz d)):=by
 refine fE Tryz.func38 fun S w0 hS hJ0=>?_
 refine tw ZR (ZG tb hJ [1000] [.ptr (dbC d),_] [0] [_] rfl ⟨iBo hS hJ,trivial⟩ ?_)
 refine Ze (ZG tb hJ [0,1001,1015] [_,_,.int (d.frames.length:Nat),_,_,_,_,.int (d.consts.length:Nat),_,_,_,_,_,.int (d.vars.length:Nat),_,_] [2,7,13] U3 rfl ⟨Z3 XS,Z3 Zm,Z3 Zm,trivial⟩ ?_)
 refine ln 1 fun hl1=>?_
 refine cj 2 (fun hb1=>?_) fun hb1=>?_
 ·
  have e9:Zaz d=8:=by rw[Zaz,if_pos hb1]
  refine qso tb hJ [1000] [_] [_] ?_
  exact tRo 0 (hE:=eI (e9.symm))
 ·
  replace hb1:=(Bool.not_eq_true _).mpr hb1
  refine Zb (nx (tsq (ZbC keyS hJ rfl rfl rfl (lb rfl) fun m1=>?_)))
  refine ZbC keyS hJ rfl rfl rfl (lb rfl) fun m2=>?_
  refine ZbC keyS hJ rfl rfl rfl (lb rfl) fun m3=>?_
  refine ZhH keyS (fun z':Hy=>AV.agg (hyC z')) hJ rfl rfl rfl (lb rfl) fun m4=>?_
  refine ZhH keyS (fun z':BA=>AV.str z') hJ rfl rfl rfl (lb rfl) fun m5=>?_
  refine sq (.agg [.lit (.map (some m1)),.lit (.map (some m2)),.lit (.map (some m3)),.lit (.map (some m4)),.lit (.map (some m5))]) rfl rfl (lb rfl) (fun a _ h=>Xe (us:=[a.eval (.tmp 25),a.eval (.tmp 26),a.eval (.tmp 27),a.eval (.tmp 28),a.eval (.tmp 29)]) ZmO rfl yz (Zi (h.get 4 rfl) (Zi (h.get 3 rfl) (Zi (h.get 2 rfl) (Zi (h.get 1 rfl) (Zi (h.get 0 rfl) ZJ))))) rfl h.x) ?_
  refine sy (.ptr (mpC [m1,m2,m3,m4,m5])) (fun h=>ZdD rfl (h.get 0 rfl) (Zq hS _ h.keep h.x _ nlr) (jo hJ h.x)) ?_
  refine snK 1 tb rfl (seK [0,8] U2 rfl ?_)
  refine nx (Ze (tsq (snK 2 tb rfl (kw pm2 ?_))))
  refine kw pm2 (kw pm2 ?_)
  refine kw pm3 (kw pm4 ?_)
  refine Xv (O:=[OB.set keyS m1 ([]:List BA),OB.set keyS m2 ([]:List BA)]) (R:=[OB.mT m5 ([]:List (BA×BA)),OB.mH m4 ([]:List (BA×Hy)),OB.set keyS m3 ([]:List BA)]) (Zok hJ m1 m2 m3 m4 m5 d) ZwC rfl rfl rfl (lb rfl) hS hJ0 Zv (fun a w h=>(Za (h.get 1 rfl) (Za (h.get 0 rfl) Zg))) fun z6=>?_
  refine snK 1 tb rfl (seK [0,4,5] U3 rfl ?_)
  refine nx (qso tb hJ [0,1,2,1001] U2 U4 ?_)
  refine cj 3 (fun hb2=>?_) fun hb2=>?_
  ·
   have e9:Zaz d=Zbr d:=by rw[Zaz,if_neg hb1,if_pos hb2]
   refine qso tb hJ [1001] U2 [_] ?_
   exact tRo 0 (hE:=eI (e9.symm))
  ·
   have e2:Zbr d=0:=Zt8 hb2
   have z2:=z6.2 e2
   replace hb2:=(Bool.not_eq_true _).mpr hb2
   refine tw (ob0 (congrArg (fun z'=>OB.set keyS m1 (z')) (show z6.1.1=d.consts from by rw[z2]))) (tw (ob1 (congrArg (fun z'=>OB.set keyS m2 (z')) (show z6.1.2=d.vars from by rw[z2]))) ?_)
   refine Zb (nx (qso tb hJ [1,2,1000] [_] U3 ?_))
   refine Ze (ZG tb hJ [0,2,1001,1002,1003] [_,_,.int (d.frames.length:Nat),_] [2] U5 rfl ⟨Z3 XS,trivial⟩ ?_)
   refine Zc (tw (fun h=>Yb h (m:=1) (s:=5) rfl) (lpo (ι:=Nat×(List Hy)×(List BA)×(List (BA×Hy))×(List (BA×BA))) (fun(k,bf,fs,hm,tm)=>(k≤d.frames.length)∧(KInv d k fs hm tm bf)∧(∀ j,j<k→frE d j=0)) (fun(_,_,fs,hm,tm)=>[OB.set keyS m1 d.consts,OB.set keyS m2 d.vars,OB.mT m5 tm,OB.mH m4 hm,OB.set keyS m3 fs]) (fun(k,bf,_,_,_)=>[(41,.int (k:Nat)),(5,.rd (Y1 bf))]) (fun(k,_,_,_,_)=>d.frames.length-k) [1,2,3,4,0] U3 (0,[],([]:List BA),([]:List (BA×Hy)),([]:List (BA×BA))) ⟨nzl,ZoW d,fun j hj=>by omega⟩ ?_))
   rintro⟨k,bf,fs,hm,tm⟩ ⟨f1_1,f1_2,f1_3⟩
   refine qso tb hJ (r5 [1000]) [_] U6 ?_
   refine ln 4 fun hl2=>?_
   refine cjS 5 (fun hb3=>?_) fun hb3=>?_
   ·
    try simp at hb3
    refine Zb (nx (Ze (Zc (tsq (sy (.ptr (frC (ge d.frames k))) (fun h=>ZQ (i:=(k:Int)) ZV rfl (h.get 1 rfl) (h.get 3 rfl) nnn (Z0 (xs:=d.frames) (k:=k) sfz) rfl h.x) ?_)))))
    refine snK 1 tb rfl (XZ (cs:=frC (ge d.frames k)) Zec rfl rfl rfl (lb rfl) rfl rfl rfl dz (m:=0) rfl rfl (fun a w h=>Zq hS _ h.keep h.x _ nlr) (fun a w h w' hk'=>YA hJ _ _ hk' h.x) ?_)
    refine seK [0,3,4,5,6,7] U6 rfl (nx (Ze (tsq ?_)))
    refine snK 3 tb rfl (kw pm2 ?_)
    refine kw pm3 (kw pm4 ?_)
    refine kw pm4 (kw pm4 ?_)
    refine Xv (O:=[OB.set keyS m1 d.consts,OB.set keyS m2 d.vars,OB.set keyS m3 fs,OB.mH m4 hm,OB.mT m5 tm]) (R:=[]) (Zvk hJ m1 m2 m3 m4 m5 d.consts d.vars fs hm tm (ge d.frames k) bf (hw _ (Zu oz)) (hG)) ZwB rfl rfl rfl (lb rfl) hS hJ0 Zv (fun a w h=>(Za (h.get 2 rfl) (Za (h.get 1 rfl) (Za (h.get 0 rfl) Zg)))) fun z7=>?_
    refine snK 1 tb rfl (seK [0,5,6,7,8,9] U6 rfl ?_)
    refine nx (qso tb hJ (r6 [1001]) U2 U7 ?_)
    refine cj 6 (fun hb4=>?_) fun hb4=>?_
    ·
     have e4:frE d k≠0:=by rw[←ZdI f1_2 oz];exact ZgZ hb4
     have e9:Zaz d=Zfc d.consts d.vars fs hm tm (ge d.frames k) bf:=by rw[Zaz,if_neg hb1,if_neg hb2,Yp oz f1_3 e4,ZdI f1_2 oz]
     refine qso tb hJ [1001] U2 [_] ?_
     exact tRo 0 (hE:=eI (e9.symm))
    ·
     have e4:frE d k=0:=by rw[←ZdI f1_2 oz];exact Zt8 hb4
     have z4:=z7.2 (Zt8 hb4)
     refine Zb (nx (Yo tb hJ [2,3,4,5,1001,1002] [_,.rd (Y1 (YZ (ge d.frames k).hyps)),_] [1] U6 rfl ⟨iFo hS hJ (ZdX hJ (ge d.frames k) (by have:=(Zg9 e4).1;omega)) ZpY,trivial⟩ ?_))
     refine nx (ln 4 fun hl3=>?_)
     refine Yo tb hJ [0,1,2,5,1001] [.int (k+1:Nat),_] [0] U5 rfl ⟨Z7,trivial⟩ ?_
     refine kw pm2 (kw pm3 ?_)
     refine kw pm4 (kw pm4 ?_)
     exact kw pm4 (YE (k+1,(YZ (ge d.frames k).hyps),z7.1.1,z7.1.2.1,z7.1.2.2) [0,1,2,4,3] ⟨oz,by rw[z4.1,z4.2.1];exact ZoX f1_2 oz e4 z4.2.2,ZK f1_3 e4⟩)
   ·
    try simp at hb3
    have e9:Zaz d=0:=by rw[Zaz,if_neg hb1,if_neg hb2];exact X7 fun j hj=>f1_3 j oz
    refine Zs (nx (qso tb hJ [1000] [_] [_] ?_))
    exact tRo 0 (hE:=eI (e9.symm))
end Go.Proofs.YtneapgbkkkjagaaGreatDoor
