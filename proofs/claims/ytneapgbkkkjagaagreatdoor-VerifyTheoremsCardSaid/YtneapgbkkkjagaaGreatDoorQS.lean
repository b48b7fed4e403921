/-
  DERIVED: the shelf's contracts at this dump, in plain words.
  CONTRACTS of the program: frames' small functions.
  CONTRACTS of the program: classes of bytes, labels, symbols.
  CONTRACTS of the program: whether a word can stand in a proof.
  PLAIN SPECIFICATIONS: the sets of a frame, as the program looks at them.
  CONTRACTS of the program: what is known of a database.
  CONTRACTS of the program: the sets of a frame, closures.
  CONTRACTS of the library: room, rows in a row, copies of maps.
  PLAIN SPECIFICATIONS: a frame's error by what the program knows, and what it knows behind it.
  CONTRACTS of the program: a frame.
  PLAIN LAW: what the program knows of a database and what the reference computes anew.
  PLAIN LAW: the program's check of a database is the reference's.
  CONTRACTS of the program: the check of a database.
-/
import Derived.Test.YtneapgbkkkjagaaGreatDoorQR
namespace Go.Proofs
open Go.Shelf
def Tryz.lays106_ren:Go.Shelf.Ren:=⟨fun | 106=>155 | 213=>178 | 265=>196 | n=>n,fun | 9=>9 | 3=>3 | n=>n,fun | n=>n⟩
theorem Tryz.lays106:Go.Proofs.Lays.n106 Tryz.prog Tryz.lays106_ren:= {
 mixed:=by kernel_rfl
 f106:=Tryz.func155.trans (congrArg some (by kernel_rfl))
 f213:=Tryz.func178.trans (congrArg some (by kernel_rfl))
 f265:=Tryz.func196.trans (congrArg some (by kernel_rfl))
 t3:=Tryz.underlying3
 a3:=Tryz.isAgg3
 z3:=Tryz.sizeOf3
 v3:=Tryz.zeroValue3
 t9:=Tryz.underlying9
 a9:=Tryz.isAgg9
 z9:=Tryz.sizeOf9
 v9:=Tryz.zeroValue9 }
open Go.RowKit in
theorem Tryz.strings_Compare (a b:ByteArray) (w:World):
 Calls Tryz.prog 155 #[.string a,.string b] w fun e w'=>e= .returned (.int .i64 (Lib.compareBytes a.data.toList b.data.toList))∧w'=w:=Any.strings_Compare Tryz.lays106 a b w
end Go.Proofs
set_option maxHeartbeats 8000000
set_option maxRecDepth 100000
namespace Go.Proofs.YtneapgbkkkjagaaGreatDoor
open Go.Proofs.Tryz (prog)
open Go.RowKit
theorem ZhQ {J:World→Prop} (_:Stab J) (x:BA) (y:BA):Fn prog J 155 [.str x,.str y] (.int (ZtE x y)):=fun S w vs hS hJ0 h=>by
 simp only[RelL]at h
 obtain⟨u,_,rfl,h1,u2,_,rfl,h2,rfl⟩:=h
 rw[h1.lit,h2.lit]
 exact Calls.mono (Tryz.strings_Compare x y w) fun e w' ⟨he,hw⟩=>⟨_,he,Rel.of_lit _,hw▸Keeps.refl _ _,hw▸hJ0⟩
theorem Zfq {J:World→Prop} (hJ:Stab J) (x:Pr) (y:Pr)  :Fn prog J 128 [.agg (prC x),.agg (prC y)] (.int (Zil x y)):=by
 refine Zo (N:=19) Tryz.func128 rfl rfl (lb rfl) fun S w0 hS hJ0=>?_
 clear hJ0
 refine hqs tb hJ [1000,1001] [.ptr (prC x),.ptr (prC y),_] [0,1] [_,_] rfl ⟨fun _ _ hk hx hl _=>Yq rfl (hl.env 0 0 _ rfl rfl) (hS _ hk.size) (js hJ hx),fun _ _ hk hx hl _=>Yq rfl (hl.env 1 1 _ rfl rfl) (hS _ hk.size) (js hJ hx),trivial⟩ ?_
 refine Zf (hqs tb hJ [0,1,1005] [_,_,_,_,.int (ZtE x.a y.a),_] [4] U3 rfl ⟨iFn hS hJ (ZhQ hJ (x:=x.a) (y:=y.a) ) Zk8,trivial⟩ ?_)
 refine qs tb hJ [0,1,2,1001] [_,_] U4 ?_
 refine cj 3 (fun hb1=>?_) fun hb1=>?_
 try simp at hb1
 refine qs tb hJ [1001] [_,_] [_] ?_
 exact Ze (rtn (m:=0) rfl rfl (eI (by grind[Zil])))
 try simp at hb1
 refine Zb (nx (hqs tb hJ [1005] [_,_,_,_,.int (ZtE x.b y.b),_] [4] [_] rfl ⟨iFn hS hJ (ZhQ hJ (x:=x.b) (y:=y.b) ) Zk8,trivial⟩ ?_))
 exact Ze (rtn (m:=0) rfl rfl (eI (by grind[Zil])))
theorem ZhE {J:World→Prop} (hJ:Stab J) (x:Hy) (y:Hy)  :Fn prog J 124 [.agg (hyC x),.agg (hyC y)] (.bool (Zl1 x y)):=by
 refine Zo (N:=24) Tryz.func124 rfl rfl (lb rfl) fun S w0 hS hJ0=>?_
 clear hJ0
 refine hqs tb hJ [1000,1001] [.ptr (hyC x),.ptr (hyC y),_] [0,1] [_,_] rfl ⟨fun _ _ hk hx hl _=>Yq rfl (hl.env 0 0 _ rfl rfl) (hS _ hk.size) (js hJ hx),fun _ _ hk hx hl _=>Yq rfl (hl.env 1 1 _ rfl rfl) (hS _ hk.size) (js hJ hx),trivial⟩ ?_
 refine hqs tb hJ [1019] [_,_,_,_,_,_,_,_,_,_,.bool (x.floating==y.floating),_,_,_,_,_,_,.bool (decide (x.text=y.text)),_,_] [10,17] [_] rfl ⟨fun _ _ _ hx hl hc=>Ztl Zs5 rfl (hl.D 7 12 rfl hc) (hl.D 9 14 rfl hc) hx,iFn hS hJ (Zkp hJ x.text y.text) Zpw,trivial⟩ ?_
 exact Ze (rtn (m:=0) rfl rfl (eB (by first | rfl | grind[Zv])))
theorem ZlS {J:World→Prop} (hJ:Stab J) (hs:List Hy) (t:List BA) (b:hs.length≤40):Fn prog J 127 [.rd (Xm hs),.rd (Zg t)] (.rd (Yg (t::(YX hs).map Hy.text))):=by
 refine Zo (N:=26) Tryz.func127 rfl rfl (lb rfl) fun S w0 hS hJ0=>?_
 refine tw Z1 ?_
 refine ln 0 fun hl1=>?_
 refine ln 1 fun hl2=>?_
 refine qso tb hJ [0,1] [_] [_,_] ?_
 refine tsq ?_
 refine snK 1 tb rfl ?_
 refine Zm8 ZH Za8 hJ rfl rfl rfl (lb rfl) (fun _ _ h=>(h.get 0 rfl)) fun v1=>?_
 refine snK 1 tb rfl ?_
 refine seK [0,3] [_,_] rfl ?_
 refine nx (Zf (ZG tb hJ [0,1000,1001,1002] [_,.int (hs.length:Nat),_] [1] U4 rfl ⟨Z2 Zx,trivial⟩ ?_))
 refine Zc (lpo (ι:=Nat×Value×(List (List BA))) (fun(k,_,out)=>(k≤hs.length)∧(out=t::(YX (hs.take k)).map Hy.text)∧(out.length≤k+1)) (fun(_,v,out)=>[OB.row v 22 1 (out.map Zr)]) (fun(k,v,_)=>[(12,.int (k:Nat)),(5,.lit v)]) (fun(k,_,_)=>hs.length-k) [1,2,3,0] [_,_] (0,v1,[t]) ⟨Nat.zero_le _,by simp[YX],by simp⟩ ?_)
 rintro⟨k,v,out⟩ ⟨f1_1,f1_2,f1_3⟩
 refine qso tb hJ [0,1,2,3,1000] [_] U5 ?_
 refine cjS 4 (fun hb1=>?_) fun hb1=>?_
 try simp at hb1
 refine Zb (nx (Zf (Zc (tsq ?_))))
 refine sy (.ptr (hyC (ge hs k))) (fun h=>ZO (i:=(k:Int)) Zq rfl (h.get 0 rfl) (h.get 2 rfl) (Int.natCast_nonneg _) (ZU (xs:=hs) (k:=k) sfz) rfl h.x) ?_
 refine snK 1 tb rfl ?_
 refine XZ (cs:=hyC (ge hs k)) ZbX rfl rfl rfl (lb rfl) rfl rfl rfl (by decide) (m:=0) rfl rfl (fun a w h=>Zp hS _ h.keep h.x _ (Nat.le_refl _)) (fun a w h w' hk'=>Yz hJ _ _ hk' h.x) ?_
 refine seK [0,3,4,5,6] U5 rfl ?_
 refine nx (qso tb hJ (r5 [1002]) U3 U6 ?_)
 refine cj 5 (fun hb2=>?_) fun hb2=>?_
 try simp at hb2
 refine ZE (snK 3 tb rfl ?_)
 refine sy (.rd (Yg ([(ge hs k).text]))) (fun h=>YD ZH Za8 rfl (h.get 0 rfl) (Zp hS _ h.keep h.x _ (Nat.le_refl _)) (jo hJ h.x)) ?_
 refine ZR (f:=Zr) (m:=3) (s:=19) out ([(ge hs k).text]) (fun _=>rfl) QZ hJ hJ0 rfl rfl rfl (lb rfl) rfl rfl (fun a w h=>(h.get 0 rfl)) sfz sfz fun v2=>?_
 refine snK 1 tb rfl ?_
 refine seK [0,2,3,7,8,9] U6 rfl ?_
 refine nx (ln 1 fun hl3=>?_)
 refine ln 2 fun hl4=>?_
 refine Yu tb hJ [0,3,4,1001] [.int (k+1:Nat),_] [0] U4 rfl ⟨Ya,trivial⟩ ?_
 exact YH (k+1,v2,out++([(ge hs k).text])) [1,2,3,0] ⟨by omega,by rw[YX,Z6 (by omega),f1_2];simp[YX,hb2],by simp;omega⟩
 try simp at hb2
 refine Zb (nx (Yu tb hJ [1,2,4,1001] [.int (k+1:Nat),_] [0] U4 rfl ⟨Ya,trivial⟩ ?_))
 exact YH (k+1,v,out) [0,1,3,2] ⟨by omega,by rw[YX,Z6 (by omega),f1_2];simp[YX,hb2],by omega⟩
 try simp at hb1
 refine Zt (nx (qso tb hJ [1001] [_,_] [_] ?_))
 refine tw (fun h=>ZN hS h (m:=0) (s:=4) rfl) ?_
 exact Ze (Xe (m:=0) rfl rfl (congrArg (fun z=>AV.rd (Yg z)) (show out=(t::(YX hs).map Hy.text)from by rw[f1_2,ZF (by omega)])))
theorem Zi2 {J:World→Prop} (hJ:Stab J) (M:Nat) (vs:List BA) (l:List (List BA))  :FnM (ι:=Nat) prog J 126 [OB.set keyS M vs] [.lit (.map (some M)),.rd (Yg l)] [] (fun i'=>.lit (.map (some (i')))) (fun i'=>[OB.set keyS (i') (Q7 vs l.flatten)]):=by
 refine Yt (N:=31) Tryz.func126 rfl rfl (lb rfl) fun S w0 R hS hJ0 hH=>?_
 refine YA (B:=So J S w0 31 (R) [(0,.lit (.map (some M))),(1,.rd (Yg l))]) ?_ fun a w h=>h
 refine ln 1 fun hl1=>?_
 refine ZG tb hJ [0,1] [.rd (.lit (.map none))] [0] [_,_] rfl ⟨fun _ _ _ hx _ _=>XC rfl (Rel.of_lit (.map none)) hx,trivial⟩ ?_
 refine tsq ?_
 refine ZbD keyS hJ rfl rfl rfl (lb rfl) fun m1=>?_
 refine snK 1 tb rfl ?_
 refine seK [0,2,3] U3 rfl ?_
 refine nx (Zf (ZG tb hJ [0,1,1000,1001,1002] [_,.int (l.length:Nat),_] [1] U5 rfl ⟨Z2 Qy,trivial⟩ ?_))
 refine Zc (lpo (ι:=Nat×(List BA)) (fun(k,ys)=>(k≤l.length)∧(ys=Q7 vs (l.take k).flatten)) (fun(_,ys)=>(OB.set keyS m1 ys::R)) (fun(k,_)=>[(13,.int (k:Nat))]) (fun(k,_)=>l.length-k) (r5 []) U4 (0,([]:List BA)) ⟨Nat.zero_le _,by simp[Q7]⟩ ?_)
 rintro⟨k,ys⟩ ⟨f1_1,f1_2⟩
 refine qso tb hJ (r5 [1000]) [_] U6 ?_
 refine cjS 5 (fun hb1=>?_) fun hb1=>?_
 try simp at hb1
 refine Zb (nx (Zf (Zc (ZG tb hJ (r5 [1001,1002]) [.ptr [Zg (ge l k)],_,_] [0] U7 rfl ⟨iIx ZH,trivial⟩ ?_))))
 refine ln 5 fun hl2=>?_
 refine ZG tb hJ (r5 [1000,1001,1002]) [_,.int ((ge l k).length:Nat),_] [1] U8 rfl ⟨Z2 Zm,trivial⟩ ?_
 refine Zc (lpo (ι:=Nat×(List BA)) (fun(j,zs)=>(j≤(ge l k).length)∧(zs=Q7 vs ((l.take k).flatten++(ge l k).take j))) (fun(_,zs)=>(OB.set keyS m1 zs::R)) (fun(j,_)=>[(19,.int (j:Nat))]) (fun(j,_)=>(ge l k).length-j) (r8 []) U7 (0,ys) ⟨Nat.zero_le _,by simp[f1_2]⟩ ?_)
 rintro⟨j,zs⟩ ⟨f2_1,f2_2⟩
 refine qso tb hJ (r8 [1000]) [_] U9 ?_
 refine cjS 8 (fun hb2=>?_) fun hb2=>?_
 try simp at hb2
 refine Zb (nx (Zf (Zc (ZG tb hJ (r8 [1002]) [.ptr [lS (ge (ge l k) j)],_,_] [0] U9 rfl ⟨iIx Zd,trivial⟩ ?_))))
 refine ZG tb hJ [0,1,2,3,4,5,6,7,8,1002] [_,_,.bool (decide ((ge (ge l k) j)∈vs))] [2] U10 rfl ⟨fun _ _ hk hx hl _=>YE (Kd:=keyS) (xs:=vs) Yd Yf (ge (ge l k) j) rfl (Yr hH hk hx (mo 0 rfl)) (hl.D 0 23 rfl rfl) (hl.D 1 24 rfl rfl) hx,trivial⟩ ?_
 refine cj 9 (fun hb3=>?_) fun hb3=>?_
 try simp at hb3
 refine ZE (snK 2 tb rfl ?_)
 refine Zco Yd hJ hJ0 (ge (ge l k) j) rfl rfl (.inl rfl) (fun a w h=>⟨(h.get 1 rfl),(h.get 0 rfl),(Rel.of_lit (.bool true))⟩) ?_
 refine seK [2,3,4,5,6,7,8,9] U8 rfl ?_
 refine nx (Yu tb hJ (r7 [1001]) [.int (j+1:Nat),_] [0] U8 rfl ⟨Ya,trivial⟩ ?_)
 exact YH (j+1,QN zs (ge (ge l k) j)) (r8 []) ⟨by omega,by rw[Z0 (by omega),←List.append_assoc,ZbJ,←f2_2];first | (simp[hb3,QN];done) | (simp[hb3,QN];grind)⟩
 try simp at hb3
 refine Zb (nx (Yu tb hJ (r7 [1001]) [.int (j+1:Nat),_] [0] U8 rfl ⟨Ya,trivial⟩ ?_))
 exact YH (j+1,zs) (r8 []) ⟨by omega,by rw[Z0 (by omega),←List.append_assoc,ZbJ,←f2_2];first | (simp;done) | (simp[hb3];done) | (simp;grind)⟩
 try simp at hb2
 refine Zt (nx (Yu tb hJ [0,1,2,3,1001] [.int (k+1:Nat),_] [0] U5 rfl ⟨Ya,trivial⟩ ?_))
 exact YH (k+1,zs) (r5 []) ⟨by omega,by rw[f2_2,ZF (xs:=ge l k) (by omega),Z0 (by omega)];simp⟩
 try simp at hb1
 refine Zt (nx (qso tb hJ [1001] [_,_] [_] ?_))
 refine tw (ob0 (congrArg (fun z'=>OB.set keyS m1 (z')) (show ys=(Q7 vs l.flatten)from by rw[f1_2,ZF (by omega)]))) ?_
 exact Ze (fun a w h=>Ye  (m:=0) m1 rfl h rfl rfl)
theorem ZnP {J:World→Prop} (hJ:Stab J) (M:Nat) (ms:List BA) (p:Pr)  :FnR prog J 157 [OB.set keyS M ms] [.agg (prC p),.ptr [.lit (.map (some M))]] (.bool (!decide (p.a∈ms)|| !decide (p.b∈ms))):=by
 refine Yo (N:=16) Tryz.func157 rfl rfl (lb rfl) fun S w0 hS hJ0 hH=>?_
 clear hJ0
 refine hqs tb hJ [1,1000] [.ptr (prC p),_] [0] [_,_] rfl ⟨fun _ _ hk hx hl _=>Yq rfl (hl.env 0 0 _ rfl rfl) (hS _ hk.size) (js hJ hx),trivial⟩ ?_
 refine hqs tb hJ [1012] [_,_,_,.bool (decide (p.a∈ms)),_,_,_,_,_,.bool (decide (p.b∈ms)),_,_,_] [3,9] [_] rfl ⟨fun a _ hk hx hl _=>YE (Kd:=keyS) (xs:=ms) Yd Yf p.a rfl (Xl hH hk (mo 0 rfl)) (hl.D 0 4 rfl rfl) (hl.D 2 6 rfl rfl) hx,fun _ _ hk hx hl hc=>YE (Kd:=keyS) (xs:=ms) Yd Yf p.b rfl (Xl hH hk (mo 0 rfl)) (hl.D 6 10 rfl hc) (hl.D 8 12 rfl hc) hx,trivial⟩ ?_
 exact Ze (rtn (m:=0) rfl rfl (eB (by first | rfl | grind[Zv])))
theorem ZqN {J:World→Prop} (hJ:Stab J) (M:Nat) (ms:List BA) (l:List Pr) (b:l.length*32≤140737488351232):FnR prog J 130 [OB.set keyS M ms] [.lit (.map (some M)),.rd (Xc l)] (.rd (Xc (l.filter (inV ms)))):=by
 refine Yo (N:=9) Tryz.func130 rfl rfl (lb rfl) fun S w0 hS hJ0 hH=>?_
 refine tw Z1 ?_
 refine ln 1 fun hl1=>?_
 refine ZG tb hJ [1,1000] [.ptr [.lit (.map (some M))],_] [0] [_,_] rfl ⟨fun _ _ hk hx hl _=>Zcl rfl (hl.env 0 0 _ rfl rfl) (Zp hS _ hk hx _ (Nat.le_refl _)) (jo hJ hx),trivial⟩ ?_
 refine tsq ?_
 refine snK 1 tb rfl ?_
 refine X0 (O:=[]) (R:=[]) (Zq2 hJ l (b)) ZvO rfl rfl rfl (lb rfl) hS hJ0 Zy (fun a w h=>(Za (h.get 0 rfl) Zh)) fun z1=>?_
 refine sy (.fn 157 [.ptr [.lit (.map (some M))]]) (fun h=>XR (caps:=[(.tmp 2)]) rfl (Za (h.get 3 rfl) Zh) h.x) ?_
 refine X0 (O:=[OB.row z1 104 2 (l.map prC)]) (R:=[]) (Zgz hJ z1 l 157 [.ptr [.lit (.map (some M))]] [] [OB.set keyS M ms] (fun x':Pr=>!decide (x'.a∈ms)|| !decide (x'.b∈ms)) (fun q'=>ZnP hJ M ms q') (Zr4) (by omega)) Zr5 rfl rfl rfl (lb rfl) hS hJ0 (ZT (hH _ (mo 0 rfl)) Zy) (fun a w h=>(Za (h.get 1 rfl) (Za (h.get 0 rfl) Zh))) fun _=>?_
 refine snK 1 tb rfl ?_
 refine seK [0,1] [_,_] rfl ?_
 refine nx (ln 0 fun hl2=>?_)
 exact Ze (Xe (m:=0) rfl rfl (congrArg (fun z=>AV.rd (Xc z)) (show(l.filter fun x'=>!(fun x':Pr=>!decide (x'.a∈ms)|| !decide (x'.b∈ms)) x')=(l.filter (inV ms))from by congr 1;funext x';simp[inV])))
theorem Zgy {J:World→Prop} (hJ:Stab J) (y:Hy)  :Fn prog J 88 [.agg (hyC y)] (.bool y.floating):=by
 refine Zo (N:=5) Tryz.func88 rfl rfl (lb rfl) fun S w0 hS hJ0=>?_
 clear hJ0
 refine hqs tb hJ [1000] [.ptr (hyC y),_] [0] [_] rfl ⟨fun _ _ hk hx hl _=>Yq rfl (hl.env 0 0 _ rfl rfl) (hS _ hk.size) (js hJ hx),trivial⟩ ?_
 refine qs tb hJ [1002] U3 [_] ?_
 exact Ze (rtn (m:=0) rfl rfl rfl)
theorem ZdI {J:World→Prop} (hJ:Stab J) (f:Fr) (b:f.hyps.length*48≤140737488351232):Fn prog J 51 [.agg (frC f)] (.rd (Xm (YX f.hyps))):=by
 refine Zo (N:=7) Tryz.func51 rfl rfl (lb rfl) fun S w0 hS hJ0=>?_
 refine tw Z1 ?_
 refine ZG tb hJ [1000] [.ptr (frC f),_] [0] [_] rfl ⟨fun _ _ hk hx hl _=>Yq rfl (hl.env 0 0 _ rfl rfl) (Zp hS _ hk hx _ (Nat.le_refl _)) (jo hJ hx),trivial⟩ ?_
 refine tsq ?_
 refine snK 2 tb rfl ?_
 refine X0 (O:=[]) (R:=[]) (Zq3 hJ f.hyps (b)) ZvP rfl rfl rfl (lb rfl) hS hJ0 Zy (fun a w h=>(Za (h.get 0 rfl) Zh)) fun z1=>?_
 refine X0 (O:=[OB.row z1 61 3 (f.hyps.map hyC)]) (R:=[]) (ZgA hJ z1 f.hyps 88 [] [] [] (fun x':Hy=>x'.floating) (fun q'=>(Zgy hJ q').r) (Zvz) (by omega)) ZvA rfl rfl rfl (lb rfl) hS hJ0 Zy (fun a w h=>(Za (h.get 0 rfl) (Za (ZaC 88) Zh))) fun _=>?_
 refine snK 1 tb rfl ?_
 refine seK [0,1,3] U3 rfl ?_
 refine nx (ln 0 fun hl1=>?_)
 refine ln 2 fun hl2=>?_
 exact Ze (Xe (m:=0) rfl rfl (congrArg (fun z=>AV.rd (Xm z)) (show(f.hyps.filter fun x'=>!(fun x':Hy=>x'.floating) x')=(YX f.hyps)from rfl)))
theorem ZqV {J:World→Prop} (hJ:Stab J) (xs:List Hy) (ys:List Hy)  :Fn prog J 83 [.rd (Xm xs),.rd (Xm ys)] (.int (Zd7 (xs.map Hy.label) (ys.map Hy.label):Nat)):=by
 refine Zo (N:=32) Tryz.func83 rfl rfl (lb rfl) fun S w0 hS hJ0=>?_
 clear hJ0
 refine ln 0 fun hl1=>?_
 refine ln 1 fun hl2=>?_
 refine qs tb hJ [0,1] [_] [_,_] ?_
 refine qs tb hJ [0,1,1000] [_] U3 ?_
 refine Zf (Zc (lp (ι:=Nat) (fun k=>(k≤xs.length)∧(k≤ys.length)∧(∀ j,j<k→(ge xs j).label=(ge ys j).label)) (fun k=>[(5,.int (k:Nat))]) (fun k=>xs.length-k) [0,1,2] [_,_] 0 ⟨Nat.zero_le _,Nat.zero_le _,fun j hj=>by omega⟩ ?_))
 rintro k ⟨f1_1,f1_2,f1_3⟩
 refine Zf (hqs tb hJ [0,1,2,1022] [_,_,.int (xs.length:Nat),_,_,_,_,.int (ys.length:Nat),_,_,_,_,_,.ptr (hyC (ge xs k)),_,_,_,_,.ptr (hyC (ge ys k)),_,_,_,_] [2,7,13,18] U4 rfl ⟨Z2 Zx,Z2 Zx,gIx Zq (hk:=fun(hc':(((decide ((k:Int)< (xs.length:Int)))&& (decide ((k:Int)< (ys.length:Int))))==true)=true)=>by(try simp at hc');first | omega | (simp;omega) | grind[Zv]),gIx Zq (hk:=fun(hc':(((decide ((k:Int)< (xs.length:Int)))&& (decide ((k:Int)< (ys.length:Int))))==true)=true)=>by(try simp at hc');first | omega | (simp;omega) | grind[Zv]),trivial⟩ ?_)
 refine cj 3 (fun hb1=>?_) fun hb1=>?_
 try simp at hb1
 refine Zb (nx (Zc (hqp tb hJ [0,1,1002] [_,.int (k+1:Nat),_] [1] U3 rfl ⟨Ya,trivial⟩ ?_)))
 exact lpE (k+1) [0,1,2] ⟨by omega,by omega,ZK f1_3 (by simp_all)⟩
 try simp at hb1
 refine Zt (nx (qs tb hJ [1001] [_,_] [_] ?_))
 exact Ze (rtn (m:=0) rfl rfl (eI (by exact congrArg _ (Zjt (xs.map Hy.label) (ys.map Hy.label) k (by simpa using f1_1) (by simpa using f1_2) (fun j hj=>by rw[ZkI (by omega),ZkI (by omega)];exact f1_3 j hj) (by rw[List.length_map,List.length_map];rintro⟨h1,h2,h3⟩;rw[ZkI h1,ZkI h2]at h3;simp_all)))))
theorem Zko {J:World→Prop} (hJ:Stab J) (y:Hy) (b:y.text.length*16≤140737488351232):Fn prog J 85 [.agg (hyC y)] (.agg (hyC y)):=by
 refine Zo (N:=8) Tryz.func85 rfl rfl (lb rfl) fun S w0 hS hJ0=>?_
 refine tw Z1 ?_
 refine tsq ?_
 refine Zm9 (cs:=[lS y.label,lB y.floating,Zg y.text]) hJ rfl rfl rfl (lb rfl) (fun a w h=>(h.get 0 rfl)) fun b1=>?_
 refine Z4 YJ hJ rfl rfl rfl (lb rfl) fun b2=>?_
 refine seK [0,1] [_,_] rfl ?_
 refine nx (tsq ?_)
 refine sy (.at b1 2) (fun h=>Zw Zah rfl (h.get 1 rfl) h.x) ?_
 refine sy (.rd (Zg y.text)) (fun h=>Zz XI rfl (Zi h.x (mo 1 rfl)) (h.get 0 rfl) rfl h.x) ?_
 refine X0 (O:=[]) (R:=[OB.var b2 [lS (⟨#[]⟩:BA),lB false,Zg ([]:List BA)],OB.var b1 [lS y.label,lB y.floating,Zg y.text]]) (Zkq hJ y.text sfz) Zpr rfl rfl rfl (lb rfl) hS hJ0 Zy (fun a w h=>(Za (h.get 0 rfl) Zh)) fun z3=>?_
 refine sy (.at b1 2) (fun h=>Zw Zah rfl (h.get 4 rfl) h.x) ?_
 refine kw pm2 ?_
 refine kw pm1 ?_
 refine kw (fun h=>ZN hS h (m:=1) (s:=5) rfl) ?_
 refine Yc (b:=b1) (off:=2) (es:=U3) hJ hJ0 Zho rfl rfl rfl (lb rfl) rfl (fun a w h=>⟨(h.get 1 rfl),(h.get 0 rfl)⟩) ?_
 refine seK [0,2,4,5] U4 rfl ?_
 refine nx (ln 0 fun hl1=>?_)
 refine tsq ?_
 refine sy (.agg [lS y.label,lB y.floating,Zg y.text]) (fun h=>YP (ds:=[lS y.label,lB y.floating,Zg y.text]) XU rfl (Zi h.x (mo 0 rfl)) (h.get 3 rfl) rfl rfl h.x) ?_
 refine kw pm1 ?_
 refine ZD (b:=b2) (off:=0) (es:=U3) (news:=U3) hJ hJ0 YL rfl rfl rfl (lb rfl) rfl (fun a w h=>⟨(h.get 3 rfl),(h.get 0 rfl)⟩) ?_
 refine seK [3] [_] rfl ?_
 exact nx (Ze (fun a w h=>X3 (m:=0) rfl XU h rfl rfl rfl))
theorem Ztn {J:World→Prop} (hJ:Stab J) (M1:Nat) (M2:Nat) (M3:Nat) (M4:Nat) (M5:Nat) (cs:List BA) (vs:List BA) (l:List BA)  :FnR prog J 79 [OB.set keyS M1 cs,OB.set keyS M2 vs] [.ptr (mpC [M1,M2,M3,M4,M5]),.rd (Zg l)] (.int (Zlp cs vs l)):=by
 refine Yo (N:=30) Tryz.func79 rfl rfl (lb rfl) fun S w0 hS hJ0 hH=>?_
 clear hJ0
 refine ln 1 fun hl1=>?_
 refine hqs tb hJ [1,1000] [.ptr [.ptr (mpC [M1,M2,M3,M4,M5])],_] [0] [_,_] rfl ⟨fun _ _ hk hx hl _=>ZnD rfl (hl.env 0 0 _ rfl rfl) (hS _ hk.size) (js hJ hx),trivial⟩ ?_
 refine Zf (Zc (hqs tb hJ [0,1,1008] [_,.int (l.length:Nat),_,_,_,.int (l.length:Nat),_,_,_] [1,5] U3 rfl ⟨Z2 Zm,Z2 Zm,trivial⟩ ?_))
 refine cj 2 (fun hb1=>?_) fun hb1=>?_
 refine qs tb hJ [1000] [_] [_] ?_
 exact Ze (rtn (m:=0) rfl rfl (eI (by grind[Zlp])))
 refine hqs tb hJ [1015] [_,_,_,_,_,.ptr [lS (ge l 0)],_,.bool (decide ((ge l 0)∈cs)),_,_,_,.rd (Zg (l.drop 1)),.fn 125 [.ptr [.ptr (mpC [M1,M2,M3,M4,M5])]],.bool ((l.drop 1).any (fun s=>!(decide (s∈cs)||decide (s∈vs)))),_,_] [5,7,11,12,13] [_] rfl ⟨iIx (k:=0) Zd,fun _ _ hk hx hl _=>YE (Kd:=keyS) (xs:=cs) Yd Yf (ge l 0) rfl (Xl hH hk (mo 0 rfl)) (hl.D 3 18 rfl rfl) (hl.D 6 21 rfl rfl) hx,fun _ _ _ hx hl hc=>Yy (ys:=l.drop 1) (lo:=1) (hi:=l.length) (by rw[List.take_length]) Zd (fun _=>rfl) rfl (hl.D 10 25 rfl hc) (Rel.of_lit (.int .i64 1)) rfl (by have hc':((!(decide ((ge l 0)∈cs)))==false)=true:=hc;(try simp at hc');(first | omega | (simp;omega) | grind[Zv])) (by have hc':((!(decide ((ge l 0)∈cs)))==false)=true:=hc;(try simp at hc');(first | omega | (simp;omega) | grind[Zv])) hx,fun _ _ _ hx hl _=>XR (caps:=[(.tmp 2)]) rfl (Za (hl.env 1 2 _ rfl rfl) Zh) hx,fun _ _ hk hx hl hc=>Xq (YY hJ (l.drop 1) 125 [.ptr [.ptr (mpC [M1,M2,M3,M4,M5])]] [OB.set keyS M1 cs,OB.set keyS M2 vs] (fun s=>!(decide (s∈cs)||decide (s∈vs))) (fun q'=>Zuu hJ M1 M2 M3 M4 M5 cs vs q') (Zsv)) Ze6 rfl (nm hS hk) (hx) (ZT (Xl hH hk (mo 0 rfl)) (ZT (Xl hH hk (mo 1 rfl)) Zy)) (Za (hl.D 11 26 rfl hc) (Za (hl.D 12 27 rfl hc) Zh)) (js hJ hx),trivial⟩ ?_
 refine cj 0 (fun hb2=>?_) fun hb2=>?_
 refine qs tb hJ [1000] [_] [_] ?_
 exact Ze (rtn (m:=0) rfl rfl (eI (by grind[Zlp])))
 refine Zb (nx (qs tb hJ [1000] [_] [_] ?_))
 exact Ze (rtn (m:=0) rfl rfl (eI (by grind[Zlp])))
theorem ZnY {J:World→Prop} (hJ:Stab J)   :Fn prog J 153 [] (.agg (clsL.map u8D)):=by
 refine Zo (N:=78) Tryz.func153 rfl rfl (lb rfl) fun S w0 hS hJ0=>?_
 refine tw Z1 ?_
 refine tsq ?_
 refine Z4 ZcD hJ rfl rfl rfl (lb rfl) fun b1=>?_
 refine seK [0] [_] rfl ?_
 refine nx (Zf (qso tb hJ [0,1000] [_] [_,_] ?_))
 refine Zc (lpo (ι:=Nat×(List UInt8)) (fun(k,xs)=>(k≤256)∧(xs.length=256)∧(∀ j,j<k→ge xs j=Ze2 (UInt8.ofNat j))∧(∀ j,k≤j→j<256→ge xs j=0)) (fun(_,xs)=>[OB.var b1 (xs.map u8D)]) (fun(k,_)=>[(3,.int (k:Nat))]) (fun(k,_)=>256-k) [0,1] [_] (0,(List.replicate 256 (0:UInt8))) ⟨Nat.zero_le _,by simp,fun j hj=>by omega,fun j _ h=>by rw[Xd (by simpa using h)];exact List.getElem_replicate _⟩ ?_)
 rintro⟨k,xs⟩ ⟨f1_1,f1_2,f1_3,f1_4⟩
 refine qso tb hJ [0,1,1000] [_] U3 ?_
 refine cjS 2 (fun hb1=>?_) fun hb1=>?_
 ·
  try simp at hb1
  refine Zb (nx (Zf (Zc (qso tb hJ [0,1,1001] [_,_] U3 ?_))))
  refine ZG tb hJ [0,1,2,1002] [_,.rd (.lit (.int .u8 ((UInt8.ofNat k).toNat:Int))),_] [1] U4 rfl ⟨fun _ _ _ hx hl _=>ZqH (k:=k) Qb ZbB rfl (hl.D 0 6 rfl rfl) sfz hx,trivial⟩ ?_
  refine Zc (qso tb hJ [0,1,2,3,1014] U15 U5 ?_)
  refine cj 4 (fun hb2=>?_) fun hb2=>?_
  ·
   replace hb2:c2B (UInt8.ofNat k)=true:=hb2
   refine ZE (snK 1 tb rfl ?_)
   refine sy (.at b1 k) (fun h=>ZbI (i:=k) X5 rfl (h.get 1 rfl) (h.get 0 rfl) sfz h.x) ?_
   refine Yc (b:=b1) (off:=k) (c:=u8D (1:UInt8)) hJ hJ0 Zd2 rfl rfl rfl (by rw[List.length_map];exact sfz) (Zha sfz) (fun a w h=>⟨(h.get 0 rfl),(Rel.of_lit (.int .u8 1))⟩) ?_
   refine seK [2,3] [_,_] rfl ?_
   refine nx (Yu tb hJ [0,1001] [.int (k+1:Nat),_] [0] [_,_] rfl ⟨Ya,trivial⟩ ?_)
   exact YH (k+1,xs.set k (1:UInt8)) [0,1] ⟨by omega,by rw[List.length_set];exact f1_2,Zd8 f1_2 (by omega) f1_3 (by simp[Ze2,hb2]),Zd9 f1_2 (by omega) f1_4⟩
  ·
   replace hb2:c2B (UInt8.ofNat k)=false:=hb2
   refine qso tb hJ [0,1,2,3,1002] U3 U5 ?_
   refine cj 4 (fun hb3=>?_) fun hb3=>?_
   ·
    replace hb3:c3B (UInt8.ofNat k)=true:=hb3
    refine ZE (snK 1 tb rfl ?_)
    refine sy (.at b1 k) (fun h=>ZbI (i:=k) X5 rfl (h.get 1 rfl) (h.get 0 rfl) sfz h.x) ?_
    refine Yc (b:=b1) (off:=k) (c:=u8D (4:UInt8)) hJ hJ0 Zd2 rfl rfl rfl (by rw[List.length_map];exact sfz) (Zha sfz) (fun a w h=>⟨(h.get 0 rfl),(Rel.of_lit (.int .u8 4))⟩) ?_
    refine seK [2,3] [_,_] rfl ?_
    refine nx (Yu tb hJ [0,1001] [.int (k+1:Nat),_] [0] [_,_] rfl ⟨Ya,trivial⟩ ?_)
    exact YH (k+1,xs.set k (4:UInt8)) [0,1] ⟨by omega,by rw[List.length_set];exact f1_2,Zd8 f1_2 (by omega) f1_3 (by simp[Ze2,hb2,hb3]),Zd9 f1_2 (by omega) f1_4⟩
   ·
    replace hb3:c3B (UInt8.ofNat k)=false:=hb3
    refine qso tb hJ [0,1,2,3,1034] [_,_,_,_,_,_,_,_,_,_,_,_,_,_,_,_,_,_,_,_,_,_,_,_,_,_,_,_,_,_,_,_,_,_,_] U5 ?_
    refine cj 4 (fun hb4=>?_) fun hb4=>?_
    ·
     replace hb4:c4B (UInt8.ofNat k)=true:=hb4
     refine ZE (snK 1 tb rfl ?_)
     refine sy (.at b1 k) (fun h=>ZbI (i:=k) X5 rfl (h.get 1 rfl) (h.get 0 rfl) sfz h.x) ?_
     refine Yc (b:=b1) (off:=k) (c:=u8D (2:UInt8)) hJ hJ0 Zd2 rfl rfl rfl (by rw[List.length_map];exact sfz) (Zha sfz) (fun a w h=>⟨(h.get 0 rfl),(Rel.of_lit (.int .u8 2))⟩) ?_
     refine seK [2,3] [_,_] rfl ?_
     refine nx (Yu tb hJ [0,1001] [.int (k+1:Nat),_] [0] [_,_] rfl ⟨Ya,trivial⟩ ?_)
     exact YH (k+1,xs.set k (2:UInt8)) [0,1] ⟨by omega,by rw[List.length_set];exact f1_2,Zd8 f1_2 (by omega) f1_3 (by simp[Ze2,hb2,hb3,hb4]),Zd9 f1_2 (by omega) f1_4⟩
    ·
     replace hb4:c4B (UInt8.ofNat k)=false:=hb4
     refine qso tb hJ [0,1,2,1006] U7 U4 ?_
     refine cj 3 (fun hb5=>?_) fun hb5=>?_
     ·
      replace hb5:c5B (UInt8.ofNat k)=true:=hb5
      refine ZE (snK 1 tb rfl ?_)
      refine sy (.at b1 k) (fun h=>ZbI (i:=k) X5 rfl (h.get 1 rfl) (h.get 0 rfl) sfz h.x) ?_
      refine Yc (b:=b1) (off:=k) (c:=u8D (3:UInt8)) hJ hJ0 Zd2 rfl rfl rfl (by rw[List.length_map];exact sfz) (Zha sfz) (fun a w h=>⟨(h.get 0 rfl),(Rel.of_lit (.int .u8 3))⟩) ?_
      refine seK [2,3] [_,_] rfl ?_
      refine nx (Yu tb hJ [0,1001] [.int (k+1:Nat),_] [0] [_,_] rfl ⟨Ya,trivial⟩ ?_)
      exact YH (k+1,xs.set k (3:UInt8)) [0,1] ⟨by omega,by rw[List.length_set];exact f1_2,Zd8 f1_2 (by omega) f1_3 (by simp[Ze2,hb2,hb3,hb4,hb5]),Zd9 f1_2 (by omega) f1_4⟩
     ·
      replace hb5:c5B (UInt8.ofNat k)=false:=hb5
      refine Zb (nx (Yu tb hJ [0,1001] [.int (k+1:Nat),_] [0] [_,_] rfl ⟨Ya,trivial⟩ ?_))
      exact YH (k+1,xs) [0,1] ⟨by omega,f1_2,ZK f1_3 (by rw[f1_4 k (Nat.le_refl k) (by omega)];simp[Ze2,hb2,hb3,hb4,hb5]),fun j h1 h2=>f1_4 j (by omega) h2⟩
 ·
  try simp at hb1
  refine Zt (nx (tsq ?_))
  refine sy (.agg (xs.map u8D)) (fun h=>YP (ds:=xs.map u8D) Zfg rfl (Zi h.x (mo 0 rfl)) (h.get 0 rfl) (by rw[List.drop_zero,List.take_of_length_le (by rw[List.length_map];omega)]) (by rw[List.length_map];omega) h.x) ?_
  refine ZD (b:=b1) (off:=0) (news:=xs.map u8D) hJ hJ0 (by rw[List.length_map,show xs.length=256 from(f1_2)];exact ZdF) rfl rfl rfl (by simp only[List.length_map];exact(by omega)) (ZpM (by rw[List.length_map]<;>exact(rfl))) (fun a w h=>⟨(h.get 1 rfl),(h.get 0 rfl)⟩) ?_
  refine seK [1] [_] rfl ?_
  exact nx (Ze (fun a w h=>X3 (m:=0) rfl Zfg h rfl (by rw[List.length_map];exact(f1_2)) (congrArg (fun z':List UInt8=>z'.map u8D) (show xs=clsL from Zvs f1_2 fun j hj=>f1_3 j (by omega)))))
theorem ZqZ {J:World→Prop} (hJ:Stab J) (xs:List UInt8) (c:UInt8)  :Fn prog J 177 [.rd (u8sC xs),.rd (.lit (.int .u8 (c.toNat:Int)))] (.int (Yp (fun x':UInt8=>decide (((c).toNat:Int)=((x').toNat:Int))) xs)):=by
 refine Zo (N:=19) Tryz.func177 rfl rfl (lb rfl) fun S w0 hS hJ0=>?_
 clear hJ0
 refine ln 0 fun hl1=>?_
 refine qs tb hJ [0,1] [_] [_,_] ?_
 refine Zf (hqs tb hJ [0,1,1001,1002] [_,.int (xs.length:Nat),_] [1] U4 rfl ⟨Z2 Zln,trivial⟩ ?_)
 refine Zc (lp (ι:=Nat) (fun k=>(k≤xs.length)∧(∀ j,j<k→(fun x':UInt8=>decide (((c).toNat:Int)=((x').toNat:Int))) (ge xs j)=false)) (fun k=>[(8,.int (k:Nat))]) (fun k=>xs.length-k) [0,1,2,3] U3 0 ⟨Nat.zero_le _,fun j hj=>by omega⟩ ?_)
 rintro k ⟨f1_1,f1_2⟩
 refine qs tb hJ [0,1,2,3,1000] [_] U5 ?_
 refine cjS 4 (fun hb1=>?_) fun hb1=>?_
 try simp at hb1
 refine Zb (nx (Zf (Zc (qs tb hJ [0,1,2,3,1001] [_,_] U5 ?_))))
 refine hqs tb hJ (r5 [1005]) [_,_,_,.ptr [.lit (.int .u8 ((ge xs k).toNat:Int))],_,_] [3] U6 rfl ⟨iIx ZbQ,trivial⟩ ?_
 refine cj 5 (fun hb2=>?_) fun hb2=>?_
 try simp at hb2
 refine qs tb hJ [1001] [_,_] [_] ?_
 exact Ze (rtn (m:=0) rfl rfl (eI (by first | exact(Xf (p:=fun x':UInt8=>decide (((c).toNat:Int)=((x').toNat:Int))) hb1 (by simpa using hb2) f1_2).symm | exact(YT (p:=fun x':UInt8=>decide (((c).toNat:Int)=((x').toNat:Int))) fun j hj=>f1_2 j (by omega)).symm)))
 try simp at hb2
 refine Zb (nx (hqp tb hJ [0,1,2,1001] [.int (k+1:Nat),_] [0] U4 rfl ⟨Ya,trivial⟩ ?_))
 exact lpE (k+1) [0,1,2,3] ⟨by omega,ZK f1_2 (by simpa using hb2)⟩
 try simp at hb1
 refine Zt (nx (qs tb hJ [1000] [_] [_] ?_))
 exact Ze (rtn (m:=0) rfl rfl (eI (by first | exact(Xf (p:=fun x':UInt8=>decide (((c).toNat:Int)=((x').toNat:Int))) hb1 (by simpa using hb2) f1_2).symm | exact(YT (p:=fun x':UInt8=>decide (((c).toNat:Int)=((x').toNat:Int))) fun j hj=>f1_2 j (by omega)).symm)))
theorem Zi3 {J:World→Prop} (hJ:Stab J) (xs:List UInt8) (c:UInt8)  :Fn prog J 154 [.rd (u8sC xs),.rd (.lit (.int .u8 (c.toNat:Int)))] (.bool (decide (c∈xs))):=by
 refine Zo (N:=9) Tryz.func154 rfl rfl (lb rfl) fun S w0 hS hJ0=>?_
 clear hJ0
 refine ln 0 fun hl1=>?_
 refine qs tb hJ [0,1] [_] [_,_] ?_
 refine hqs tb hJ [1004] [_,_,.int (Yp (fun x':UInt8=>decide (((c).toNat:Int)=((x').toNat:Int))) xs),_,_] [2] [_] rfl ⟨iFn hS hJ (ZqZ hJ xs c) ZrS,trivial⟩ ?_
 exact Ze (rtn (m:=0) rfl rfl (eB (by rw[Zb6,Zrb])))
theorem Ztp {J:World→Prop} (hJ:Stab J) (s:BA) (bs:List UInt8)  :Fn prog J 122 [.str s,.rd (u8sC bs)] (.bool (Zch s bs)):=by
 refine Zo (N:=29) Tryz.func122 rfl rfl (lb rfl) fun S w0 hS hJ0=>?_
 refine tw Z1 ?_
 refine lnS 0 fun hl1=>?_
 refine ln 1 fun hl2=>?_
 refine qso tb hJ [0,1] [_] [_,_] ?_
 refine Zf (ZG tb hJ [0,1,1006] [_,_,_,_,.int (s.size:Nat),_,_] [4] U3 rfl ⟨Zmv ZX,trivial⟩ ?_)
 refine cj 2 (fun hb1=>?_) fun hb1=>?_
 refine qso tb hJ [1000] [_] [_] ?_
 exact Ze (Xe (m:=0) rfl rfl (eB (by first | (rw[Zch,if_pos hb1];done) | (rw[Zch,if_neg (by rw[hb1];decide)];symm;exact Zaf (p:=fun c=>decide (Ze2 c∈bs)) hb2 (by simpa [ZgT]using hb3)) | (rw[Zch,if_neg (by rw[hb1];decide)];symm;exact Zga fun j hj=>f1_2 j (by omega)))))
 refine Zb (nx (tsq ?_))
 refine sy (.agg (clsL.map u8D)) (fun h=>Zbw (ZnY hJ  ) Zr7 rfl (Zp hS _ h.keep h.x) (h.x.1) Zh (jo hJ h.x)) ?_
 refine Z4 ZcD hJ rfl rfl rfl (lb rfl) fun b1=>?_
 refine ZD (b:=b1) (off:=0) (news:=clsL.map u8D) hJ hJ0 (by rw[List.length_map,show clsL.length=256 from(Zbm)];exact ZdF) rfl rfl rfl (by simp only[List.length_map];exact(by rw[Zbm,List.length_replicate];exact Nat.le_of_ble_eq_true rfl)) (ZpM (by rw[List.length_map]<;>exact(by rw[Zbm,List.length_replicate]))) (fun a w h=>⟨(h.get 0 rfl),(h.get 1 rfl)⟩) ?_
 refine seK [0,2,3] U3 rfl ?_
 refine nx (Zf (ZG tb hJ [0,1,2,1001,1002] [_,.int (s.size:Nat),_] [1] U5 rfl ⟨Zmv ZX,trivial⟩ ?_))
 refine Zc (lpo (ι:=Nat) (fun k=>(k≤s.size)∧(∀ j,j<k→decide (Ze2 (bt s j)∈bs)=true)) (fun _=>[OB.var b1 (clsL.map u8D)]) (fun k=>[(17,.int (k:Nat))]) (fun k=>s.size-k) (r5 []) U4 0 ⟨Nat.zero_le _,fun j hj=>by omega⟩ ?_)
 rintro k ⟨f1_1,f1_2⟩
 refine qso tb hJ (r5 [1000]) [_] U6 ?_
 refine cjS 5 (fun hb2=>?_) fun hb2=>?_
 try simp at hb2
 refine Zb (nx (Zf (Zc (qso tb hJ (r5 [1001]) [_,_] U6 ?_))))
 refine ZG tb hJ (r5 [1007]) [_,_,_,.rd (.lit (.int .u8 ((ge s.data.toList k).toNat:Int))),.at b1 ((ge s.data.toList k).toNat),.rd (.lit (.int .u8 ((ge clsL (ge s.data.toList k).toNat).toNat:Int))),.bool (decide ((ge clsL (ge s.data.toList k).toNat)∈bs)),_] [3,4,5,6] U6 rfl ⟨fun _ _ _ hx hl _=>ZdG (i:=(k:Int)) ZX rfl (hl.D 1 21 rfl rfl) (hl.D 2 22 rfl rfl) (Int.natCast_nonneg _) (ZaK (s:=s) (k:=k) sfz) hx,fun _ _ _ hx hl _=>ZbI (i:=(ge s.data.toList k).toNat) X5 rfl (hl.env 0 5 _ rfl rfl) (hl.D 3 23 rfl rfl) (UInt8.toNat_lt _) hx,fun _ _ _ hx hl _=>Zz one_5 rfl (Zi hx (mo 0 rfl)) (hl.D 4 24 rfl rfl) (Zwo (by rw[Zbm];exact UInt8.toNat_lt _)) hx,iFo hS hJ (Zi3 hJ bs (ge clsL (ge s.data.toList k).toNat)) Zr6,trivial⟩ ?_
 refine cj 5 (fun hb3=>?_) fun hb3=>?_
 try simp at hb3
 refine qso tb hJ [1000] [_] [_] ?_
 exact Ze (Xe (m:=0) rfl rfl (eB (by first | (rw[Zch,if_pos hb1];done) | (rw[Zch,if_neg (by rw[hb1];decide)];symm;exact Zaf (p:=fun c=>decide (Ze2 c∈bs)) hb2 (by simpa [ZgT]using hb3)) | (rw[Zch,if_neg (by rw[hb1];decide)];symm;exact Zga fun j hj=>f1_2 j (by omega)))))
 try simp at hb3
 refine Zb (nx (Yu tb hJ [0,1,2,3,1001] [.int (k+1:Nat),_] [0] U5 rfl ⟨Ya,trivial⟩ ?_))
 exact YH (k+1) (r5 []) ⟨by omega,ZK f1_2 (by simpa [ZgT]using hb3)⟩
 try simp at hb2
 refine Zt (nx (qso tb hJ [1000] [_] [_] ?_))
 exact Ze (Xe (m:=0) rfl rfl (eB (by first | (rw[Zch,if_pos hb1];done) | (rw[Zch,if_neg (by rw[hb1];decide)];symm;exact Zaf (p:=fun c=>decide (Ze2 c∈bs)) hb2 (by simpa [ZgT]using hb3)) | (rw[Zch,if_neg (by rw[hb1];decide)];symm;exact Zga fun j hj=>f1_2 j (by omega)))))
theorem ZcR {J:World→Prop} (hJ:Stab J) (s:BA)  :Fn prog J 76 [.str s] (.bool (QE s)):=by
 refine Zo (N:=6) Tryz.func76 rfl rfl (lb rfl) fun S w0 hS hJ0=>?_
 clear hJ0
 refine qs tb hJ [0] [_] [_] ?_
 refine hqs tb hJ [1001,1003] [_,.rd (u8sC ([(2:UInt8)])),.bool (Zch s ([(2:UInt8)])),_] [1,2] [_,_] rfl ⟨fun _ _ hk hx _ _=>YD ZbQ zero_5 rfl (Rel.of_lit (.int .u8 2)) (hS _ hk.size) (js hJ hx),iFn hS hJ (Ztp hJ s ([(2:UInt8)])) Zlb,trivial⟩ ?_
 refine ln 0 fun hl1=>?_
 exact Ze (rtn (m:=1) rfl rfl (eB (Zn7 s)))
theorem Zdt {J:World→Prop} (hJ:Stab J) (s:BA)  :Fn prog J 74 [.str s] (.bool (Zgl s)):=by
 refine Zo (N:=6) Tryz.func74 rfl rfl (lb rfl) fun S w0 hS hJ0=>?_
 clear hJ0
 refine qs tb hJ [0] [_] [_] ?_
 refine hqs tb hJ [1001,1003] [_,.rd (u8sC ([2,3]:List UInt8)),.bool (Zch s ([2,3]:List UInt8)),_] [1,2] [_,_] rfl ⟨fun a _ hk hx _ _=>XB (k:=2) (us:=[a.eval (.const (.int .u8 2)),a.eval (.const (.int .u8 3))]) ZbQ ZmA rfl (by simp) (Zk (Rel.of_lit (.int .u8 2)) (Zk (Rel.of_lit (.int .u8 3)) ZJ)) rfl (by decide) (by decide) (hS _ hk.size) (js hJ hx),iFn hS hJ (Ztp hJ s ([2,3]:List UInt8)) Zlb,trivial⟩ ?_
 refine ln 0 fun hl1=>?_
 exact Ze (rtn (m:=1) rfl rfl (eB (Zn6 s)))
theorem ZlR {J:World→Prop} (hJ:Stab J) (s:BA):Fn prog J 183 [.str s] (.bool (Y1 s)):=by
 intro S w vs hS hJ0 ha
 simp only[RelL]at ha
 obtain⟨u,us,rfl,h1,rfl⟩:=ha
 rw[h1.lit]
 exact(ZlX s w).mono fun e w' ⟨he,hb⟩=>by
  have hk:Keeps All w w':=(Keeps.of_below hb).sub fun k hk _=>hk
  exact⟨_,he,Rel.of_lit _,hk,hJ w w' hk hJ0⟩
def fm7 (s:Sm):Bool:=((QE s.label&& (decide ((1:Int)≤(s.text.length:Int))&&decide ((s.text.length:Int)≤200)))&&s.text.all Zgl)&&s.proof.all Y1
def wd7 (s:Sm):List BA:=((([s.label]++[⟨#[36,112]⟩]++s.text)++[⟨#[36,61]⟩])++s.proof)++[⟨#[36,46]⟩]
theorem ZhI {J:World→Prop} (hJ:Stab J) (g:FuncId)  :Fn prog J 181 [.lit (.func (.func g) #[] #[])] (.fn 182 [.ptr [.lit (.func (.func g) #[] #[])]]):=by
 refine Zo (N:=4) Tryz.func181 rfl rfl (lb rfl) fun S w0 hS hJ0=>?_
 clear hJ0
 refine hqs tb hJ [1000] [.ptr [.lit (.func (.func g) #[] #[])],_] [0] [_] rfl ⟨fun _ _ hk hx hl _=>Zcl rfl (hl.env 0 0 _ rfl rfl) (hS _ hk.size) (js hJ hx),trivial⟩ ?_
 refine hqs tb hJ [1001] [.fn 182 [.ptr [.lit (.func (.func g) #[] #[])]],_] [0] [_] rfl ⟨fun _ _ _ hx hl _=>XR (caps:=[(.tmp 1)]) rfl (Za (hl.env 0 1 _ rfl rfl) Zh) hx,trivial⟩ ?_
 exact Ze (rtn (m:=0) rfl rfl rfl)
theorem ZfL {J:World→Prop} (hJ:Stab J) (g:FuncId) (p:BA→Bool) (q:BA) (hk0:Zl prog g) (hf:∀ q',Fn prog J g [.str q'] (.bool (p q'))):Fn prog J 182 [.str q,.ptr [.lit (.func (.func g) #[] #[])]] (.bool (!p q)):=by
 refine Zo (N:=8) Tryz.func182 rfl rfl (lb rfl) fun S w0 hS hJ0=>?_
 clear hJ0
 refine qs tb hJ [0,1] [_] [_,_] ?_
 refine hqs tb hJ [1004] [_,_,.bool (p q),_,_] [2] [_] rfl ⟨fun _ _ hk hx hl _=>ZdU ((hf q).r) hk0 rfl (ZoS (hl.D 0 4 rfl rfl)) (nm hS hk) (hx) Zy (Za (hl.D 1 5 rfl rfl) Zh) (js hJ hx),trivial⟩ ?_
 exact Ze (rtn (m:=0) rfl rfl (eB (by first | rfl | grind[Zv])))
theorem ZqU {J:World→Prop} (hJ:Stab J) (s:Sm) (hG:ZaN J) (h7:s.kind=7):Fn prog J 160 [.agg (stC s)] (.bool (fm7 s)):=by
 refine Zo (N:=76) Tryz.func160 rfl rfl (lb rfl) fun S w0 hS hJ0=>?_
 refine tw Z1 ?_
 refine ZG tb hJ [1000] [.ptr (stC s),_] [0] [_] rfl ⟨fun _ _ hk hx hl _=>Yq rfl (hl.env 0 0 _ rfl rfl) (Zp hS _ hk hx _ (Nat.le_refl _)) (jo hJ hx),trivial⟩ ?_
 refine Zf (qso tb hJ [0,1007] U8 [_,_] ?_)
 refine cj 1 (fun hb1=>?_) fun hb1=>?_
 try simp at hb1
 refine qso tb hJ [1000] [_] [_] ?_
 exact Ze (Xe (m:=0) rfl rfl (eB (by first | (exfalso;omega) | (unfold fm7;grind) | (simp only[fm7,List.all_eq_not_any_not];grind))))
 try simp at hb1
 refine Zb (nx (tsq ?_))
 refine snK 2 tb rfl ?_
 refine sy (.at 0 28) (fun h=>ZfI (k:=7) ZbC ZbZ rfl (h.get 0 rfl) (h7) (by decide) h.x) ?_
 refine sy (.agg [lS (⟨#[36,112]⟩:BA),lB true,lI (1:Int),lI (200:Int)]) (fun h=>ZfH ZiB rfl (hG _ (h.x.1)) (h.get 0 rfl) h.x) ?_
 refine Z4 ZcC hJ rfl rfl rfl (lb rfl) fun b1=>?_
 refine ZD (b:=b1) (off:=0) (es:=U4) (news:=U4) hJ hJ0 ZbZ rfl rfl rfl (lb rfl) rfl (fun a w h=>⟨(h.get 0 rfl),(h.get 1 rfl)⟩) ?_
 refine kw (fun h=>YO hS h (m:=0) (s:=3) rfl) ?_
 refine seK [0,5] [_,_] rfl ?_
 refine nx (Zf (ZG tb hJ [1,1033] [_,_,_,_,_,.bool (QE s.label),_,_,_,_,_,_,_,_,_,_,_,_,_,_,_,.int (s.text.length:Nat),_,_,_,_,_,_,_,.int (s.text.length:Nat),_,_,_,_] [5,21,29] [_,_] rfl ⟨iFo hS hJ (ZcR hJ s.label) ZgW,Z2 Zm,Z2 Zm,trivial⟩ ?_))
 refine cj 1 (fun hb2=>?_) fun hb2=>?_
 try simp at hb2
 refine qso tb hJ [1000] [_] [_] ?_
 exact Ze (Xe (m:=0) rfl rfl (eB (by first | (exfalso;omega) | (unfold fm7;grind) | (simp only[fm7,List.all_eq_not_any_not];grind))))
 try simp at hb2
 refine Zb (nx (qso tb hJ [0,1000] [_] [_,_] ?_))
 refine ZG tb hJ [1001,1025] [_,_,_,.fn 182 [.ptr [.lit (.func (.func 74) #[] #[])]],.bool (s.text.any (fun w'=>!Zgl w')),_,_,_,_,_,.fn 182 [.ptr [.lit (.func (.func 183) #[] #[])]],.bool (s.proof.any (fun w'=>!Y1 w')),_,_,_,_,_,_,_,_,_,.int (s.proof.length:Nat),_,_,_,_] [3,4,10,11,21] [_,_] rfl ⟨fun _ _ hk hx hl _=>ZdU ((ZhI hJ 74).r) Zk4 rfl (hl.D 2 53 rfl rfl) (Zp hS _ hk hx) (hx.1) Zy (Za (Zht 74) Zh) (jo hJ hx),fun _ w hk hx hl _=>Xq (YY hJ s.text 182 [.ptr [.lit (.func (.func 74) #[] #[])]] [] (fun w'=>!Zgl w') (fun q'=>(ZfL hJ 74 Zgl q' Zjx fun z'=>Zdt hJ z').r) (Zk3)) Ze6 rfl (Zp hS _ hk hx) (hx.1) Zy (Za (hl.D 1 52 rfl rfl) (Za (hl.D 3 54 rfl rfl) Zh)) (jo hJ hx),fun _ _ hk hx hl hc=>ZdU ((ZhI hJ 183).r) Zk4 rfl (hl.D 9 60 rfl hc) (Zp hS _ hk hx) (hx.1) Zy (Za (Zht 183) Zh) (jo hJ hx),fun _ w hk hx hl hc=>Xq (YY hJ s.proof 182 [.ptr [.lit (.func (.func 183) #[] #[])]] [] (fun w'=>!Y1 w') (fun q'=>(ZfL hJ 183 Y1 q' ZrP fun z'=>ZlR hJ z').r) (Zk3)) Ze6 rfl (Zp hS _ hk hx) (hx.1) Zy (Za (hl.D 8 59 rfl hc) (Za (hl.D 10 61 rfl hc) Zh)) (jo hJ hx),Z2 Zm,trivial⟩ ?_
 refine ln 0 fun hl1=>?_
 exact Ze (Xe (m:=1) rfl rfl (eB (by first | (exfalso;omega) | (unfold fm7;grind) | (simp only[fm7,List.all_eq_not_any_not];grind))))
theorem ZqW {J:World→Prop} (hJ:Stab J) (s:Sm) (hG:ZaN J) (h7:s.kind=7):Fn prog J 159 [.agg (stC s)] (.bool (!fm7 s)):=by
 refine Zo (N:=6) Tryz.func159 rfl rfl (lb rfl) fun S w0 hS hJ0=>?_
 refine tw Z1 ?_
 refine ZG tb hJ [1000] [.ptr (stC s),_] [0] [_] rfl ⟨fun _ _ hk hx hl _=>Yq rfl (hl.env 0 0 _ rfl rfl) (Zp hS _ hk hx _ (Nat.le_refl _)) (jo hJ hx),trivial⟩ ?_
 refine ZG tb hJ [1003] [_,.bool (fm7 s),_,_] [1] [_] rfl ⟨iFo hS hJ (ZqU hJ s (hG) (h7)) Zr1,trivial⟩ ?_
 exact Ze (Xe (m:=0) rfl rfl (eB (by first | rfl | grind[Zv])))
theorem ZhL {J:World→Prop} (hJ:Stab J) (xs:List Sm) (f:FuncId) (caps:List AV) (Os:List OB) (p:Sm→Bool) (hf:∀ q'∈xs,FnR prog J f Os ([.agg (stC (q'))]++caps) (.bool (p q'))) (hk0:Zl prog f):FnR prog J 180 Os [.rd (stsC xs),.fn f caps] (.int (Yp p xs)):=by
 refine Yo (N:=19) Tryz.func180 rfl rfl (lb rfl) fun S w0 hS hJ0 hH=>?_
 clear hJ0
 refine ln 0 fun hl1=>?_
 refine qs tb hJ [0,1] [_] [_,_] ?_
 refine Zf (hqs tb hJ [0,1,1001,1002] [_,.int (xs.length:Nat),_] [1] U4 rfl ⟨Z2 Zbz,trivial⟩ ?_)
 refine Zc (lp (ι:=Nat) (fun k=>(k≤xs.length)∧(∀ j,j<k→p (ge xs j)=false)) (fun k=>[(8,.int (k:Nat))]) (fun k=>xs.length-k) [0,1,2,3] U3 0 ⟨Nat.zero_le _,fun j hj=>by omega⟩ ?_)
 rintro k ⟨f1_1,f1_2⟩
 refine qs tb hJ [0,1,2,3,1000] [_] U5 ?_
 refine cjS 4 (fun hb1=>?_) fun hb1=>?_
 try simp at hb1
 refine Zb (nx (Zf (Zc (qs tb hJ [0,1,2,3,1001] [_,_] U5 ?_))))
 refine hqs tb hJ (r5 [1005]) [_,_,_,.ptr (stC (ge xs k)),_,.bool (p (ge xs k))] [3,5] U6 rfl ⟨iIx ZaP,fun _ _ hk hx hl _=>ZdU (hf (ge xs k) (Zv (by omega))) hk0 rfl (hl.D 0 11 rfl rfl) (nm hS hk) (hx) (fun _ ho=>Xl hH hk ho) (Za (hl.D 4 15 rfl rfl) Zh) (js hJ hx),trivial⟩ ?_
 refine cj 5 (fun hb2=>?_) fun hb2=>?_
 try simp at hb2
 refine qs tb hJ [1001] [_,_] [_] ?_
 exact Ze (rtn (m:=0) rfl rfl (eI (by first | exact(Xf hb1 hb2 f1_2).symm | exact(YT fun j hj=>f1_2 j (by omega)).symm)))
 try simp at hb2
 refine Zb (nx (hqp tb hJ [0,1,2,1001] [.int (k+1:Nat),_] [0] U4 rfl ⟨Ya,trivial⟩ ?_))
 exact lpE (k+1) [0,1,2,3] ⟨by omega,ZK f1_2 hb2⟩
 try simp at hb1
 refine Zt (nx (qs tb hJ [1000] [_] [_] ?_))
 exact Ze (rtn (m:=0) rfl rfl (eI (by first | exact(Xf hb1 hb2 f1_2).symm | exact(YT fun j hj=>f1_2 j (by omega)).symm)))
theorem Zew {J:World→Prop} (hJ:Stab J) (xs:List Sm) (f:FuncId) (caps:List AV) (Os:List OB) (p:Sm→Bool) (hf:∀ q'∈xs,FnR prog J f Os ([.agg (stC (q'))]++caps) (.bool (p q'))) (hk0:Zl prog f):FnR prog J 158 Os [.rd (stsC xs),.fn f caps] (.bool (xs.any p)):=by
 refine Yo (N:=9) Tryz.func158 rfl rfl (lb rfl) fun S w0 hS hJ0 hH=>?_
 clear hJ0
 refine ln 0 fun hl1=>?_
 refine qs tb hJ [0,1] [_] [_,_] ?_
 refine hqs tb hJ [1004] [_,_,.int (Yp p xs),_,_] [2] [_] rfl ⟨fun _ _ hk hx hl _=>Xq (ZhL hJ xs f caps Os p (hf) (hk0)) ZrQ rfl (nm hS hk) (hx) (fun _ ho=>Xl hH hk ho) (Za (hl.D 0 5 rfl rfl) (Za (hl.D 1 6 rfl rfl) Zh)) (js hJ hx),trivial⟩ ?_
 exact Ze (rtn (m:=0) rfl rfl (eB (by rw[←Zb6])))
theorem ZnO {J:World→Prop} (hJ:Stab J) (s:Sm) (hG:ZaN J) (h7:s.kind=7) (hl:s.text.length+s.proof.length≤100):Fn prog J 161 [.agg (stC s)] (.rd (Zg (wd7 s))):=by
 refine Zo (N:=40) Tryz.func161 rfl rfl (lb rfl) fun S w0 hS hJ0=>?_
 refine tw Z1 ?_
 refine ZG tb hJ [1000] [.ptr (stC s),_] [0] [_] rfl ⟨fun _ _ hk hx hl _=>Yq rfl (hl.env 0 0 _ rfl rfl) (Zp hS _ hk hx _ (Nat.le_refl _)) (jo hJ hx),trivial⟩ ?_
 refine tsq ?_
 refine snK 2 tb rfl ?_
 refine sy (.at 0 28) (fun h=>ZfI (k:=7) ZbC ZbZ rfl (h.get 0 rfl) (h7) (by decide) h.x) ?_
 refine sy (.agg [lS (⟨#[36,112]⟩:BA),lB true,lI (1:Int),lI (200:Int)]) (fun h=>ZfH ZiB rfl (hG _ (h.x.1)) (h.get 0 rfl) h.x) ?_
 refine Z4 ZcC hJ rfl rfl rfl (lb rfl) fun b1=>?_
 refine ZD (b:=b1) (off:=0) (es:=U4) (news:=U4) hJ hJ0 ZbZ rfl rfl rfl (lb rfl) rfl (fun a w h=>⟨(h.get 0 rfl),(h.get 1 rfl)⟩) ?_
 refine kw (fun h=>YO hS h (m:=0) (s:=3) rfl) ?_
 refine seK [0,5] [_,_] rfl ?_
 refine nx (qso tb hJ [0,1,1000] [_] U3 ?_)
 refine Zf (qso tb hJ [0,1,2,1001] [_,_] U4 ?_)
 refine cj 3 (fun hb1=>?_) fun hb1=>?_
 ·
  refine tw (YV 9 1 hJ) ?_
  refine ZE (snK 3 tb rfl ?_)
  refine sy (.rd (Zg ([s.label]))) (fun h=>YD Zd ZaT rfl (h.get 0 rfl) (Zp hS _ h.keep h.x _ (Nat.le_refl _)) (jo hJ h.x)) ?_
  refine ZR (f:=Zad) (m:=3) (s:=11) ([]:List BA) ([s.label]) (fun _=>rfl) Xh hJ hJ0 rfl rfl rfl (lb rfl) rfl rfl (fun a w h=>(h.get 0 rfl)) (by first | omega | (simp;done) | (simp;omega)) (by first | omega | (simp;done) | (simp;omega)) fun v2=>?_
  refine snK 1 tb rfl ?_
  refine seK [0,2,6,7] U4 rfl ?_
  refine nx (ln 1 fun hl1=>?_)
  refine Zf (fun a w h=>X1 [] (γ:=Value×Value) (fun ix'=>([.lit v2,.ptr [lS (⟨#[36,112]⟩:BA),lB true,lI (1:Int),lI (200:Int)],.str (⟨#[36,112]⟩:BA),.rd (Zg ([(⟨#[36,112]⟩:BA)])),.any,.ptr [Zg s.text,Zg s.proof],.rd (Zg s.text),.any,.any]:List AV).getD ix' .any) (fun _=>true) [(3,fun(g:Value×Value)=>.ptr [lS (⟨#[36,112]⟩:BA),lB true,lI (1:Int),lI (200:Int)]),(1,fun(g:Value×Value)=>.ptr (stC s)),(4,fun(g:Value×Value)=>.lit g.2)] (fun(j':Nat) (g:Value×Value)=>match j' with | 0=>[OB.row v2 9 1 ((([]:List BA)++([s.label])).map Zad)] | 1=>[OB.row g.1 9 1 (((([]:List BA)++([s.label]))++([(⟨#[36,112]⟩:BA)])).map Zad)] | 2=>[OB.row g.2 9 1 ((((([]:List BA)++([s.label]))++([(⟨#[36,112]⟩:BA)]))++s.text).map Zad)] | _=>[OB.row g.2 9 1 ((((([]:List BA)++([s.label]))++([(⟨#[36,112]⟩:BA)]))++s.text).map Zad)]) (fun(k':Nat) (g:Value×Value)=>match k' with | 0=>g.1 | 1=>g.2 | 2=>g.2 | _=>undef) [4,7,8] 3 ((.slice none 0 0),(.slice none 0 0)) (fun _=>rfl) h hJ YC rfl rfl rfl rfl rfl rfl hsb ⟨?_,⟨?_,⟨?_,⟨?_,⟨?_,⟨?_,⟨?_,⟨?_,⟨?_,trivial⟩⟩⟩⟩⟩⟩⟩⟩⟩ ⟨?e5_1_0,⟨?e5_1_1,⟨?e5_1_2,trivial⟩⟩⟩ ⟨.old 2 3 _ rfl rfl,⟨.old 3 1 _ rfl rfl,⟨.eff 2 8 4 (fun(g:Value×Value)=>g.2) rfl rfl (fun _=>rfl) (fun _ _ hx=>Zan (hx.2.1 _ (mo 0 rfl))),trivial⟩⟩⟩ ?n5_1)
  exact oX rfl fun hx hl=>Z5 rfl (hl.env 0 4 _ rfl rfl) hx
  exact oX rfl fun hx hl=>ZQ Zjk rfl (hl.env 2 3 _ rfl rfl) hx
  exact oX rfl fun hx hl=>ZI QP rfl (hl.D 1 17 rfl rfl) hx
  exact oY rfl fun hk hx hl=>YD Zd ZaT rfl (hl.D 2 18 rfl rfl) (Zp hS _ hk hx _ (Nat.le_refl _)) (jo hJ hx)
  exact Zn rfl
  exact oX rfl fun hx hl=>ZQ Zjm rfl (hl.env 3 1 _ rfl rfl) hx
  exact oX rfl fun hx hl=>ZI XI rfl (hl.D 5 21 rfl rfl) hx
  exact Zn rfl
  exact Zn rfl
  case e5_1_0=>exact⟨_,rfl,rfl,rfl,rfl,fun g _ w hk hx hl _=>ZB (Qp (f:=Zad) (([]:List BA)++([s.label])) ([(⟨#[36,112]⟩:BA)]) (fun _=>rfl) Xh hJ hJ0 rfl hk hx (hl.D 0 16 rfl rfl).lit (hl.D 3 19 rfl rfl) (by first | omega | (simp;done) | (simp;omega)) (by first | omega | (simp;done) | (simp;omega))) fun v w' hp=>⟨(v,g.2),rfl,fun k' hk'=>absurd hk' (Nat.not_lt_zero _),fun _=>rfl,hp⟩⟩
  case e5_1_1=>exact⟨_,rfl,rfl,rfl,rfl,fun g _ w hk hx hl hs=>ZB (Qp (f:=Zad) ((([]:List BA)++([s.label]))++([(⟨#[36,112]⟩:BA)])) s.text (fun _=>rfl) Xh hJ hJ0 rfl hk hx (hs 0 4 _ 20 (by omega) rfl rfl rfl) (hl.D 6 22 rfl rfl) (by first | omega | (simp;done) | (simp;omega)) (by first | omega | (simp;done) | (simp;omega))) fun v w' hp=>⟨(g.1,v),rfl,fun k' hk'=>by rcases k' with _ | _ | _ | k'<;>first | rfl | omega,fun _=>rfl,hp⟩⟩
  case e5_1_2=>exact⟨_,rfl,rfl,rfl,rfl,fun g _ w hk hx _ hs=>ZB (Zbk (.inl rfl) (hs 1 7 _ 23 (by omega) rfl rfl rfl) hk hx) fun v w' hp=>⟨g,rfl,fun _ _=>rfl,fun _=>hp.1,hp.2⟩⟩
  clear a w h
  rintro⟨v3,v4⟩
  dsimp only[List.map]
  refine nx (Zf (qso tb hJ [0,1,2,1002] U3 U4 ?_))
  refine cj 3 (fun hb2=>?_) fun hb2=>?_
  ·
   refine fun a w h=>X1 [] (γ:=Value×Value) (fun ix'=>([.lit v4,.rd (Zg ([(⟨#[36,61]⟩:BA)])),.any,.ptr [Zg s.proof],.rd (Zg s.proof),.any,.any]:List AV).getD ix' .any) (fun _=>true) [(3,fun(g:Value×Value)=>.ptr [lS (⟨#[36,112]⟩:BA),lB true,lI (1:Int),lI (200:Int)]),(4,fun(g:Value×Value)=>.lit g.2)] (fun(j':Nat) (g:Value×Value)=>match j' with | 0=>[OB.row v4 9 1 ((((([]:List BA)++([s.label]))++([(⟨#[36,112]⟩:BA)]))++s.text).map Zad)] | 1=>[OB.row g.1 9 1 (((((([]:List BA)++([s.label]))++([(⟨#[36,112]⟩:BA)]))++s.text)++([(⟨#[36,61]⟩:BA)])).map Zad)] | 2=>[OB.row g.2 9 1 ((((((([]:List BA)++([s.label]))++([(⟨#[36,112]⟩:BA)]))++s.text)++([(⟨#[36,61]⟩:BA)]))++s.proof).map Zad)] | _=>[OB.row g.2 9 1 ((((((([]:List BA)++([s.label]))++([(⟨#[36,112]⟩:BA)]))++s.text)++([(⟨#[36,61]⟩:BA)]))++s.proof).map Zad)]) (fun(k':Nat) (g:Value×Value)=>match k' with | 0=>g.1 | 1=>g.2 | 2=>g.2 | _=>undef) [2,5,6] 3 ((.slice none 0 0),(.slice none 0 0)) (fun _=>rfl) h hJ YC rfl rfl rfl rfl rfl rfl hsb ⟨?_,⟨?_,⟨?_,⟨?_,⟨?_,⟨?_,⟨?_,trivial⟩⟩⟩⟩⟩⟩⟩ ⟨?e7_2_0,⟨?e7_2_1,⟨?e7_2_2,trivial⟩⟩⟩ ⟨.old 0 3 _ rfl rfl,⟨.eff 2 6 4 (fun(g:Value×Value)=>g.2) rfl rfl (fun _=>rfl) (fun _ _ hx=>Zan (hx.2.1 _ (mo 0 rfl))),trivial⟩⟩ ?n7_2
   exact oX rfl fun hx hl=>Z5 rfl (hl.env 2 4 _ rfl rfl) hx
   exact fun _ O' _=>⟨rfl,fun _ _ hk hx _ _=>YD Zd ZaT rfl (Rel.of_lit (.string { data:= #[36,61] }) (lb rfl)) (Zp hS _ hk hx _ (Nat.le_refl _)) (jo hJ hx)⟩
   exact Zn rfl
   exact oX rfl fun hx hl=>ZQ Zjl rfl (hl.env 1 1 _ rfl rfl) hx
   exact oX rfl fun hx hl=>ZI XI rfl (hl.D 3 30 rfl rfl) hx
   exact Zn rfl
   exact Zn rfl
   case e7_2_0=>exact⟨_,rfl,rfl,rfl,rfl,fun g _ w hk hx hl _=>ZB (Qp (f:=Zad) (((([]:List BA)++([s.label]))++([(⟨#[36,112]⟩:BA)]))++s.text) ([(⟨#[36,61]⟩:BA)]) (fun _=>rfl) Xh hJ hJ0 rfl hk hx (hl.D 0 27 rfl rfl).lit (hl.D 1 28 rfl rfl) (by first | omega | (simp;done) | (simp;omega)) (by first | omega | (simp;done) | (simp;omega))) fun v w' hp=>⟨(v,g.2),rfl,fun k' hk'=>absurd hk' (Nat.not_lt_zero _),fun _=>rfl,hp⟩⟩
   case e7_2_1=>exact⟨_,rfl,rfl,rfl,rfl,fun g _ w hk hx hl hs=>ZB (Qp (f:=Zad) ((((([]:List BA)++([s.label]))++([(⟨#[36,112]⟩:BA)]))++s.text)++([(⟨#[36,61]⟩:BA)])) s.proof (fun _=>rfl) Xh hJ hJ0 rfl hk hx (hs 0 2 _ 29 (by omega) rfl rfl rfl) (hl.D 4 31 rfl rfl) (by first | omega | (simp;done) | (simp;omega)) (by first | omega | (simp;done) | (simp;omega))) fun v w' hp=>⟨(g.1,v),rfl,fun k' hk'=>by rcases k' with _ | _ | _ | k'<;>first | rfl | omega,fun _=>rfl,hp⟩⟩
   case e7_2_2=>exact⟨_,rfl,rfl,rfl,rfl,fun g _ w hk hx _ hs=>ZB (Zbk (.inl rfl) (hs 1 5 _ 32 (by omega) rfl rfl rfl) hk hx) fun v w' hp=>⟨g,rfl,fun _ _=>rfl,fun _=>hp.1,hp.2⟩⟩
   clear a w h
   rintro⟨v5,v6⟩
   dsimp only[List.map]
   refine nx (Zf (qso tb hJ [1,1002] U3 [_,_] ?_))
   refine cj 1 (fun hb3=>?_) fun hb3=>?_
   ·
    refine ZE (snK 1 tb rfl ?_)
    refine sy (.rd (Zg ([(⟨#[36,46]⟩:BA)]))) (fun h=>YD Zd ZaT rfl (Rel.of_lit (.string { data:= #[36,46] }) (lb rfl)) (Zp hS _ h.keep h.x _ (Nat.le_refl _)) (jo hJ h.x)) ?_
    refine ZR (f:=Zad) (m:=1) (s:=36) (((((([]:List BA)++([s.label]))++([(⟨#[36,112]⟩:BA)]))++s.text)++([(⟨#[36,61]⟩:BA)]))++s.proof) ([(⟨#[36,46]⟩:BA)]) (fun _=>rfl) Xh hJ hJ0 rfl rfl rfl (lb rfl) rfl rfl (fun a w h=>(h.get 0 rfl)) (by first | omega | (simp;done) | (simp;omega)) (by first | omega | (simp;done) | (simp;omega)) fun v7=>?_
    refine snK 1 tb rfl ?_
    refine seK [0,2] [_,_] rfl ?_
    refine nx (ln 1 fun hl2=>?_)
    refine qso tb hJ [1001] [_,_] [_] ?_
    refine tw (fun h=>ZN hS h (m:=0) (s:=2) rfl) ?_
    exact Ze (Xe (m:=0) rfl rfl (congrArg (fun z=>AV.rd (Zg z)) (show((((((([]:List BA)++([s.label]))++([(⟨#[36,112]⟩:BA)]))++s.text)++([(⟨#[36,61]⟩:BA)]))++s.proof)++([(⟨#[36,46]⟩:BA)]))=(wd7 s)from by simp[wd7])))
   ·
    exact False.elim (by simp at hb3)
  ·
   exact False.elim (by simp[h7]at hb2)
 ·
  exact False.elim (by cases hb1)
theorem ZmF (s:Sm):(wd7 s).length=s.text.length+s.proof.length+4:=by simp[wd7];omega
theorem ZuJ {J:World→Prop} (hJ:Stab J) (l:List Sm) (hG:ZaN J) (h1:l.length=1) (h7:(ge l 0).kind=7) (hl:(ge l 0).text.length+(ge l 0).proof.length≤100):Fn prog J 131 [.rd (stsC l)] (.tup [.rd (Zg (if fm7 (ge l 0)then wd7 (ge l 0)else [])),.int (if fm7 (ge l 0)then 0 else 2:Int)]):=by
 refine Zo (N:=27) Tryz.func131 rfl rfl (lb rfl) fun S w0 hS hJ0=>?_
 refine tw Z1 ?_
 refine ln 0 fun hl1=>?_
 refine qso tb hJ [0] [_,_] [_] ?_
 refine Zf (ZG tb hJ [0,1002] [_,.int (l.length:Nat),_] [1] [_,_] rfl ⟨Z2 Zbz,trivial⟩ ?_)
 refine cj 1 (fun hb1=>?_) fun hb1=>?_
 exact False.elim (by rw[h1]at hb1;exact absurd hb1 (by decide))
 refine Zb (nx (Zf (ZG tb hJ [0,1001] [_,.bool (l.any (fun s'=>!fm7 s'))] [1] [_,_] rfl ⟨fun _ _ hk hx hl _=>Xq (Zew hJ l 159 [] [] (fun s'=>!fm7 s') (fun q' hq'=>(ZqW hJ q' hG (by obtain⟨j,hj,rfl⟩:=Xj hq';obtain rfl:j=0:=(by omega);exact h7)).r) (Zr2)) Zr3 rfl (Zp hS _ hk hx) (hx.1) Zy (Za (hl.D 0 10 rfl rfl) (Za (ZaC 159) Zh)) (jo hJ hx),trivial⟩ ?_)))
 refine cj 1 (fun hb2=>?_) fun hb2=>?_
 have e2:fm7 (ge l 0)=false:=by obtain⟨x,hx,hn⟩:=List.any_eq_true.1 hb2;obtain⟨q,hq,rfl⟩:=Xj hx;obtain rfl:q=0:=(by omega);simpa using hn
 refine qso tb hJ [1000,1001] [_,_] [_,_] ?_
 refine tw (fun h=>Z3 h (m:=0) (s:=2) rfl) ?_
 exact Ze (fun a w h=>YM (m:=0) (k:=1) rfl (ZP h) rfl rfl (congrArg (fun z=>AV.rd (Zg z)) (show([]:List BA)=(if fm7 (ge l 0)then wd7 (ge l 0)else [])from by first | (rw[e2];rfl) | (rw[f1_2,if_neg (by omega),e2];rfl))) (eI (by first | (rw[e2];rfl) | (rw[f1_2,if_neg (by omega),e2];rfl))))
 have e2:fm7 (ge l 0)=true:=by have:=List.any_eq_false.1 hb2 (ge l 0) (Zv (by omega));simpa using this
 refine Zb (nx (qso tb hJ [0,1000] [_] [_,_] ?_))
 refine Zf (ZG tb hJ [1,1000,1001,1002] [_,.int (l.length:Nat),_] [1] U4 rfl ⟨Z2 Zbz,trivial⟩ ?_)
 refine Zc (tw (YV 9 1 hJ) ?_)
 refine lpo (ι:=Nat×Value×(List BA)) (fun(k,_,out)=>(k≤l.length)∧(out=if k=0 then []else wd7 (ge l 0))) (fun(_,vo,out)=>[OB.row vo 9 1 (out.map Zad)]) (fun(k,vo,_)=>[(14,.int (k:Nat)),(4,.lit vo)]) (fun(k,_,_)=>l.length-k) [1,2,3,0] [_,_] (0,(.slice none 0 0),([]:List BA)) ⟨Nat.zero_le _,rfl⟩ ?_
 rintro⟨k,vo,out⟩ ⟨f1_1,f1_2⟩
 refine qso tb hJ [0,1,2,3,1000] [_] U5 ?_
 refine cjS 4 (fun hb3=>?_) fun hb3=>?_
 try simp at hb3
 have e0:k=0:=by omega
 have e1:k=0→out=[]:=fun e=>by rw[f1_2,if_pos e]
 have e5:=ZmF (ge l k)
 refine Zb (nx (Zf (Zc (tsq ?_))))
 refine sy (.ptr (stC (ge l k))) (fun h=>ZO (i:=(k:Int)) ZaP rfl (h.get 0 rfl) (h.get 2 rfl) (Int.natCast_nonneg _) (ZU (xs:=l) (k:=k) sfz) rfl h.x) ?_
 refine snK 1 tb rfl ?_
 refine XZ (cs:=stC (ge l k)) ZmK rfl rfl rfl (lb rfl) rfl rfl rfl (by decide) (m:=0) rfl rfl (fun a w h=>Zp hS _ h.keep h.x _ (Nat.le_refl _)) (fun a w h w' hk'=>Yz hJ _ _ hk' h.x) ?_
 refine seK [0,3,4,5,6] U5 rfl ?_
 refine nx (tsq ?_)
 refine snK 2 tb rfl ?_
 refine sy (.rd (Zg (wd7 (ge l k)))) (fun h=>Zbw (ZnO hJ (ge l k) (hG) (by rw[e0];exact h7) (by rw[e0];exact hl)) Zr0 rfl (Zp hS _ h.keep h.x) (h.x.1) (Za (h.get 0 rfl) Zh) (jo hJ h.x)) ?_
 refine ZR (f:=Zad) (m:=2) (s:=18) out (wd7 (ge l k)) (fun _=>rfl) Xh hJ hJ0 rfl rfl rfl (lb rfl) rfl rfl (fun a w h=>(h.get 0 rfl)) (by rw[e1 e0,e5,e0];simp only[List.length_nil];omega) (by rw[e1 e0,e5,e0];simp only[List.length_nil];omega) fun v1=>?_
 refine snK 1 tb rfl ?_
 refine seK [0,2,6,7,8] U5 rfl ?_
 refine nx (ln 1 fun hl2=>?_)
 refine ZoI tb hJ [0,2,3,4,1002] [_,.int ((out++(wd7 (ge l k))).length:Nat),_] [1] U5 rfl ⟨fun _ _ _ hx hl _=>ZaD Zm rfl (Qn hS hx (mo 0 rfl) (hl.D 0 22 rfl rfl)) hx,trivial⟩ ?_
 refine cj 4 (fun hb4=>?_) fun hb4=>?_
 exact False.elim (by have:=ZmF (ge l k);rw[e0]at this;simp only[List.length_append,e1 e0,e0,decide_eq_true_eq]at hb4;simp at hb4;omega)
 refine Zb (nx (Yu tb hJ [0,1,2,1001] [.int (k+1:Nat),_] [0] U4 rfl ⟨Ya,trivial⟩ ?_))
 exact YH (k+1,v1,out++(wd7 (ge l k))) [1,2,3,0] ⟨by omega,by rw[e1 e0,e0];simp⟩
 try simp at hb3
 refine Zt (nx (qso tb hJ [1001,1002] U3 [_,_] ?_))
 refine tw (fun h=>ZN hS h (m:=0) (s:=2) rfl) ?_
 exact Ze (fun a w h=>YM (m:=0) (k:=1) rfl (ZP h) rfl rfl (congrArg (fun z=>AV.rd (Zg z)) (show out=(if fm7 (ge l 0)then wd7 (ge l 0)else [])from by first | (rw[e2];rfl) | (rw[f1_2,if_neg (by omega),e2];rfl))) (eI (by first | (rw[e2];rfl) | (rw[f1_2,if_neg (by omega),e2];rfl))))
theorem fm7_x (s:BA):fm7 ⟨7,⟨#[120]⟩,[⟨#[120]⟩],[s]⟩=Y1 s:=by
 have h1:QE ⟨#[120]⟩=true:=by decide+kernel
 have h2:Zgl ⟨#[120]⟩=true:=by decide+kernel
 simp[fm7,h1,h2]
theorem ZnV {J:World→Prop} (hJ:Stab J) (s:BA) (hG:ZaN J):Fn prog J 82 [.str s] (.bool (Y1 s)):=by
 refine Zo (N:=16) Tryz.func82 rfl rfl (lb rfl) fun S w0 hS hJ0=>?_
 refine tw Z1 ?_
 refine qso tb hJ [0] [_] [_] ?_
 refine ZG tb hJ [1000,1002,1004,1007,1009,1010] [.rd (Zg ([(⟨#[120]⟩:BA)])),_,.rd (Zg ([s])),.agg (stC (⟨(7:Int),(⟨#[120]⟩:BA),[(⟨#[120]⟩:BA)],[s]⟩:Sm)),.rd (stsC ([(⟨(7:Int),(⟨#[120]⟩:BA),[(⟨#[120]⟩:BA)],[s]⟩:Sm)])),.tup [.rd (Zg (if fm7 (ge ([(⟨(7:Int),(⟨#[120]⟩:BA),[(⟨#[120]⟩:BA)],[s]⟩:Sm)]) 0)then wd7 (ge ([(⟨(7:Int),(⟨#[120]⟩:BA),[(⟨#[120]⟩:BA)],[s]⟩:Sm)]) 0)else [])),.int (if fm7 (ge ([(⟨(7:Int),(⟨#[120]⟩:BA),[(⟨#[120]⟩:BA)],[s]⟩:Sm)]) 0)then 0 else 2:Int)],_,_,_,_,_] [0,2,3,4,5] U6 rfl ⟨fun _ _ hk hx _ _=>YD Zd ZaT rfl (Rel.of_lit (.string { data:= #[120] }) (lb rfl)) (Zp hS _ hk hx _ (Nat.le_refl _)) (jo hJ hx),fun _ _ hk hx hl _=>YD Zd ZaT rfl (hl.D 1 7 rfl rfl) (Zp hS _ hk hx _ (Nat.le_refl _)) (jo hJ hx),fun a _ _ hx hl _=>Xr (us:=[a.eval (.const (.int .i64 7)),a.eval (.const (.string { data:= #[120] })),a.eval (.tmp 6),a.eval (.tmp 8)]) ZjE rfl (by simp) (Zk (Rel.of_lit (.int .i64 7)) (Zk (Rel.of_lit (.string { data:= #[120] }) (lb rfl)) (Zk (hl.D 0 6 rfl rfl) (Zk (hl.D 2 8 rfl rfl) ZJ)))) rfl hx,fun _ _ hk hx hl _=>Zeu ZaP Zp5 rfl rfl (hl.D 3 9 rfl rfl) (Zp hS _ hk hx _ (Nat.le_refl _)) (jo hJ hx),iFo hS hJ (ZuJ hJ ([(⟨(7:Int),(⟨#[120]⟩:BA),[(⟨#[120]⟩:BA)],[s]⟩:Sm)]) (hG) (rfl) (rfl) (lb rfl)) Zsp,trivial⟩ ?_
 refine ln 0 fun hl1=>?_
 refine ln 1 fun hl2=>?_
 refine ln 2 fun hl3=>?_
 refine ln 3 fun hl4=>?_
 refine qso tb hJ [1002] U3 [_] ?_
 exact Ze (Xe (m:=0) rfl rfl (eB (by rw[←fm7_x s];simp only[ge,List.getD_cons_zero];cases fm7 ⟨7,⟨#[120]⟩,[⟨#[120]⟩],[s]⟩<;>simp)))
end Go.Proofs.YtneapgbkkkjagaaGreatDoor
namespace Go.Proofs.YtneapgbkkkjagaaGreatDoor
theorem Ztb {d:Db} {k:Nat} {e:Int} (hk:k<d.consts.length) (h:∀ j,j<k→Zft d j=0) (h0:Zft d k≠0) (he:Zft d k=e):Zbo d=e:=by
 have:=Ys hk h h0
 rw[Zbo,this,he]
 rw[he]at h0
 simp[h0]
theorem Zta {d:Db} {k:Nat} {e:Int} (h1:Xu d.consts.length (Zft d)=0) (hk:k<d.vars.length) (h:∀ j,j<k→Zgh d j=0) (h0:Zgh d k≠0) (he:Zgh d k=e):Zbo d=e:=by
 rw[Zbo,h1,Ys hk h h0,he];rfl
theorem Zt6 {d:Db} (h1:Xu d.consts.length (Zft d)=0) (h2:Xu d.vars.length (Zgh d)=0):Zbo d=0:=by
 rw[Zbo,h1,h2];rfl
theorem ZaI {α:Type} (ls:List (List α)) (k:Nat):(ls.take k).flatten.length≤ls.flatten.length:=by
 have h:ls.flatten=(ls.take k).flatten++(ls.drop k).flatten:=by rw[←List.flatten_append,List.take_append_drop]
 rw[h,List.length_append];omega
theorem Zo4 {ts:List (BA×BA)} {vis:List BA} {k:BA} (h1:vis.Nodup) (h2:∀ q∈vis,q∈ts.map (·.1)) (h3:k∉vis∧(ZZ ts k).isSome=true):ts.length-(vis++[k]).length<ts.length-vis.length:=by
 have hk:k∈ts.map (·.1):=by have:=h3.2;rw[X8]at this;simpa using this
 have hn:(vis++[k]).Nodup:=by
  rw[List.nodup_append]
  exact⟨h1,by simp,fun x hx y hy e=>by rw[List.mem_singleton.1 hy]at e;subst e;exact h3.1 hx⟩
 have:=Zb3 (ys:=ts.map (·.1)) hn fun x hx=>by
  rcases List.mem_append.1 hx with h | h
  · exact h2 x h
  · rw[List.mem_singleton.1 h];exact hk
 simp at this ⊢
 omega
theorem Zo3 {ts tm tn:List (BA×BA)} {vis:List BA} {k:BA} (h1:∀ q,ZZ tn q=if q∈vis then ZZ ts q else ZZ tm q) (h3:k∉vis∧(ZZ ts k).isSome=true):∀ q,ZZ (Za7 tn k ((ZZ ts k).getD default)) q=if q∈vis++[k]then ZZ ts q else ZZ tm q:=fun q=>by
 obtain⟨v,hv⟩:=Option.isSome_iff_exists.1 h3.2
 rw[Zb4]
 by_cases e:q=k
 · subst e;simp[hv]
 · rw[if_neg e,h1 q]
   simp[e]
def Zky (vs:List BA) (f:Fr):List BA:=Q7 vs (f.text::(YX f.hyps).map Hy.text).flatten
def Zl2 (m:List BA) (h:Hy):Bool:=!h.floating||decide (ge h.text 1∈m)
def Zp1 (vs:List BA) (wide:List Pr) (i:Nat):Bool:=((!Op.bytesLess (ge wide i).a.toList (ge wide i).b.toList|| !decide ((ge wide i).a∈vs))|| !decide ((ge wide i).b∈vs))|| (decide ((0:Int)< ((i:Nat):Int))&&decide ((0:Int)≤Zil (ge wide (((i:Nat):Int)-1).toNat) (ge wide i)))
def Zte (vs:List BA) (f:Fr):Bool:=
 ((f.hyps.all (Zl2 (Zky vs f))&&decide ((ZdE f.hyps).length=(Zky vs f).length))&& (List.range f.wide.length).all fun i=>!Zp1 vs f.wide i)&&decide (f.apart=f.wide.filter (inV (Zky vs f)))
def Zfn (vs:List BA) (f:Fr):Int:=if Zte vs f then 0 else 70
theorem setE_h {vs:List BA} {f:Fr} (h:f.hyps.all (Zl2 (Zky vs f))=false):Zfn vs f=70:=by simp[Zfn,Zte,h]
theorem setE_n {vs:List BA} {f:Fr} (h:¬ (ZdE f.hyps).length=(Zky vs f).length):Zfn vs f=70:=by simp[Zfn,Zte,h]
theorem setE_w {vs:List BA} {f:Fr} {k:Nat} (hk:k<f.wide.length) (h:Zp1 vs f.wide k=true):Zfn vs f=70:=by
 have:((List.range f.wide.length).all fun i=>!Zp1 vs f.wide i)=false:=by
  rw[List.all_eq_false]
  exact⟨k,by simpa using hk,by simp[h]⟩
 simp[Zfn,Zte,this]
theorem setE_a {vs:List BA} {f:Fr} (h:¬ f.apart=f.wide.filter (inV (Zky vs f))):Zfn vs f=70:=by simp[Zfn,Zte,h]
theorem Zud {vs:List BA} {f:Fr} (h1:f.hyps.all (Zl2 (Zky vs f))=true) (h2:(ZdE f.hyps).length=(Zky vs f).length) (h3:∀ j,j<f.wide.length→Zp1 vs f.wide j=false) (h4:f.apart=f.wide.filter (inV (Zky vs f))):Zfn vs f=0:=by
 have:((List.range f.wide.length).all fun i=>!Zp1 vs f.wide i)=true:=by
  rw[List.all_eq_true]
  intro i hi
  simp[h3 i (by simpa using hi)]
 rw[Zfn,Zte,h1,this,decide_eq_true h2,decide_eq_true h4]
 rfl
end Go.Proofs.YtneapgbkkkjagaaGreatDoor
set_option maxHeartbeats 8000000
set_option maxRecDepth 100000
namespace Go.Proofs.YtneapgbkkkjagaaGreatDoor
open Go.RowKit
theorem ZnR {J:World→Prop} (hJ:Stab J) (M1:Nat) (M2:Nat) (M3:Nat) (M4:Nat) (M5:Nat) (d:Db)  :FnM (ι:= { p':List BA×List BA // Zbo d=0→p'=(d.consts,d.vars) }) Tryz.prog J 49 [] [.ptr (mpC [M1,M2,M3,M4,M5]),.agg (dbC d)] [OB.set keyS M1 ([]:List BA),OB.set keyS M2 ([]:List BA)] (fun _=>.int (Zbo d)) (fun i'=>[OB.set keyS M1 (i'.1.1),OB.set keyS M2 (i'.1.2)]):=by
 refine Yt (N:=50) Tryz.func49 rfl rfl (lb rfl) fun S w0 R hS hJ0 hH=>?_
 refine YA (B:=So J S w0 50 (OB.set keyS M1 ([]:List BA)::OB.set keyS M2 ([]:List BA)::R) [(0,.ptr (mpC [M1,M2,M3,M4,M5])),(1,.agg (dbC d))]) ?_ fun a w h=>h
 refine ZG tb hJ [0,1000] [.ptr (dbC d),_] [0] [_,_] rfl ⟨fun _ _ hk hx hl _=>Yq rfl (hl.env 1 1 _ rfl rfl) (Zp hS _ hk hx _ (Nat.le_refl _)) (jo hJ hx),trivial⟩ ?_
 refine Zf (ZG tb hJ [0,1,1001,1002,1003] [_,_,.int (d.consts.length:Nat),_] [2] U5 rfl ⟨Z2 Zm,trivial⟩ ?_)
 refine ln 2 fun hl1=>?_
 refine Zc (lpo (ι:=Nat×(List BA)) (fun(k,cs)=>(k≤d.consts.length)∧(cs=d.consts.take k)∧(∀ j,j<k→Zft d j=0)) (fun(_,cs)=>(OB.set keyS M1 cs::OB.set keyS M2 ([]:List BA)::R)) (fun(k,_)=>[(12,.int (k:Nat))]) (fun(k,_)=>d.consts.length-k) (r5 []) U4 (0,([]:List BA)) ⟨Nat.zero_le _,rfl,fun j hj=>by omega⟩ ?_)
 rintro⟨k,cs⟩ ⟨f1_1,f1_2,f1_3⟩
 refine qso tb hJ (r5 [1000]) [_] U6 ?_
 refine cjS 5 (fun hb1=>?_) fun hb1=>?_
 try simp at hb1
 refine Zb (nx (Zf (Zc (ZG tb hJ (r5 [1002]) [.ptr [lS (ge d.consts k)],_,_] [0] U6 rfl ⟨iIx Zd,trivial⟩ ?_))))
 refine Zf (ZG tb hJ (r6 [1002]) [_,.bool (Zgl (ge d.consts k)),_] [1] U7 rfl ⟨iFo hS hJ (Zdt hJ (ge d.consts k)) Zjx,trivial⟩ ?_)
 refine cj 6 (fun hb2=>?_) fun hb2=>?_
 try simp at hb2
 have q2:Zft d k=2:=by simp[Zft,hb2]
 have e9:Zbo d=2:=Ztb (by omega) f1_3 (by rw[q2];decide) q2
 refine qso tb hJ [1000] [_] [_] ?_
 exact Ze (fun a w h=>Ye  (m:=0) ⟨(cs,([]:List BA)),by first | (intro h9;rw[e9]at h9;exact absurd h9 (by decide)) | (intro _;rw[e1c,f2_2,ZF (by omega)])⟩ rfl h rfl (eI (e9.symm)))
 try simp at hb2
 refine Zb (nx (Zf (ZG tb hJ (r6 [1005]) [_,_,_,_,_,.bool (decide ((ge d.consts k)∈cs))] [5] U7 rfl ⟨fun _ _ _ hx hl _=>YE (Kd:=keyS) (xs:=cs) Yd Yf (ge d.consts k) rfl (Zi hx (mo 0 rfl)) (hl.D 3 22 rfl rfl) (hl.D 4 23 rfl rfl) hx,trivial⟩ ?_)))
 refine cj 6 (fun hb3=>?_) fun hb3=>?_
 try simp at hb3
 have q2:Zft d k=6:=by simp[Zft,hb2,←f1_2,hb3]
 have e9:Zbo d=6:=Ztb (by omega) f1_3 (by rw[q2];decide) q2
 refine qso tb hJ [1000] [_] [_] ?_
 exact Ze (fun a w h=>Ye  (m:=0) ⟨(cs,([]:List BA)),by first | (intro h9;rw[e9]at h9;exact absurd h9 (by decide)) | (intro _;rw[e1c,f2_2,ZF (by omega)])⟩ rfl h rfl (eI (e9.symm)))
 try simp at hb3
 refine Zb (nx (ZE (snK 5 tb rfl ?_)))
 refine Zco Yd hJ hJ0 (ge d.consts k) rfl rfl (.inl rfl) (fun a w h=>⟨(h.get 1 rfl),(h.get 0 rfl),(Rel.of_lit (.bool true))⟩) ?_
 refine seK [5,6,7,8,9] U5 rfl ?_
 refine nx (Yu tb hJ [0,1,2,3,1001] [.int (k+1:Nat),_] [0] U5 rfl ⟨Ya,trivial⟩ ?_)
 exact YH (k+1,QN cs (ge d.consts k)) (r5 []) ⟨by omega,by rw[Z0 (by omega),←f1_2];simp[QN,hb3],ZK f1_3 (by simp[Zft,hb2,←f1_2,hb3])⟩
 try simp at hb1
 have e1c:cs=d.consts:=by rw[f1_2,ZF (by omega)]
 have e1:Xu d.consts.length (Zft d)=0:=X4 fun j hj=>f1_3 j (by omega)
 refine Zt (nx (Zf (ZG tb hJ [0,1001,1002,1003] [_,_,.int (d.vars.length:Nat),_] [2] U4 rfl ⟨Z2 Zm,trivial⟩ ?_)))
 refine ln 1 fun hl2=>?_
 refine Zc (lpo (ι:=Nat×(List BA)) (fun(k,vs)=>(k≤d.vars.length)∧(vs=d.vars.take k)∧(∀ j,j<k→Zgh d j=0)) (fun(_,vs)=>(OB.set keyS M1 cs::OB.set keyS M2 vs::R)) (fun(k,_)=>[(34,.int (k:Nat))]) (fun(k,_)=>d.vars.length-k) [0,1,2,3] U3 (0,([]:List BA)) ⟨Nat.zero_le _,rfl,fun j hj=>by omega⟩ ?_)
 rintro⟨k,vs⟩ ⟨f2_1,f2_2,f2_3⟩
 refine qso tb hJ [0,1,2,3,1000] [_] U5 ?_
 refine cjS 4 (fun hb4=>?_) fun hb4=>?_
 try simp at hb4
 refine Zb (nx (Zf (Zc (ZG tb hJ [0,1,2,3,1002] [.ptr [lS (ge d.vars k)],_,_] [0] U5 rfl ⟨iIx Zd,trivial⟩ ?_))))
 refine Zf (ZG tb hJ (r5 [1002]) [_,.bool (Zgl (ge d.vars k)),_] [1] U6 rfl ⟨iFo hS hJ (Zdt hJ (ge d.vars k)) Zjx,trivial⟩ ?_)
 refine cj 5 (fun hb5=>?_) fun hb5=>?_
 try simp at hb5
 have q5:Zgh d k=2:=by simp[Zgh,hb5]
 have e9:Zbo d=2:=Zta e1 (by omega) f2_3 (by rw[q5];decide) q5
 refine qso tb hJ [1000] [_] [_] ?_
 exact Ze (fun a w h=>Ye  (m:=0) ⟨(cs,vs),by first | (intro h9;rw[e9]at h9;exact absurd h9 (by decide)) | (intro _;rw[e1c,f2_2,ZF (by omega)])⟩ rfl h rfl (eI (e9.symm)))
 try simp at hb5
 refine Zb (nx (Zf (ZG tb hJ (r5 [1002]) [_,_,.bool (decide ((ge d.vars k)∈cs)||decide ((ge d.vars k)∈vs))] [2] U6 rfl ⟨fun _ _ hk hx hl _=>Xq (Zb1 hJ M1 M2 M3 M4 M5 cs vs (ge d.vars k)) ZgX rfl (Zp hS _ hk hx) (hx.1) (ZT (Zi hx (mo 0 rfl)) (ZT (Zi hx (mo 1 rfl)) Zy)) (Za (hl.D 0 41 rfl rfl) (Za (hl.D 1 42 rfl rfl) Zh)) (jo hJ hx),trivial⟩ ?_)))
 refine cj 5 (fun hb6=>?_) fun hb6=>?_
 try simp at hb6
 have q5:Zgh d k=6:=by rw[Zgh,if_neg (by simp[hb5]),if_pos (by rw[←f2_2,←e1c];simpa using hb6)]
 have e9:Zbo d=6:=Zta e1 (by omega) f2_3 (by rw[q5];decide) q5
 refine qso tb hJ [1000] [_] [_] ?_
 exact Ze (fun a w h=>Ye  (m:=0) ⟨(cs,vs),by first | (intro h9;rw[e9]at h9;exact absurd h9 (by decide)) | (intro _;rw[e1c,f2_2,ZF (by omega)])⟩ rfl h rfl (eI (e9.symm)))
 try simp at hb6
 refine Zb (nx (ZE (snK 5 tb rfl ?_)))
 refine kw pm1 ?_
 refine Zco Yd hJ hJ0 (ge d.vars k) rfl rfl (.inl rfl) (fun a w h=>⟨(h.get 1 rfl),(h.get 0 rfl),(Rel.of_lit (.bool true))⟩) ?_
 refine seK [5,6,7,8] U4 rfl ?_
 refine nx (Yu tb hJ [0,1,2,1001] [.int (k+1:Nat),_] [0] U4 rfl ⟨Ya,trivial⟩ ?_)
 refine kw pm1 ?_
 exact YH (k+1,QN vs (ge d.vars k)) [0,1,2,3] ⟨by omega,by rw[Z0 (by omega),←f2_2];simp only[QN];rw[if_neg hb6.2],ZK f2_3 (by rw[Zgh,if_neg (by simp[hb5]),if_neg (by rw[←f2_2,←e1c];simpa using hb6)])⟩
 try simp at hb4
 have e9:Zbo d=0:=Zt6 e1 (X4 fun j hj=>f2_3 j (by omega))
 refine Zt (nx (qso tb hJ [1000] [_] [_] ?_))
 exact Ze (fun a w h=>Ye  (m:=0) ⟨(cs,vs),by first | (intro h9;rw[e9]at h9;exact absurd h9 (by decide)) | (intro _;rw[e1c,f2_2,ZF (by omega)])⟩ rfl h rfl (eI (e9.symm)))
theorem p_hyp {J:World→Prop} (hJ:Stab J) (M1:Nat) (M2:Nat) (M3:Nat) (M4:Nat) (M5:Nat) (L1:Nat) (T1:Nat) (cs:List BA) (vs:List BA) (fs:List BA) (hm:List (BA×Hy)) (tm:List (BA×BA)) (ls:List BA) (ts:List (BA×BA)) (y:Hy) (dm:Bool)  :FnR Tryz.prog J 78 [OB.set keyS M1 cs,OB.set keyS M2 vs,OB.set keyS M3 fs,OB.mH M4 hm,OB.mT M5 tm,OB.set keyS L1 ls,OB.mT T1 ts] [.ptr (mpC [M1,M2,M3,M4,M5]),.agg [.lit (.map (some L1)),.lit (.map (some T1))],.agg (hyC y),.bool dm] (.int (ZgJ cs vs fs hm tm ls ts y dm)):=by
 refine Yo (N:=166) Tryz.func78 rfl rfl (lb rfl) fun S w0 hS hJ0 hH=>?_
 refine tw Z1 ?_
 refine ZG tb hJ [0,3,1000,1001] [.ptr (mpC [L1,T1]),.ptr (hyC y),_] [0,1] U4 rfl ⟨fun _ _ hk hx hl _=>Yq rfl (hl.env 1 1 _ rfl rfl) (Zp hS _ hk hx _ (Nat.le_refl _)) (jo hJ hx),fun _ _ hk hx hl _=>Yq rfl (hl.env 2 2 _ rfl rfl) (Zp hS _ hk hx _ (Nat.le_refl _)) (jo hJ hx),trivial⟩ ?_
 refine Zf (ZG tb hJ [0,2,3,1038] [_,_,.bool (QE y.label),_,_,_,_,_,_,_,_,_,_,_,_,_,_,_,.int (y.text.length:Nat),_,_,_,_,_,_,_,_,_,_,.int (y.text.length:Nat),_,_,_,_,.int (y.text.length:Nat),_,_,_,_] [2,18,29,34] U4 rfl ⟨iFo hS hJ (ZcR hJ y.label) ZgW,Z2 Zm,Z2 Zm,Z2 Zm,trivial⟩ ?_)
 refine cj 3 (fun hb1=>?_) fun hb1=>?_
 ·
  replace hb1:Zat y dm=true:=hb1
  refine qso tb hJ [1000] [_] [_] ?_
  exact Ze (Xe (m:=0) rfl rfl (eI (by grind[ZgJ])))
 ·
  replace hb1:Zat y dm=false:=hb1
  have hy1:=Zh9 hb1
  refine Zb (nx (Zf (ZG tb hJ [0,1,2,1019] [_,_,_,.bool (decide (y.label∈cs)||decide (y.label∈vs)),_,_,_,_,_,_,_,.bool (decide (y.label∈fs)),_,_,_,_,_,_,.bool (decide (y.label∈ls)),_] [3,11,18] U4 rfl ⟨fun _ _ hk hx hl _=>Xq (Zb1 hJ M1 M2 M3 M4 M5 cs vs y.label) ZgX rfl (Zp hS _ hk hx) (hx.1) (ZT (Yr hH hk hx (mo 0 rfl)) (ZT (Yr hH hk hx (mo 1 rfl)) Zy)) (Za (hl.D 0 55 rfl rfl) (Za (hl.D 2 57 rfl rfl) Zh)) (jo hJ hx),fun _ _ hk hx hl hc=>YE (Kd:=keyS) (xs:=fs) Yd Yf y.label rfl (Yr hH hk hx (mo 2 rfl)) (hl.D 8 63 rfl hc) (hl.D 10 65 rfl hc) hx,fun _ _ hk hx hl hc=>YE (Kd:=keyS) (xs:=ls) Yd Yf y.label rfl (Yr hH hk hx (mo 5 rfl)) (hl.D 15 70 rfl hc) (hl.D 17 72 rfl hc) hx,trivial⟩ ?_)))
  refine cj 3 (fun hb2=>?_) fun hb2=>?_
  ·
   refine qso tb hJ [1000] [_] [_] ?_
   exact Ze (Xe (m:=0) rfl rfl (eI (by grind[ZgJ])))
  ·
   refine Zb (nx (Zf (qso tb hJ [0,1,2,1001] [_,_] U4 ?_)))
   refine cj 3 (fun hb3=>?_) fun hb3=>?_
   ·
    refine Zf (ZG tb hJ [0,1,2,1005,1021] [_,_,_,_,_,_,.ptr [lS (ge y.text 0)],_,.bool (decide ((ge y.text 0)∈cs)),_,_,_,_,_,_,_,_,.ptr [lS (ge y.text 1)],_,.bool (decide ((ge y.text 1)∈vs)),_,_] [6,8,17,19] U5 rfl ⟨iIx (k:=0) Zd (hk:=by have:=Yx hb1 hb3;omega),fun _ _ hk hx hl _=>YE (Kd:=keyS) (xs:=cs) Yd Yf (ge y.text 0) rfl (Yr hH hk hx (mo 0 rfl)) (hl.D 3 80 rfl rfl) (hl.D 7 84 rfl rfl) hx,gIx (k:=1) Zd (hk:=fun(hc':((!(decide ((ge y.text 0)∈cs)))==false)=true)=>by(try simp at hc');have:=Yx hb1 hb3;omega),fun _ _ hk hx hl hc=>YE (Kd:=keyS) (xs:=vs) Yd Yf (ge y.text 1) rfl (Yr hH hk hx (mo 1 rfl)) (hl.D 14 91 rfl hc) (hl.D 18 95 rfl hc) hx,trivial⟩ ?_)
    refine ln 3 fun hl1=>?_
    refine cj 4 (fun hb4=>?_) fun hb4=>?_
    ·
     refine qso tb hJ [1000] [_] [_] ?_
     exact Ze (Xe (m:=0) rfl rfl (eI (by grind[ZgJ])))
    ·
     refine Zb (nx (ZG tb hJ [0,2,1010,1011] [_,_,_,_,.ptr [lS (ge y.text 1)],_,.tup [.str ((ZZ ts (ge y.text 1)).getD default),.bool ((ZZ ts (ge y.text 1)).isSome)],_,_,_,_,_] [4,6] U4 rfl ⟨iIx (k:=1) Zd (hk:=by have:=Yx hb1 hb3;omega),fun _ _ hk hx hl _=>Ql (Kd:=keyS) (f:=(fun z':BA=>AV.str z')) (L:=ts) Zbf Zeh (ge y.text 1) rfl (Yr hH hk hx (mo 6 rfl)) (hl.D 1 101 rfl rfl) (hl.D 5 105 rfl rfl) hx,trivial⟩ ?_))
     refine Zf (ZG tb hJ [0,1,2,3,1012,1013] [_,_,_,_,_,_,.ptr [lS (ge y.text 1)],_,.tup [.str ((ZZ tm (ge y.text 1)).getD default),.bool ((ZZ tm (ge y.text 1)).isSome)],_,_,_,_,_] [6,8] U6 rfl ⟨iIx (k:=1) Zd (hk:=by have:=Yx hb1 hb3;omega),fun _ _ hk hx hl _=>Ql (Kd:=keyS) (f:=(fun z':BA=>AV.str z')) (L:=tm) Zbf Zeh (ge y.text 1) rfl (Yr hH hk hx (mo 4 rfl)) (hl.D 3 113 rfl rfl) (hl.D 7 117 rfl rfl) hx,trivial⟩ ?_)
     refine ZG tb hJ [0,1,3,1019] [_,_,_,_,_,.ptr [lS (ge y.text 0)],_,_,_,_,_,_,_,_,_,.ptr [lS (ge y.text 0)],_,_,_,_] [5,15] U4 rfl ⟨gIx (k:=0) Zd (hk:=fun(hc':(((ZZ tm (ge y.text 1)).isSome)==true)=true)=>by(try simp at hc');have:=Yx hb1 hb3;omega),gIx (k:=0) Zd (hk:=fun(hc':(((((ZZ tm (ge y.text 1)).isSome)&& (!decide (((ZZ tm (ge y.text 1)).getD default)=(ge y.text 0))))==false)&& (((ZZ ts (ge y.text 1)).isSome)==true))=true)=>by(try simp at hc');have:=Yx hb1 hb3;omega),trivial⟩ ?_
     refine cj 3 (fun hb5=>?_) fun hb5=>?_
     ·
      refine qso tb hJ [1000] [_] [_] ?_
      exact Ze (Xe (m:=0) rfl rfl (eI (by grind[ZgJ])))
     ·
      refine Zb (nx (qso tb hJ [0,1,1000] [_] U3 ?_))
      refine cj 2 (fun hb6=>?_) fun hb6=>?_
      ·
       refine qso tb hJ [1000] [_] [_] ?_
       exact Ze (Xe (m:=0) rfl rfl (eI (by grind[ZgJ])))
      ·
       refine Zb (nx (Zf (Zf (fun a w h=>Y0 (γ:=Nat) (fun ix'=>([.ptr (mpC [M1,M2,M3,M4,M5]),.ptr (mpC [M1,M2,M3,M4,M5]),.ptr (mpC [M4,M5]),.lit (.map (some M4)),.ptr (hyC y),.str y.label,.tup [.agg (hyC ((ZZ hm y.label).getD default)),.bool ((ZZ hm y.label).isSome)],.tup [.agg (hyC ((ZZ hm y.label).getD default)),.bool ((ZZ hm y.label).isSome)],.agg (hyC ((ZZ hm y.label).getD default)),.bool ((ZZ hm y.label).isSome),.any,.any,.bool ((ZZ hm y.label).isSome)]:List AV).getD ix' .any) (fun _=>true) [(6,fun(g:Nat)=>.ptr (hyC y)),(14,fun(g:Nat)=>.at g 0),(15,fun(g:Nat)=>.bool ((ZZ hm y.label).isSome))] (fun(j':Nat) (g:Nat)=>match j' with | 0=>[] | 1=>[OB.var g [lS (⟨#[]⟩:BA),lB false,Zg ([]:List BA)]] | _=>[OB.var g [lS (((ZZ hm y.label).getD default).label),lB (((ZZ hm y.label).getD default).floating),Zg (((ZZ hm y.label).getD default).text)]]) (fun(k':Nat) (g:Nat)=>match k' with | 0=>(.pointer (some ⟨g,0,none⟩)) | 1=>undef | _=>undef) [10,11] 2 0 (fun _=>rfl) h hJ YC rfl rfl rfl rfl rfl rfl hsb ⟨?_,⟨?_,⟨?_,⟨?_,⟨?_,⟨?_,⟨?_,⟨?_,⟨?_,⟨?_,⟨?_,⟨?_,⟨?_,trivial⟩⟩⟩⟩⟩⟩⟩⟩⟩⟩⟩⟩⟩ ⟨?e17_1_0,⟨?e17_1_1,trivial⟩⟩ ⟨.old 1 6 _ rfl rfl,⟨.eff 0 10 14 (fun g=>(.pointer (some ⟨g,0,none⟩))) rfl rfl (fun _=>rfl) (fun _=>True.intro),⟨.new 12 15 _ rfl rfl rfl,trivial⟩⟩⟩ ?n17_1))))
       exact oX rfl fun hx hl=>Z5 rfl (hl.env 0 0 _ rfl rfl) hx
       exact oX rfl fun hx hl=>Xw rfl (hl.D 0 150 rfl rfl) hx
       exact oX rfl fun hx hl=>ZQ Za2 rfl (hl.D 1 151 rfl rfl) hx
       exact oX rfl fun hx hl=>ZI ZhR rfl (hl.D 2 152 rfl rfl) hx
       exact oX rfl fun hx hl=>ZQ Zb7 rfl (hl.env 1 6 _ rfl rfl) hx
       exact oX rfl fun hx hl=>ZI QP rfl (hl.D 4 154 rfl rfl) hx
       exact oY rfl fun hk hx hl=>Ql (Kd:=keyS) (f:=(fun z':Hy=>AV.agg (hyC z'))) (L:=hm) QQ Za9 y.label rfl (Yr hH hk hx (mo 3 rfl)) (hl.D 3 153 rfl rfl) (hl.D 5 155 rfl rfl) hx
       exact oX rfl fun hx hl=>Z5 rfl (hl.D 6 156 rfl rfl) hx
       exact oX rfl fun hx hl=>YS rfl (hl.D 7 149 rfl rfl) rfl hx
       exact oX rfl fun hx hl=>YS rfl (hl.D 7 149 rfl rfl) rfl hx
       exact Zn rfl
       exact Zn rfl
       exact oX rfl fun hx hl=>XC rfl (hl.D 9 158 rfl rfl) hx
       case e17_1_0=>exact⟨_,rfl,rfl,rfl,rfl,fun g _ w hk hx _ _=>ZB (Zbl YJ hJ rfl hk hx) fun v w' ⟨g',hv,hp⟩=>⟨g',rfl,fun k' hk'=>absurd hk' (Nat.not_lt_zero _),fun _=>hv,hp⟩⟩
       case e17_1_1=>exact⟨_,rfl,rfl,rfl,rfl,fun g _ w hk hx hl hs=>(by obtain⟨us2,hv2,hr3⟩:=Q0 (hl.D 8 157 rfl rfl);exact ZB (Xt (S':=S) (off:=0) (news:=U3) (es:=U3) (us:=us2) hJ hJ0 YL rfl hk hx (ZcM (hs 0 10 _ 14 (by omega) rfl rfl rfl)) (by rw[hv2];rfl) hr3 (lb rfl) rfl) fun v w' hp=>⟨g,rfl,fun _ _=>rfl,fun e=>(by cases e),hp⟩)⟩
       clear a w h
       intro b1
       dsimp only[List.map]
       refine kw (fun h=>YO hS h (m:=1) (s:=14) rfl) ?_
       refine nx (ZG tb hJ [1006] [_,_,_,_,.bool (Zl1 ((ZZ hm y.label).getD default) y),_,_] [4] [_] rfl ⟨iFo hS hJ (ZhE hJ ((ZZ hm y.label).getD default) y) Zla,trivial⟩ ?_)
       refine cj 0 (fun hb8=>?_) fun hb8=>?_
       ·
        refine qso tb hJ [1000] [_] [_] ?_
        exact Ze (Xe (m:=0) rfl rfl (eI (by grind[ZgJ])))
       ·
        refine Zb (nx (qso tb hJ [1000] [_] [_] ?_))
        exact Ze (Xe (m:=0) rfl rfl (eI (by grind[ZgJ])))
   ·
    refine ZG tb hJ [0,2,1002,1004] [_,_,_,.int (Zlp cs vs y.text),_] [3] U4 rfl ⟨fun _ _ hk hx hl _=>Xq (Ztn hJ M1 M2 M3 M4 M5 cs vs y.text) Zpi rfl (Zp hS _ hk hx) (hx.1) (ZT (Yr hH hk hx (mo 0 rfl)) (ZT (Yr hH hk hx (mo 1 rfl)) Zy)) (Za (hl.D 0 142 rfl rfl) (Za (hl.D 2 144 rfl rfl) Zh)) (jo hJ hx),trivial⟩ ?_
    refine ln 2 fun hl2=>?_
    refine qso tb hJ [0,1,3,1001] [_,_] U4 ?_
    refine cj 3 (fun hb7=>?_) fun hb7=>?_
    ·
     refine qso tb hJ [1001] [_,_] [_] ?_
     exact Ze (Xe (m:=0) rfl rfl (eI (by grind[ZgJ])))
    ·
     refine Zb (nx (Zf (Zf (fun a w h=>Y0 (γ:=Nat) (fun ix'=>([.ptr (mpC [M1,M2,M3,M4,M5]),.ptr (mpC [M1,M2,M3,M4,M5]),.ptr (mpC [M4,M5]),.lit (.map (some M4)),.ptr (hyC y),.str y.label,.tup [.agg (hyC ((ZZ hm y.label).getD default)),.bool ((ZZ hm y.label).isSome)],.tup [.agg (hyC ((ZZ hm y.label).getD default)),.bool ((ZZ hm y.label).isSome)],.agg (hyC ((ZZ hm y.label).getD default)),.bool ((ZZ hm y.label).isSome),.any,.any,.bool ((ZZ hm y.label).isSome)]:List AV).getD ix' .any) (fun _=>true) [(6,fun(g:Nat)=>.ptr (hyC y)),(14,fun(g:Nat)=>.at g 0),(15,fun(g:Nat)=>.bool ((ZZ hm y.label).isSome))] (fun(j':Nat) (g:Nat)=>match j' with | 0=>[] | 1=>[OB.var g [lS (⟨#[]⟩:BA),lB false,Zg ([]:List BA)]] | _=>[OB.var g [lS (((ZZ hm y.label).getD default).label),lB (((ZZ hm y.label).getD default).floating),Zg (((ZZ hm y.label).getD default).text)]]) (fun(k':Nat) (g:Nat)=>match k' with | 0=>(.pointer (some ⟨g,0,none⟩)) | 1=>undef | _=>undef) [10,11] 2 0 (fun _=>rfl) h hJ YC rfl rfl rfl rfl rfl rfl hsb ⟨?_,⟨?_,⟨?_,⟨?_,⟨?_,⟨?_,⟨?_,⟨?_,⟨?_,⟨?_,⟨?_,⟨?_,⟨?_,trivial⟩⟩⟩⟩⟩⟩⟩⟩⟩⟩⟩⟩⟩ ⟨?e17_2_0,⟨?e17_2_1,trivial⟩⟩ ⟨.old 1 6 _ rfl rfl,⟨.eff 0 10 14 (fun g=>(.pointer (some ⟨g,0,none⟩))) rfl rfl (fun _=>rfl) (fun _=>True.intro),⟨.new 12 15 _ rfl rfl rfl,trivial⟩⟩⟩ ?n17_2))))
     exact oX rfl fun hx hl=>Z5 rfl (hl.env 0 0 _ rfl rfl) hx
     exact oX rfl fun hx hl=>Xw rfl (hl.D 0 150 rfl rfl) hx
     exact oX rfl fun hx hl=>ZQ Za2 rfl (hl.D 1 151 rfl rfl) hx
     exact oX rfl fun hx hl=>ZI ZhR rfl (hl.D 2 152 rfl rfl) hx
     exact oX rfl fun hx hl=>ZQ Zb7 rfl (hl.env 1 6 _ rfl rfl) hx
     exact oX rfl fun hx hl=>ZI QP rfl (hl.D 4 154 rfl rfl) hx
     exact oY rfl fun hk hx hl=>Ql (Kd:=keyS) (f:=(fun z':Hy=>AV.agg (hyC z'))) (L:=hm) QQ Za9 y.label rfl (Yr hH hk hx (mo 3 rfl)) (hl.D 3 153 rfl rfl) (hl.D 5 155 rfl rfl) hx
     exact oX rfl fun hx hl=>Z5 rfl (hl.D 6 156 rfl rfl) hx
     exact oX rfl fun hx hl=>YS rfl (hl.D 7 149 rfl rfl) rfl hx
     exact oX rfl fun hx hl=>YS rfl (hl.D 7 149 rfl rfl) rfl hx
     exact Zn rfl
     exact Zn rfl
     exact oX rfl fun hx hl=>XC rfl (hl.D 9 158 rfl rfl) hx
     case e17_2_0=>exact⟨_,rfl,rfl,rfl,rfl,fun g _ w hk hx _ _=>ZB (Zbl YJ hJ rfl hk hx) fun v w' ⟨g',hv,hp⟩=>⟨g',rfl,fun k' hk'=>absurd hk' (Nat.not_lt_zero _),fun _=>hv,hp⟩⟩
     case e17_2_1=>exact⟨_,rfl,rfl,rfl,rfl,fun g _ w hk hx hl hs=>(by obtain⟨us2,hv2,hr3⟩:=Q0 (hl.D 8 157 rfl rfl);exact ZB (Xt (S':=S) (off:=0) (news:=U3) (es:=U3) (us:=us2) hJ hJ0 YL rfl hk hx (ZcM (hs 0 10 _ 14 (by omega) rfl rfl rfl)) (by rw[hv2];rfl) hr3 (lb rfl) rfl) fun v w' hp=>⟨g,rfl,fun _ _=>rfl,fun e=>(by cases e),hp⟩)⟩
     clear a w h
     intro b2
     dsimp only[List.map]
     refine kw (fun h=>YO hS h (m:=1) (s:=14) rfl) ?_
     refine nx (ZG tb hJ [1006] [_,_,_,_,.bool (Zl1 ((ZZ hm y.label).getD default) y),_,_] [4] [_] rfl ⟨iFo hS hJ (ZhE hJ ((ZZ hm y.label).getD default) y) Zla,trivial⟩ ?_)
     refine cj 0 (fun hb8=>?_) fun hb8=>?_
     ·
      refine qso tb hJ [1000] [_] [_] ?_
      exact Ze (Xe (m:=0) rfl rfl (eI (by grind[ZgJ])))
     ·
      refine Zb (nx (qso tb hJ [1000] [_] [_] ?_))
      exact Ze (Xe (m:=0) rfl rfl (eI (by grind[ZgJ])))
theorem Zq0 {J:World→Prop} (hJ:Stab J) (xs:List Pr) (ys:List Pr)  :Fn Tryz.prog J 129 [.rd (Xc xs),.rd (Xc ys)] (.bool (decide (xs=ys))):=by
 refine Zo (N:=26) Tryz.func129 rfl rfl (lb rfl) fun S w0 hS hJ0=>?_
 clear hJ0
 refine ln 0 fun hl1=>?_
 refine ln 1 fun hl2=>?_
 refine qs tb hJ [0,1] [_] [_,_] ?_
 refine Zf (hqs tb hJ [0,1,1004] [_,.int (xs.length:Nat),_,.int (ys.length:Nat),_] [1,3] U3 rfl ⟨Z2 ZL,Z2 ZL,trivial⟩ ?_)
 refine cj 2 (fun hb1=>?_) fun hb1=>?_
 try simp at hb1
 refine qs tb hJ [1000] [_] [_] ?_
 exact Ze (rtn (m:=0) rfl rfl (eB (by first | (have:=Za3 (xs:=xs) (ys:=ys) (by omega) (fun j hj=>prEq_iff.1 (f1_2 j (by omega)));simp[this];done) | (symm;rw[decide_eq_false_iff_not];intro e;subst e;simp at hb3;done) | (symm;rw[decide_eq_false_iff_not];intro e;subst e;exact hb1 rfl))))
 try simp at hb1
 refine Zb (nx (Zf (hqs tb hJ [0,1,1001,1002] [_,.int (xs.length:Nat),_] [1] U4 rfl ⟨Z2 ZL,trivial⟩ ?_)))
 refine Zc (lp (ι:=Nat) (fun k=>(k≤xs.length)∧(∀ j,j<k→Zfj (ge xs j) (ge ys j)=true)) (fun k=>[(13,.int (k:Nat))]) (fun k=>xs.length-k) [0,1,2,3] U3 0 ⟨Nat.zero_le _,fun j hj=>by omega⟩ ?_)
 rintro k ⟨f1_1,f1_2⟩
 refine qs tb hJ [0,1,2,3,1000] [_] U5 ?_
 refine cjS 4 (fun hb2=>?_) fun hb2=>?_
 try simp at hb2
 refine Zb (nx (Zf (Zc (qs tb hJ [0,1,2,3,1001] [_,_] U5 ?_))))
 refine hqs tb hJ [0,1,2,3,1008] [_,_,.ptr (prC (ge xs k)),_,_,_,.ptr (prC (ge ys k)),_,.bool (!(decide ((ge xs k).a=(ge ys k).a)&&decide ((ge xs k).b=(ge ys k).b)))] [2,6,8] U5 rfl ⟨iIx Zu,iIx Zu,fun _ _ _ hx hl _=>Zny Zf0 rfl (hl.D 3 19 rfl rfl) (hl.D 7 23 rfl rfl) hx,trivial⟩ ?_
 refine cj 4 (fun hb3=>?_) fun hb3=>?_
 try simp at hb3
 refine qs tb hJ [1000] [_] [_] ?_
 exact Ze (rtn (m:=0) rfl rfl (eB (by first | (have:=Za3 (xs:=xs) (ys:=ys) (by omega) (fun j hj=>prEq_iff.1 (f1_2 j (by omega)));simp[this];done) | (symm;rw[decide_eq_false_iff_not];intro e;subst e;simp at hb3;done) | (symm;rw[decide_eq_false_iff_not];intro e;subst e;exact hb1 rfl))))
 try simp at hb3
 refine Zb (nx (hqp tb hJ [0,1,2,1001] [.int (k+1:Nat),_] [0] U4 rfl ⟨Ya,trivial⟩ ?_))
 exact lpE (k+1) [0,1,2,3] ⟨by omega,ZK f1_2 (by simp[Zfj,hb3])⟩
 try simp at hb2
 refine Zt (nx (qs tb hJ [1000] [_] [_] ?_))
 exact Ze (rtn (m:=0) rfl rfl (eB (by first | (have:=Za3 (xs:=xs) (ys:=ys) (by omega) (fun j hj=>prEq_iff.1 (f1_2 j (by omega)));simp[this];done) | (symm;rw[decide_eq_false_iff_not];intro e;subst e;simp at hb3;done) | (symm;rw[decide_eq_false_iff_not];intro e;subst e;exact hb1 rfl))))
theorem p_sets {J:World→Prop} (hJ:Stab J) (M1:Nat) (M2:Nat) (M3:Nat) (M4:Nat) (M5:Nat) (vs:List BA) (f:Fr) (h2:f.hyps.length≤40) (h3:f.wide.length*32≤140737488351232) (h4:∀ x∈f.hyps,x.floating=true→x.text.length=2):FnR Tryz.prog J 80 [OB.set keyS M2 vs] [.ptr (mpC [M1,M2,M3,M4,M5]),.agg (frC f)] (.int (Zfn vs f)):=by
 refine Yo (N:=101) Tryz.func80 rfl rfl (lb rfl) fun S w0 hS hJ0 hH=>?_
 refine tw Z1 ?_
 refine ZG tb hJ [0,1000] [.ptr (frC f),_] [0] [_,_] rfl ⟨fun _ _ hk hx hl _=>Yq rfl (hl.env 1 1 _ rfl rfl) (Zp hS _ hk hx _ (Nat.le_refl _)) (jo hJ hx),trivial⟩ ?_
 refine Zf (fun a w h=>Y0 (γ:=Nat) (fun ix'=>([.ptr (mpC [M1,M2,M3,M4,M5]),.ptr (mpC [M1,M2,M3,M4,M5]),.ptr (mpC [M2,M3,M4,M5]),.lit (.map (some M2)),.ptr [Xm f.hyps,Xc f.apart,Zg f.text,Xm f.dummies,Xc f.wide,Zg f.proof],.rd (Xm f.hyps),.ptr [Zg f.text,Xm f.dummies,Xc f.wide,Zg f.proof],.rd (Zg f.text),.rd (Yg (f.text::(YX f.hyps).map Hy.text)),.any,.any]:List AV).getD ix' .any) (fun _=>true) [(0,fun(g:Nat)=>.ptr (mpC [M1,M2,M3,M4,M5])),(3,fun(g:Nat)=>.ptr (frC f)),(5,fun(g:Nat)=>.lit (.map (some g)))] (fun(j':Nat) (g:Nat)=>match j' with | 0=>[] | 1=>[OB.set keyS g (Q7 vs (f.text::(YX f.hyps).map Hy.text).flatten)] | _=>[OB.set keyS g (Q7 vs (f.text::(YX f.hyps).map Hy.text).flatten)]) (fun(k':Nat) (g:Nat)=>match k' with | 0=>(.map (some g)) | 1=>(.map (some g)) | _=>undef) [9,10] 2 0 (fun _=>rfl) h hJ YC rfl rfl rfl rfl rfl rfl hsb ⟨?_,⟨?_,⟨?_,⟨?_,⟨?_,⟨?_,⟨?_,⟨?_,⟨?_,⟨?_,⟨?_,trivial⟩⟩⟩⟩⟩⟩⟩⟩⟩⟩⟩ ⟨?e1_1_0,⟨?e1_1_1,trivial⟩⟩ ⟨.old 0 0 _ rfl rfl,⟨.old 1 3 _ rfl rfl,⟨.eff 1 10 5 (fun g=>(.map (some g))) rfl rfl (fun _=>rfl) (fun _=>True.intro),trivial⟩⟩⟩ ?n1_1)
 exact oX rfl fun hx hl=>Z5 rfl (hl.env 0 0 _ rfl rfl) hx
 exact oX rfl fun hx hl=>Xw rfl (hl.D 0 11 rfl rfl) hx
 exact oX rfl fun hx hl=>ZQ Zma rfl (hl.D 1 12 rfl rfl) hx
 exact oX rfl fun hx hl=>ZI Zts rfl (hl.D 2 13 rfl rfl) hx
 exact oX rfl fun hx hl=>ZQ Zai rfl (hl.env 1 3 _ rfl rfl) hx
 exact oX rfl fun hx hl=>ZI ZdK rfl (hl.D 4 15 rfl rfl) hx
 exact oX rfl fun hx hl=>ZQ ZfV rfl (hl.env 1 3 _ rfl rfl) hx
 exact oX rfl fun hx hl=>ZI XI rfl (hl.D 6 17 rfl rfl) hx
 exact oY rfl fun hk hx hl=>Zbw (ZlS hJ f.hyps f.text (h2)) Zst rfl (Zp hS _ hk hx) (hx.1) (Za (hl.D 5 16 rfl rfl) (Za (hl.D 7 18 rfl rfl) Zh)) (jo hJ hx)
 exact Zn rfl
 exact Zn rfl
 case e1_1_0=>exact⟨_,rfl,rfl,rfl,rfl,fun _ _ w hk hx hl _=>ZB (d_fn (O:=[]) (R:=[]) (Zi2 hJ M2 vs (f.text::(YX f.hyps).map Hy.text)) Zsu rfl hS hJ0 (ZT (hH _ (mo 0 rfl)) Zy) hk hx (Za (hl.D 3 14 rfl rfl) (Za (hl.D 8 19 rfl rfl) Zh))) fun v w' ⟨i,hp,hv⟩=>⟨i,rfl,fun k' hk'=>absurd hk' (Nat.not_lt_zero _),fun _=>hv.lit,hp⟩⟩
 case e1_1_1=>exact⟨_,rfl,rfl,rfl,rfl,fun g _ w hk hx _ hs=>ZB (Zbk (.inl rfl) (hs 0 9 _ 20 (by omega) rfl rfl rfl) hk hx) fun v w' hp=>⟨g,rfl,fun _ _=>rfl,fun _=>hp.1,hp.2⟩⟩
 clear a w h
 intro z1
 dsimp only[List.map]
 refine nx (qso tb hJ [0,1,2,1000] [_] U4 ?_)
 refine Zf (ZG tb hJ [0,1,2,3,1001,1002,1003] [_,_,.int (f.hyps.length:Nat),_] [2] U7 rfl ⟨Z2 Zx,trivial⟩ ?_)
 refine ln 4 fun hl1=>?_
 refine Zc (lpo (ι:=Nat×Nat) (fun(k,n)=>(k≤f.hyps.length)∧(n=(ZdE (f.hyps.take k)).length)∧((f.hyps.take k).all (Zl2 (Zky vs f))=true)∧(n≤k)) (fun(_,_)=>[OB.set keyS z1 (Q7 vs (f.text::(YX f.hyps).map Hy.text).flatten)]) (fun(k,n)=>[(24,.int (k:Nat)),(6,.int (n:Nat))]) (fun(k,_)=>f.hyps.length-k) [0,1,2,4,5,6,3] U5 (0,0) ⟨Nat.zero_le _,rfl,rfl,Nat.zero_le _⟩ ?_)
 rintro⟨k,n⟩ ⟨f1_1,f1_2,f1_3,f1_4⟩
 refine qso tb hJ (r7 [1000]) [_] U8 ?_
 refine cjS 7 (fun hb1=>?_) fun hb1=>?_
 ·
  try simp at hb1
  refine Zb (nx (Zf (Zc (tsq ?_))))
  refine sy (.ptr (hyC (ge f.hyps k))) (fun h=>ZO (i:=(k:Int)) Zq rfl (h.get 3 rfl) (h.get 5 rfl) (Int.natCast_nonneg _) (ZU (xs:=f.hyps) (k:=k) sfz) rfl h.x) ?_
  refine snK 1 tb rfl ?_
  refine XZ (cs:=hyC (ge f.hyps k)) ZbX rfl rfl rfl (lb rfl) rfl rfl rfl (by decide) (m:=0) rfl rfl (fun a w h=>Zp hS _ h.keep h.x _ (Nat.le_refl _)) (fun a w h w' hk'=>Yz hJ _ _ hk' h.x) ?_
  refine seK [0,3,4,5,6,7,8,9] U8 rfl ?_
  refine nx (qso tb hJ (r8 [1001]) [_,_] U9 ?_)
  refine cj 8 (fun hb2=>?_) fun hb2=>?_
  ·
   try simp at hb2
   refine Zf (ZG tb hJ [1,2,3,4,5,6,7,1002,1006] [_,_,_,.ptr [lS (ge ((ge f.hyps k).text) 1)],_,.bool (decide ((ge ((ge f.hyps k).text) 1)∈(Q7 vs (f.text::(YX f.hyps).map Hy.text).flatten))),_] [3,5] U9 rfl ⟨iIx (k:=1) Zd (hk:=by have:=h4 _ (Zv (by omega)) hb2;omega),fun _ _ _ hx hl _=>YE (Kd:=keyS) (xs:=(Q7 vs (f.text::(YX f.hyps).map Hy.text).flatten)) Yd Yf (ge ((ge f.hyps k).text) 1) rfl (Zi hx (mo 0 rfl)) (hl.D 0 30 rfl rfl) (hl.D 4 34 rfl rfl) hx,trivial⟩ ?_)
   refine ln 7 fun hl2=>?_
   refine cj 8 (fun hb3=>?_) fun hb3=>?_
   ·
    have q3:Zfn vs f=70:=setE_h (QC hb1 (by simp only[Zl2,hb2,Bool.not_true,Bool.false_or];exact decide_eq_false (ZgC hb3)))
    refine qso tb hJ [1000] [_] [_] ?_
    exact Ze (Xe (m:=0) rfl rfl (eI (q3.symm)))
   ·
    refine Zb (nx (Yu tb hJ (r6 [1002]) [_,.int (n+1:Nat),_] [1] U7 rfl ⟨Ya (h0:=by omega),trivial⟩ ?_))
    refine nx (Yu tb hJ (r5 [6,1001]) [.int (k+1:Nat),_] [0] U7 rfl ⟨Ya,trivial⟩ ?_)
    exact YH (k+1,n+1) (r5 [6,5]) ⟨by omega,by rw[ZdE,Z6 (by omega),f1_2];simp[ZdE,hb2],by rw[XT (by omega),f1_3];simp only[Zl2,hb2,Bool.not_true,Bool.false_or,Bool.true_and];exact decide_eq_true (Ztu hb3),by omega⟩
  ·
   try simp at hb2
   refine Zb (nx (Yu tb hJ [1,2,3,4,5,7,1001] [.int (k+1:Nat),_] [0] U7 rfl ⟨Ya,trivial⟩ ?_))
   exact YH (k+1,n) (r5 [6,5]) ⟨by omega,by rw[ZdE,Z6 (by omega),f1_2];simp[ZdE,hb2],by rw[XT (by omega),f1_3];simp[Zl2,hb2],by omega⟩
 ·
  try simp at hb1
  have e1:f.hyps.all (Zl2 (Zky vs f))=true:=by rw[←ZF (xs:=f.hyps) (by omega)];exact f1_3
  have f1_2':n=(ZdE f.hyps).length:=by rw[f1_2,ZF (by omega)]
  refine Zt (nx (Zf (ZG tb hJ [0,1,2,1003] [_,_,.int ((Q7 vs (f.text::(YX f.hyps).map Hy.text).flatten).length:Nat),_] [2] U4 rfl ⟨fun _ _ _ hx hl _=>ZqD ZiM rfl (Zi hx (mo 0 rfl)) (hl.D 1 41 rfl rfl) hx,trivial⟩ ?_)))
  refine cj 3 (fun hb4=>?_) fun hb4=>?_
  ·
   have hb4a:¬ n=(Zky vs f).length:=fun e=>ZgC hb4 (congrArg Int.ofNat e)
   have q3:Zfn vs f=70:=setE_n (by rw[←f1_2'];exact hb4a)
   refine qso tb hJ [1000] [_] [_] ?_
   exact Ze (Xe (m:=0) rfl rfl (eI (q3.symm)))
  ·
   have hb4a:n=(Zky vs f).length:=Int.ofNat.inj (Ztu hb4)
   refine Zb (nx (Zf (ZG tb hJ [0,1,2,1001,1002,1003] [_,_,.int (f.wide.length:Nat),_] [2] U6 rfl ⟨Z2 ZL,trivial⟩ ?_)))
   refine ln 3 fun hl3=>?_
   refine Zc (lpo (ι:=Nat) (fun k=>(k≤f.wide.length)∧(∀ j,j<k→Zp1 vs f.wide j=false)) (fun _=>[OB.set keyS z1 (Q7 vs (f.text::(YX f.hyps).map Hy.text).flatten)]) (fun k=>[(47,.int (k:Nat))]) (fun k=>f.wide.length-k) (r6 []) U5 0 ⟨Nat.zero_le _,fun j hj=>by omega⟩ ?_)
   rintro k ⟨f2_1,f2_2⟩
   refine qso tb hJ (r6 [1000]) [_] U7 ?_
   refine cjS 6 (fun hb5=>?_) fun hb5=>?_
   ·
    try simp at hb5
    refine Zb (nx (Zf (Zc (tsq ?_))))
    refine snK 1 tb rfl ?_
    refine sy (.ptr (prC (ge f.wide k))) (fun h=>ZO (i:=(k:Int)) Zu rfl (h.get 4 rfl) (h.get 6 rfl) (Int.natCast_nonneg _) (ZU (xs:=f.wide) (k:=k) sfz) rfl h.x) ?_
    refine snK 1 tb rfl ?_
    refine Z4 XH hJ rfl rfl rfl (lb rfl) fun b2=>?_
    refine snK 1 tb rfl ?_
    refine ZD (b:=b2) (off:=0) (es:=[_,_]) (news:=[_,_]) hJ hJ0 YK rfl rfl rfl (lb rfl) rfl (fun a w h=>⟨(h.get 1 rfl),(h.get 2 rfl)⟩) ?_
    refine kw (fun h=>YO hS h (m:=1) (s:=10) rfl) ?_
    refine seK [0,1,5,6,7,8,9,10] U8 rfl ?_
    refine nx (ZG tb hJ [2,3,4,5,6,7,1039] [_,_,_,_,_,_,_,_,_,_,_,_,.bool (decide ((ge f.wide k).a∈vs)),_,_,_,_,_,_,_,_,_,.bool (decide ((ge f.wide k).b∈vs)),_,_,_,_,_,_,_,_,_,.int ((k:Int)-(1:Int)),.ptr (prC (ge f.wide ((k:Int)-(1:Int)).toNat)),_,_,.int (Zil (ge f.wide ((k:Int)-(1:Int)).toNat) (ge f.wide k)),_,_,_] [12,22,32,33,36] U7 rfl ⟨fun a _ hk hx hl hc=>YE (Kd:=keyS) (xs:=vs) Yd Yf ((ge f.wide k).a) rfl (Yr hH hk hx (mo 0 rfl)) (hl.D 9 61 rfl hc) (hl.D 11 63 rfl hc) hx,fun _ _ hk hx hl hc=>YE (Kd:=keyS) (xs:=vs) Yd Yf ((ge f.wide k).b) rfl (Yr hH hk hx (mo 0 rfl)) (hl.D 19 71 rfl hc) (hl.D 21 73 rfl hc) hx,fun a _ _ hx hl hc=>Zcg (i:=(k:Int)) (j:=(1:Int)) rfl (hl.D 31 83 rfl hc) (Rel.of_lit (.int .i64 1)) (by have hc':(((((!Op.bytesLess ((ge f.wide k).a).toList ((ge f.wide k).b).toList)|| (!(decide ((ge f.wide k).a∈vs))))|| (!(decide ((ge f.wide k).b∈vs))))==false)&& ((decide ((0:Int)< (k:Int)))==true))=true:=hc;(try simp at hc');(first | omega | (simp;omega) | grind[Zv])) (by have hc':(((((!Op.bytesLess ((ge f.wide k).a).toList ((ge f.wide k).b).toList)|| (!(decide ((ge f.wide k).a∈vs))))|| (!(decide ((ge f.wide k).b∈vs))))==false)&& ((decide ((0:Int)< (k:Int)))==true))=true:=hc;(try simp at hc');(first | omega | (simp;omega) | grind[Zv])) hx,fun a _ _ hx hl hc=>ZO (i:=(k:Int)-(1:Int)) Zu rfl (hl.D 30 82 rfl hc) (hl.D 32 84 rfl hc) (by have hc':(((((!Op.bytesLess ((ge f.wide k).a).toList ((ge f.wide k).b).toList)|| (!(decide ((ge f.wide k).a∈vs))))|| (!(decide ((ge f.wide k).b∈vs))))==false)&& ((decide ((0:Int)< (k:Int)))==true))=true:=hc;(try simp at hc');(first | omega | (simp;omega) | grind[Zv])) (Zdq (xs:=f.wide) (i:=(k:Int)-(1:Int)) (by have hc':(((((!Op.bytesLess ((ge f.wide k).a).toList ((ge f.wide k).b).toList)|| (!(decide ((ge f.wide k).a∈vs))))|| (!(decide ((ge f.wide k).b∈vs))))==false)&& ((decide ((0:Int)< (k:Int)))==true))=true:=hc;(try simp at hc');(first | omega | (simp;omega) | grind[Zv])) (by have hc':(((((!Op.bytesLess ((ge f.wide k).a).toList ((ge f.wide k).b).toList)|| (!(decide ((ge f.wide k).a∈vs))))|| (!(decide ((ge f.wide k).b∈vs))))==false)&& ((decide ((0:Int)< (k:Int)))==true))=true:=hc;(try simp at hc');(first | omega | (simp;omega) | grind[Zv]))) rfl hx,iFo hS hJ (Zfq hJ (ge f.wide ((k:Int)-(1:Int)).toNat) (ge f.wide k)) Zss,trivial⟩ ?_)
    refine cj 6 (fun hb6=>?_) fun hb6=>?_
    ·
     have q3:Zfn vs f=70:=setE_w hb5 hb6
     refine qso tb hJ [1000] [_] [_] ?_
     exact Ze (Xe (m:=0) rfl rfl (eI (q3.symm)))
    ·
     refine Zb (nx (Yu tb hJ (r5 [1001]) [.int (k+1:Nat),_] [0] U6 rfl ⟨Ya,trivial⟩ ?_))
     exact YH (k+1) (r6 []) ⟨by omega,ZK f2_2 hb6⟩
   ·
    try simp at hb5
    refine Zt (nx (Zf (ZG tb hJ [1001,1005,1007] [_,_,_,_,_,.rd (Xc (f.wide.filter (inV (Q7 vs (f.text::(YX f.hyps).map Hy.text).flatten)))),.bool (decide (f.apart=(f.wide.filter (inV (Q7 vs (f.text::(YX f.hyps).map Hy.text).flatten))))),_] [5,6] U3 rfl ⟨fun _ _ hk hx hl _=>Xq (ZqN hJ z1 (Q7 vs (f.text::(YX f.hyps).map Hy.text).flatten) f.wide (h3)) Zsq rfl (Zp hS _ hk hx) (hx.1) (ZT (Zi hx (mo 0 rfl)) Zy) (Za (hl.D 2 95 rfl rfl) (Za (hl.D 4 97 rfl rfl) Zh)) (jo hJ hx),iFo hS hJ (Zq0 hJ f.apart (f.wide.filter (inV (Q7 vs (f.text::(YX f.hyps).map Hy.text).flatten)))) Zsr,trivial⟩ ?_)))
    refine ln 0 fun hl4=>?_
    refine ln 1 fun hl5=>?_
    refine cj 2 (fun hb7=>?_) fun hb7=>?_
    ·
     have q3:Zfn vs f=70:=setE_a (ZgC hb7)
     refine qso tb hJ [1000] [_] [_] ?_
     exact Ze (Xe (m:=0) rfl rfl (eI (q3.symm)))
    ·
     have q3:Zfn vs f=0:=Zud e1 (by rw[←f1_2'];exact hb4a) (fun j hj=>f2_2 j (by omega)) (Ztu hb7)
     refine Zb (nx (qso tb hJ [1000] [_] [_] ?_))
     exact Ze (Xe (m:=0) rfl rfl (eI (q3.symm)))
theorem ZqT {J:World→Prop} (hJ:Stab J) (s:BA) (hG:ZaN J):Fn Tryz.prog J 81 [.str s] (.bool (!Y1 s)):=by
 refine Zo (N:=6) Tryz.func81 rfl rfl (lb rfl) fun S w0 hS hJ0=>?_
 clear hJ0
 refine qs tb hJ [0] [_] [_] ?_
 refine hqs tb hJ [1003] [_,.bool (Y1 s),_,_] [1] [_] rfl ⟨iFn hS hJ (ZnV hJ s (hG)) ZvE,trivial⟩ ?_
 exact Ze (rtn (m:=0) rfl rfl (eB (by first | rfl | grind[Zv])))
theorem ZqS {J:World→Prop} (hJ:Stab J) (M1:Nat) (M2:Nat) (M3:Nat) (M4:Nat) (M5:Nat) (hm:List (BA×Hy)) (y:Hy)  :FnR Tryz.prog J 84 [OB.mH M4 hm] [.agg (hyC y),.ptr [.ptr (mpC [M1,M2,M3,M4,M5])]] (.bool ((ZZ hm y.label).isSome)):=by
 refine Yo (N:=17) Tryz.func84 rfl rfl (lb rfl) fun S w0 hS hJ0 hH=>?_
 refine tw Z1 ?_
 refine ZG tb hJ [1,1000] [.ptr (hyC y),_] [0] [_,_] rfl ⟨fun _ _ hk hx hl _=>Yq rfl (hl.env 0 0 _ rfl rfl) (Zp hS _ hk hx _ (Nat.le_refl _)) (jo hJ hx),trivial⟩ ?_
 refine Zf (fun a w h=>Y0 (γ:=Nat) (fun ix'=>([.ptr (mpC [M1,M2,M3,M4,M5]),.ptr (mpC [M1,M2,M3,M4,M5]),.ptr (mpC [M4,M5]),.lit (.map (some M4)),.ptr (hyC y),.str y.label,.tup [.agg (hyC ((ZZ hm y.label).getD default)),.bool ((ZZ hm y.label).isSome)],.tup [.agg (hyC ((ZZ hm y.label).getD default)),.bool ((ZZ hm y.label).isSome)],.agg (hyC ((ZZ hm y.label).getD default)),.bool ((ZZ hm y.label).isSome),.any,.any,.bool ((ZZ hm y.label).isSome)]:List AV).getD ix' .any) (fun _=>true) [(5,fun(g:Nat)=>.bool ((ZZ hm y.label).isSome))] (fun(j':Nat) (g:Nat)=>match j' with | 0=>[] | 1=>[OB.var g [lS (⟨#[]⟩:BA),lB false,Zg ([]:List BA)]] | _=>[OB.var g [lS (((ZZ hm y.label).getD default).label),lB (((ZZ hm y.label).getD default).floating),Zg (((ZZ hm y.label).getD default).text)]]) (fun(k':Nat) (g:Nat)=>match k' with | 0=>(.pointer (some ⟨g,0,none⟩)) | 1=>undef | _=>undef) [10,11] 2 0 (fun _=>rfl) h hJ YC rfl rfl rfl rfl rfl rfl hsb ⟨?_,⟨?_,⟨?_,⟨?_,⟨?_,⟨?_,⟨?_,⟨?_,⟨?_,⟨?_,⟨?_,⟨?_,⟨?_,trivial⟩⟩⟩⟩⟩⟩⟩⟩⟩⟩⟩⟩⟩ ⟨?e1_1_0,⟨?e1_1_1,trivial⟩⟩ ⟨.new 12 5 _ rfl rfl rfl,trivial⟩ ?n1_1)
 exact oX rfl fun hx hl=>ZcO ZhS rfl (hl.env 0 1 _ rfl rfl) hx
 exact oX rfl fun hx hl=>Xw rfl (hl.D 0 7 rfl rfl) hx
 exact oX rfl fun hx hl=>ZQ Za2 rfl (hl.D 1 8 rfl rfl) hx
 exact oX rfl fun hx hl=>ZI ZhR rfl (hl.D 2 9 rfl rfl) hx
 exact oX rfl fun hx hl=>ZQ Zb7 rfl (hl.env 1 2 _ rfl rfl) hx
 exact oX rfl fun hx hl=>ZI QP rfl (hl.D 4 11 rfl rfl) hx
 exact oY rfl fun hk hx hl=>Ql (Kd:=keyS) (f:=(fun z':Hy=>AV.agg (hyC z'))) (L:=hm) QQ Za9 y.label rfl (Yr hH hk hx (mo 0 rfl)) (hl.D 3 10 rfl rfl) (hl.D 5 12 rfl rfl) hx
 exact oX rfl fun hx hl=>Z5 rfl (hl.D 6 13 rfl rfl) hx
 exact oX rfl fun hx hl=>YS rfl (hl.D 7 6 rfl rfl) rfl hx
 exact oX rfl fun hx hl=>YS rfl (hl.D 7 6 rfl rfl) rfl hx
 exact Zn rfl
 exact Zn rfl
 exact oX rfl fun hx hl=>XC rfl (hl.D 9 15 rfl rfl) hx
 case e1_1_0=>exact⟨_,rfl,rfl,rfl,rfl,fun g _ w hk hx _ _=>ZB (Zbl YJ hJ rfl hk hx) fun v w' ⟨g',hv,hp⟩=>⟨g',rfl,fun k' hk'=>absurd hk' (Nat.not_lt_zero _),fun _=>hv,hp⟩⟩
 case e1_1_1=>exact⟨_,rfl,rfl,rfl,rfl,fun g _ w hk hx hl hs=>(by obtain⟨us2,hv2,hr3⟩:=Q0 (hl.D 8 14 rfl rfl);exact ZB (Xt (S':=S) (off:=0) (news:=U3) (es:=U3) (us:=us2) hJ hJ0 YL rfl hk hx (ZcM (hs 0 10 _ 4 (by omega) rfl rfl rfl)) (by rw[hv2];rfl) hr3 (lb rfl) rfl) fun v w' hp=>⟨g,rfl,fun _ _=>rfl,fun e=>(by cases e),hp⟩)⟩
 clear a w h
 intro b1
 dsimp only[List.map]
 refine kw ZM ?_
 refine nx (qso tb hJ [1001] [_,_] [_] ?_)
 exact Ze (Xe (m:=0) rfl rfl rfl)
theorem ZuL {J:World→Prop} (hJ:Stab J) (n:Nat) (b:n*48≤140737488351232):FnM (ι:=Value) Tryz.prog J 123 [] [.lit (.slice none 0 0),.int (n:Nat)] [] (fun i'=>.lit (i')) (fun i'=>[OB.row i' 61 3 (([]:List Hy).map hyC)]):=by
 refine Yt (N:=27) Tryz.func123 rfl rfl (lb rfl) fun S w0 R hS hJ0 hH=>?_
 refine YA (B:=So J S w0 27 (R) [(0,.lit (.slice none 0 0)),(1,.int (n:Nat))]) ?_ fun a w h=>h
 refine qso tb hJ [0,1] [_] [_,_] ?_
 refine Zf (qso tb hJ [0,1,1001] [_,_] U3 ?_)
 refine cj 2 (fun hb1=>?_) fun hb1=>?_
 try simp at hb1
 exact False.elim (by omega)
 try simp at hb1
 refine Zb (nx (Zf (ZG tb hJ [0,1007] [_,_,.int (0:Nat),_,.int (0:Nat),.int (((0:Nat):Int)-((0:Nat):Int)),.int ((n:Int)-((0:Nat):Int)-((0:Nat):Int)),_] [2,4,5,6] [_,_] rfl ⟨fun _ _ _ hx hl _=>Zkh Zx rfl (hl.D 1 9 rfl rfl) hx,fun _ _ _ hx hl _=>Zkf Zx rfl (hl.D 3 11 rfl rfl) hx,Zu8,Zu8,trivial⟩ ?_)))
 refine tw (sa 1 rfl (congrArg AV.int (show(n:Int)-((0:Nat):Int)-((0:Nat):Int)=(n:Int)from by omega))) ?_
 refine qso tb hJ [0,1,1001] [_,_] U3 ?_
 refine cj 2 (fun hb2=>?_) fun hb2=>?_
 try simp at hb2
 refine ZE (snK 2 tb rfl ?_)
 refine sy (.int (0:Nat)) (fun h=>Zkh Zx rfl (h.get 0 rfl) h.x) ?_
 refine sy (.lit (.slice none 0 0)) (fun h=>ZqG Zq rfl (h.get 2 rfl) (h.get 0 rfl) h.x) ?_
 refine snK 1 tb rfl ?_
 refine Zua (m:=n) QY Qb hJ rfl rfl rfl (lb rfl) (by omega) (by omega) (by omega) (fun a w h=>⟨(h.get 1 rfl),(h.get 0 rfl)⟩) fun v1=>?_
 refine snK 1 tb rfl ?_
 refine sy (.int (0:Nat)) (fun h=>Zkf Zx rfl (h.get 0 rfl) h.x) ?_
 refine sy (.lit (Zcn v1 0)) (fun h=>Zhz (m:=0) Zq rfl (Zi h.x (mo 0 rfl)) (by first | rfl | (rw[List.length_map];exact(rfl))) (h.get 2 rfl) (h.get 0 rfl) h.x) ?_
 refine snK 1 tb rfl ?_
 refine seK [0] [_] rfl ?_
 refine nx (qso tb hJ [1001] [_,_] [_] ?_)
 exact Ze (fun a w h=>Ye  (m:=0) (Zcn v1 0) rfl h rfl rfl)
 try simp at hb2
 refine Zb (nx (qso tb hJ [1001] [_,_] [_] ?_))
 refine tw (YV 61 3 hJ) ?_
 exact Ze (fun a w h=>Ye  (m:=0) (.slice none 0 0) rfl h rfl rfl)
theorem ZhP {J:World→Prop} (hJ:Stab J) (ls:List (List Hy)) (b:ls.flatten.length*48≤140737488351232):Fn Tryz.prog J 77 [.rd (Zu9 ls)] (.rd (Xm ls.flatten)):=by
 refine Zo (N:=36) Tryz.func77 rfl rfl (lb rfl) fun S w0 hS hJ0=>?_
 refine tw Z1 ?_
 refine ln 0 fun hl1=>?_
 refine qso tb hJ [0] [_] [_] ?_
 refine qso tb hJ [0,1000] [_] [_,_] ?_
 refine Zf (ZG tb hJ [0,1,1000,1001,1002] [_,.int (ls.length:Nat),_] [1] U5 rfl ⟨Z2 Zel,trivial⟩ ?_)
 refine Zc (lpo (ι:=Nat×Nat) (fun(k,z)=>(k≤ls.length)∧(z=(ls.take k).flatten.length)) (fun(_,_)=>[]) (fun(k,z)=>[(11,.int (k:Nat)),(3,.int (z:Nat))]) (fun(k,_)=>ls.length-k) [0,2,3,4,1] U3 (0,0) ⟨Nat.zero_le _,by simp⟩ ?_)
 rintro⟨k,z⟩ ⟨f1_1,f1_2⟩
 refine qso tb hJ (r5 [1000]) [_] U6 ?_
 refine cjS 5 (fun hb1=>?_) fun hb1=>?_
 try simp at hb1
 refine Zb (nx (Zf (Zc (ZG tb hJ (r5 [1001,1002]) [.ptr [Xm (ge ls k)],_,_] [0] U7 rfl ⟨iIx Zaa,trivial⟩ ?_))))
 refine ln 5 fun hl2=>?_
 refine ZG tb hJ [0,1,2,3,1004] [_,_,.int ((ge ls k).length:Nat),.int (z+(ge ls k).length:Nat),_] [2,3] U5 rfl ⟨Z2 Zx,Ya (h0:=by have:=ZaI ls (k+1);rw[Z0 (by omega)]at this;simp only[List.flatten_append,List.length_append,List.flatten_cons,List.flatten_nil,List.append_nil]at this;omega),trivial⟩ ?_
 refine qso tb hJ (r5 [1001]) [_,_] U6 ?_
 refine cj 5 (fun hb2=>?_) fun hb2=>?_
 try simp at hb2
 exact False.elim (by omega)
 try simp at hb2
 refine Zb (nx (Yu tb hJ [0,1,2,4,1001] [.int (k+1:Nat),_] [0] U5 rfl ⟨Ya,trivial⟩ ?_))
 exact YH (k+1,z+(ge ls k).length) [0,1,2,4,3] ⟨by omega,by rw[f1_2,Z0 (by omega)];simp⟩
 try simp at hb1
 refine Zt (nx (tsq ?_))
 refine snK 1 tb rfl ?_
 refine X0 (O:=[]) (R:=[]) (ZuL hJ z (by rw[f1_2];exact Nat.le_trans (Nat.mul_le_mul_right 48 (ZaI ls k)) b)) Zsw rfl rfl rfl (lb rfl) hS hJ0 Zy (fun a w h=>(Za (Rel.of_lit (.slice none 0 0)) (Za (h.get 0 rfl) Zh))) fun z1=>?_
 refine snK 1 tb rfl ?_
 refine seK [0,3] [_,_] rfl ?_
 refine nx (Zf (ZG tb hJ [0,1000,1001,1002] [_,.int (ls.length:Nat),_] [1] U4 rfl ⟨Z2 Zel,trivial⟩ ?_))
 refine Zc (lpo (ι:=Nat×Value×(List Hy)) (fun(k,_,out)=>(k≤ls.length)∧(out=(ls.take k).flatten)) (fun(_,vo,out)=>[OB.row vo 61 3 (out.map hyC)]) (fun(k,vo,_)=>[(27,.int (k:Nat)),(6,.lit vo)]) (fun(k,_,_)=>ls.length-k) [1,2,3,0] [_,_] (0,z1,([]:List Hy)) ⟨Nat.zero_le _,by simp⟩ ?_)
 rintro⟨k,vo,out⟩ ⟨f2_1,f2_2⟩
 refine qso tb hJ [0,1,2,3,1000] [_] U5 ?_
 refine cjS 4 (fun hb3=>?_) fun hb3=>?_
 try simp at hb3
 refine Zb (nx (Zf (Zc (ZG tb hJ [0,1,2,3,1001,1002] [.ptr [Xm (ge ls k)],_,_] [0] U6 rfl ⟨iIx Zaa,trivial⟩ ?_))))
 refine ln 4 fun hl3=>?_
 refine ZE (snK 2 tb rfl ?_)
 refine ZR (f:=hyC) (m:=1) (s:=31) out (ge ls k) (fun _=>rfl) QY hJ hJ0 rfl rfl rfl (lb rfl) rfl rfl (fun a w h=>(h.get 0 rfl)) (by have:=ZaI ls (k+1);rw[Z0 (by omega)]at this;simp only[List.flatten_append,List.length_append,List.flatten_cons,List.flatten_nil,List.append_nil]at this;rw[f2_2];omega) (by have:=ZaI ls (k+1);rw[Z0 (by omega)]at this;simp only[List.flatten_append,List.length_append,List.flatten_cons,List.flatten_nil,List.append_nil]at this;rw[f2_2];omega) fun v2=>?_
 refine snK 1 tb rfl ?_
 refine seK [0,4,5,6] U4 rfl ?_
 refine nx (Yu tb hJ [0,1,2,1001] [.int (k+1:Nat),_] [0] U4 rfl ⟨Ya,trivial⟩ ?_)
 exact YH (k+1,v2,out++(ge ls k)) [1,2,3,0] ⟨by omega,by rw[f2_2,Z0 (by omega)];simp⟩
 try simp at hb3
 refine Zt (nx (qso tb hJ [1001] [_,_] [_] ?_))
 refine tw (fun h=>ZN hS h (m:=0) (s:=2) rfl) ?_
 exact Ze (Xe (m:=0) rfl rfl (congrArg (fun z=>AV.rd (Xm z)) (show out=ls.flatten from by rw[f2_2,ZF (by omega)])))
theorem Zq1 {J:World→Prop} (hJ:Stab J) (M5:Nat) (T1:Nat) (tm:List (BA×BA)) (ts:List (BA×BA)) (hq:∀ q'∈ts.map (·.1),q'.size≤9223372036854775807):FnM (ι:= { q':List (BA×BA) // ∀ k',ZZ q' k'=if(ZZ ts k').isSome then ZZ ts k' else ZZ tm k' }) Tryz.prog J 86 [] [.lit (.map (some M5)),.lit (.map (some T1))] [OB.mT M5 tm,OB.mT T1 ts] (fun _=>.tup []) (fun i'=>[OB.mT M5 (i'.1),OB.mT T1 ts]):=by
 refine Yt (N:=16) Tryz.func86 rfl rfl (lb rfl) fun S w0 R hS hJ0 hH=>?_
 refine YA (B:=So J S w0 16 (OB.mT M5 tm::OB.mT T1 ts::R) [(0,.lit (.map (some M5))),(1,.lit (.map (some T1)))]) ?_ fun a w h=>h
 refine tsq ?_
 refine snK 1 tb rfl ?_
 refine kw pm1 ?_
 refine Zqi (Kd:=keyS) (f:=(fun z':BA=>AV.str z')) (L:=ts) ZiL hJ hJ0 rfl rfl rfl (lb rfl) (fun a w h=>(h.get 0 rfl)) fun b1=>?_
 refine seK [0,2] [_,_] rfl ?_
 refine nx (Zc (lpo (ι:=(List BA)×(List (BA×BA))) (fun(vis,tn)=>(∀ q',ZZ tn q'=if q'∈vis then ZZ ts q' else ZZ tm q')∧(vis.Nodup)∧(∀ q'∈vis,q'∈ts.map (·.1))) (fun(vis,tn)=>(OB.iter b1 keyS (fun z':BA=>AV.str z') T1 ts vis::OB.mT M5 tn::R)) (fun(_,_)=>[]) (fun(vis,_)=>ts.length-vis.length) [0,1] [_,_] (([]:List BA),tm) ⟨fun q'=>by simp,by simp,fun q' h=>by simp at h⟩ ?_))
 rintro⟨vis,tn⟩ ⟨f1_1,f1_2,f1_3⟩
 refine tsq ?_
 refine Zub (Kd:=keyS) (f:=(fun z':BA=>AV.str z')) (L:=ts) (vis:=vis) (fun k' hk'=>hq k' hk') hJ hJ0 rfl rfl rfl (lb rfl) (fun a w h=>(h.get 0 rfl)) fun z2 h0z2 h1z2=>?_
 refine sy (.bool z2.1) (fun h=>YS rfl (h.get 0 rfl) rfl h.x) ?_
 refine seK [0,2,3] U3 rfl ?_
 refine nx (cjS 0 (fun hb1=>?_) fun hb1=>?_)
 refine tw (ob0 (congrArg (fun z'=>OB.iter b1 keyS (fun z':BA=>AV.str z') T1 ts (z')) (show(if z2.1 then vis++[z2.2]else vis)=(vis++[z2.2])from by rw[hb1];rfl))) ?_
 refine Zb (nx (Zc (ZG tb hJ [1,2,1003,1004] [.tup [.str z2.2,.str ((ZZ ts z2.2).getD default)],_,_,_,_] [0] U4 rfl ⟨fun _ _ _ hx hl _=>Zuq (Kd:=keyS) (f:=(fun z':BA=>AV.str z')) (L:=ts) (k:=z2.2) rfl (Zi hx (mo 0 rfl)) (hq z2.2 (by have:=(h1z2 hb1).2;rw[X8]at this;simpa using this)) (hl.env 1 7 _ rfl rfl) hx,trivial⟩ ?_)))
 refine ZE (snK 3 tb rfl ?_)
 refine kw pm1 ?_
 refine Zm7 (f:=(fun z':BA=>AV.str z')) Zbf hJ hJ0 z2.2 ((ZZ ts z2.2).getD default) rfl rfl (.inl rfl) (fun a w h=>⟨(h.get 2 rfl),(h.get 1 rfl),(h.get 0 rfl)⟩) ?_
 refine seK [3,4] [_,_] rfl ?_
 refine kw pm1 ?_
 exact YH (vis++[z2.2],Za7 tn z2.2 ((ZZ ts z2.2).getD default)) [0,1] ⟨Zo3 f1_1 (h1z2 hb1),by rw[List.nodup_append];exact⟨f1_2,by simp,fun x hx y hy e=>by rw[List.mem_singleton.1 hy]at e;subst e;exact(h1z2 hb1).1 hx⟩,fun q' hq'=>by rcases List.mem_append.1 hq' with h | h;exact f1_3 q' h;rw[List.mem_singleton.1 h];have:=(h1z2 hb1).2;rw[X8]at this;simpa using this⟩ (hm:=(show ts.length-(vis++[z2.2]).length<ts.length-vis.length from Zo4 f1_2 f1_3 (h1z2 hb1)))
 refine tw (ob0 (congrArg (fun z'=>OB.iter b1 keyS (fun z':BA=>AV.str z') T1 ts (z')) (show(if z2.1 then vis++[z2.2]else vis)=vis from by rw[hb1];rfl))) ?_
 refine Zt (kw Zlu ?_)
 refine kw pm1 ?_
 exact fun a w h=>Qo  ⟨tn,by intro k';rw[f1_1];by_cases hk9:(ZZ ts k').isSome=true;(rw[if_pos hk9,if_pos (h0z2 hb1 k' hk9)]);(rw[if_neg hk9];by_cases hv9:k'∈vis;(exact absurd (by rw[X8];simpa using f1_3 k' hv9) hk9);rw[if_neg hv9])⟩ rfl h rfl
end Go.Proofs.YtneapgbkkkjagaaGreatDoor
namespace Go.Proofs.YtneapgbkkkjagaaGreatDoor
abbrev alH (f:Fr):List Hy:=f.hyps++f.dummies
def lsK (l:List Hy):List BA:=l.foldl (fun s h=>QN s h.label) []
def tsK (l:List Hy):List (BA×BA):=l.foldl (fun t h=>if h.floating then Za7 t (ge h.text 1) (ge h.text 0)else t) []
def hmK (hm:List (BA×Hy)) (l:List Hy):List (BA×Hy):=l.foldl (fun m h=>Za7 m h.label h) hm
def hyK (cs vs fs:List BA) (hm:List (BA×Hy)) (tm:List (BA×BA)) (f:Fr) (i:Nat):Int:=
 ZgJ cs vs (QN fs f.label) hm tm (lsK ((alH f).take i)) (tsK ((alH f).take i)) (ge (alH f) i) (decide (((f.hyps.length:Nat):Int)≤((i:Nat):Int)))
def Zwv (f:Fr):Bool:=decide ((0:Int)< ((f.proof.length:Nat):Int))&& ((!f.thm||decide ((8000:Int)< ((f.proof.length:Nat):Int)))||f.proof.any fun s=>!Y1 s)
def ZeN (cs vs fs:List BA) (hm:List (BA×Hy)) (tm:List (BA×BA)) (f:Fr) (bf:List Hy):Int:=
 if !QE f.label then 2 else if((ZZ hm f.label).isSome|| (decide (f.label∈cs)||decide (f.label∈vs)))||decide (f.label∈fs)then 6
 else if decide ((40:Int)< ((f.hyps.length:Nat):Int))||decide ((40:Int)< ((f.dummies.length:Nat):Int))then 4
 else if !decide (Xu (alH f).length (hyK cs vs fs hm tm f)=0)then Xu (alH f).length (hyK cs vs fs hm tm f)
 else if !decide (Zlp cs vs f.text=0)then Zlp cs vs f.text
 else if !decide (Zfn vs f=0)then Zfn vs f
 else if Zwv f then 2
 else if((YX f.hyps).drop (Zd7 (bf.map Hy.label) ((YX f.hyps).map Hy.label))).any fun y=>(ZZ hm y.label).isSome then 7 else 0
theorem Zh7 {cs vs fs:List BA} {hm:List (BA×Hy)} {tm:List (BA×BA)} {ls:List BA} {ts:List (BA×BA)} {y:Hy} {dm:Bool} (h:ZgJ cs vs fs hm tm ls ts y dm=0):Zat y dm=false:=by
 cases hf:Zat y dm with
 | false=>rfl
 | true=>simp[ZgJ,hf]at h
theorem ZoK {y:Hy} {dm:Bool} (h:Zat y dm=false):y.text.length≤200:=by
 cases hf:y.floating with
 | true=>have:=Yx h hf;omega
 | false=>simp[Zat,hf]at h;omega
theorem ZgF (l:List Hy) (y:Hy):lsK (l++[y])=QN (lsK l) y.label:=by simp[lsK]
theorem ZcE (l:List Hy) (y:Hy):tsK (l++[y])=if y.floating then Za7 (tsK l) (ge y.text 1) (ge y.text 0)else tsK l:=by simp[tsK]
theorem Zrw (hm:List (BA×Hy)) (l:List Hy) (y:Hy):hmK hm (l++[y])=Za7 (hmK hm l) y.label y:=by simp[hmK]
theorem Zqd:∀(l:List Hy),(∀ y∈l,y.floating=true→y.text.length=2)→(∀ y∈l,∀ s∈y.text,s.size≤9223372036854775807)→∀ q∈(tsK l).map (·.1),q.size≤9223372036854775807:=by
 intro l
 rw[←List.reverse_reverse l]
 induction l.reverse with
 | nil=>simp[tsK]
 | cons y m ih=>
  intro h1 h2 q hq
  rw[List.reverse_cons]at h1 h2 hq
  rw[ZcE]at hq
  have ih':=ih (fun z hz=>h1 z (by simp at hz ⊢;exact .inl hz)) (fun z hz=>h2 z (by simp at hz ⊢;exact .inl hz))
  by_cases hf:y.floating=true
  · rw[if_pos hf,Zog]at hq
    split at hq
    · exact ih' q hq
    · rcases List.mem_append.1 hq with h | h
      · exact ih' q h
      · rw[List.mem_singleton.1 h]
        exact h2 y (by simp) _ (Zv (by have:=h1 y (by simp) hf;omega))
  · rw[if_neg hf]at hq;exact ih' q hq
def ZrE (tm ts:List (BA×BA)):List (BA×BA):=ts.foldr (fun p m=>Za7 m p.1 p.2) tm
theorem Zik (tm:List (BA×BA)):∀(ts:List (BA×BA)) (k:BA),ZZ (ZrE tm ts) k=if(ZZ ts k).isSome then ZZ ts k else ZZ tm k
 | [],k=>by simp[ZrE,QI]
 | p::ts,k=>by
  have ih:=Zik tm ts k
  simp only[ZrE,List.foldr_cons,Zb4,X2]at ih ⊢
  by_cases h:k=p.1
  · simp[h]
  · simp only[if_neg h];exact ih
end Go.Proofs.YtneapgbkkkjagaaGreatDoor
set_option maxHeartbeats 8000000
set_option maxRecDepth 100000
namespace Go.Proofs.YtneapgbkkkjagaaGreatDoor
open Go.RowKit
theorem ZuG {J:World→Prop} (hJ:Stab J) (M1:Nat) (M2:Nat) (M3:Nat) (M4:Nat) (M5:Nat) (cs:List BA) (vs:List BA) (fs:List BA) (hm:List (BA×Hy)) (tm:List (BA×BA)) (f:Fr) (bf:List Hy) (hw:f.wide.length*32≤140737488351232) (hG:ZaN J):FnM (ι:= { q':List BA×List (BA×Hy)×List (BA×BA) // ZeN cs vs fs hm tm f bf=0→q'.1=QN fs f.label∧q'.2.1=hmK hm (alH f)∧∀ k',ZZ q'.2.2 k'=if(ZZ (tsK (alH f)) k').isSome then ZZ (tsK (alH f)) k' else ZZ tm k' }) Tryz.prog J 50 [] [.ptr (mpC [M1,M2,M3,M4,M5]),.agg (frC f),.rd (Xm bf)] [OB.set keyS M1 cs,OB.set keyS M2 vs,OB.set keyS M3 fs,OB.mH M4 hm,OB.mT M5 tm] (fun _=>.int (ZeN cs vs fs hm tm f bf)) (fun i'=>[OB.set keyS M1 cs,OB.set keyS M2 vs,OB.set keyS M3 (i'.1.1),OB.mH M4 (i'.1.2.1),OB.mT M5 (i'.1.2.2)]):=by
 refine Yt (N:=183) Tryz.func50 rfl rfl (lb rfl) fun S w0 R hS hJ0 hH=>?_
 refine YA (B:=So J S w0 183 (OB.set keyS M1 cs::OB.set keyS M2 vs::OB.set keyS M3 fs::OB.mH M4 hm::OB.mT M5 tm::R) [(0,.ptr (mpC [M1,M2,M3,M4,M5])),(1,.agg (frC f)),(2,.rd (Xm bf))]) ?_ fun a w h=>h
 refine ln 2 fun hl1=>?_
 refine ZiN (fun a w h=>Zrx (h.get 1 rfl)) fun hsm=>?_
 refine ZG tb hJ [2,1000,1001] [.ptr [.ptr (mpC [M1,M2,M3,M4,M5])],.ptr (frC f),_] [0,1] U3 rfl ⟨fun _ _ hk hx hl _=>ZnD rfl (hl.env 0 0 _ rfl rfl) (Zp hS _ hk hx _ (Nat.le_refl _)) (jo hJ hx),fun _ _ hk hx hl _=>Yq rfl (hl.env 1 1 _ rfl rfl) (Zp hS _ hk hx _ (Nat.le_refl _)) (jo hJ hx),trivial⟩ ?_
 refine Zf (ZG tb hJ [0,1,2,1003] [_,_,.bool (QE f.label),_] [2] U4 rfl ⟨iFo hS hJ (ZcR hJ f.label) ZgW,trivial⟩ ?_)
 refine cj 3 (fun hb1=>?_) fun hb1=>?_
 ·
  have e9:ZeN cs vs fs hm tm f bf=2:=by rw[ZeN,if_pos hb1]
  refine qso tb hJ [1000] [_] [_] ?_
  exact Ze (fun a w h=>Ye  (m:=0) ⟨(fs,hm,tm),by first | (intro h9;rw[e9]at h9;exact absurd h9 (by first | decide | exact nz)) | (intro _;exact⟨rfl,by rw[f2_2,ZF (by omega)],fun k'=>by rw[NOGHOST.2 k',e3]⟩)⟩ rfl h rfl (eI (e9.symm)))
 ·
  refine Zb (nx (Zf (Zf (fun a w h=>Y0 (γ:=Nat) (fun ix'=>([.ptr (mpC [M1,M2,M3,M4,M5]),.ptr (mpC [M1,M2,M3,M4,M5]),.ptr (mpC [M4,M5]),.lit (.map (some M4)),.ptr (frC f),.str f.label,.tup [.agg (hyC ((ZZ hm f.label).getD default)),.bool ((ZZ hm f.label).isSome)],.tup [.agg (hyC ((ZZ hm f.label).getD default)),.bool ((ZZ hm f.label).isSome)],.agg (hyC ((ZZ hm f.label).getD default)),.bool ((ZZ hm f.label).isSome),.any,.any,.bool ((ZZ hm f.label).isSome)]:List AV).getD ix' .any) (fun _=>true) [(2,fun(g:Nat)=>.rd (Xm bf)),(3,fun(g:Nat)=>.ptr [.ptr (mpC [M1,M2,M3,M4,M5])]),(4,fun(g:Nat)=>.ptr (frC f)),(8,fun(g:Nat)=>.bool ((ZZ hm f.label).isSome))] (fun(j':Nat) (g:Nat)=>match j' with | 0=>(OB.set keyS M1 cs::OB.set keyS M2 vs::OB.set keyS M3 fs::OB.mH M4 hm::OB.mT M5 tm::R) | 1=>(OB.var g [lS (⟨#[]⟩:BA),lB false,Zg ([]:List BA)]::OB.set keyS M1 cs::OB.set keyS M2 vs::OB.set keyS M3 fs::OB.mH M4 hm::OB.mT M5 tm::R) | _=>(OB.var g [lS (((ZZ hm f.label).getD default).label),lB (((ZZ hm f.label).getD default).floating),Zg (((ZZ hm f.label).getD default).text)]::OB.set keyS M1 cs::OB.set keyS M2 vs::OB.set keyS M3 fs::OB.mH M4 hm::OB.mT M5 tm::R)) (fun(k':Nat) (g:Nat)=>match k' with | 0=>(.pointer (some ⟨g,0,none⟩)) | 1=>undef | _=>undef) [10,11] 2 0 (fun _=>rfl) h hJ YC rfl rfl rfl rfl rfl rfl hsb ⟨?_,⟨?_,⟨?_,⟨?_,⟨?_,⟨?_,⟨?_,⟨?_,⟨?_,⟨?_,⟨?_,⟨?_,⟨?_,trivial⟩⟩⟩⟩⟩⟩⟩⟩⟩⟩⟩⟩⟩ ⟨?e3_1_0,⟨?e3_1_1,trivial⟩⟩ ⟨.old 0 2 _ rfl rfl,⟨.old 1 3 _ rfl rfl,⟨.old 2 4 _ rfl rfl,⟨.new 12 8 _ rfl rfl rfl,trivial⟩⟩⟩⟩ ?n3_1))))
  exact oX rfl fun hx hl=>ZcO ZhS rfl (hl.env 1 3 _ rfl rfl) hx
  exact oX rfl fun hx hl=>Xw rfl (hl.D 0 24 rfl rfl) hx
  exact oX rfl fun hx hl=>ZQ Za2 rfl (hl.D 1 25 rfl rfl) hx
  exact oX rfl fun hx hl=>ZI ZhR rfl (hl.D 2 26 rfl rfl) hx
  exact oX rfl fun hx hl=>ZQ Zdx rfl (hl.env 2 4 _ rfl rfl) hx
  exact oX rfl fun hx hl=>ZI QP rfl (hl.D 4 28 rfl rfl) hx
  exact fun _ O' hO'=>⟨rfl,fun _ _ _ hx hl _=>Ql (Kd:=keyS) (f:=(fun z':Hy=>AV.agg (hyC z'))) (L:=hm) QQ Za9 f.label rfl (Zi hx (hO' _ (mo 3 rfl))) (hl.D 3 27 rfl rfl) (hl.D 5 29 rfl rfl) hx⟩
  exact oX rfl fun hx hl=>Z5 rfl (hl.D 6 30 rfl rfl) hx
  exact oX rfl fun hx hl=>YS rfl (hl.D 7 23 rfl rfl) rfl hx
  exact oX rfl fun hx hl=>YS rfl (hl.D 7 23 rfl rfl) rfl hx
  exact Zn rfl
  exact Zn rfl
  exact oX rfl fun hx hl=>XC rfl (hl.D 9 32 rfl rfl) hx
  case e3_1_0=>exact⟨_,rfl,rfl,rfl,rfl,fun g _ w hk hx _ _=>ZB (Zbl YJ hJ rfl hk hx) fun v w' ⟨g',hv,hp⟩=>⟨g',rfl,fun k' hk'=>absurd hk' (Nat.not_lt_zero _),fun _=>hv,hp⟩⟩
  case e3_1_1=>exact⟨_,rfl,rfl,rfl,rfl,fun g _ w hk hx hl hs=>(by obtain⟨us2,hv2,hr3⟩:=Q0 (hl.D 8 31 rfl rfl);exact ZB (Xt (S':=S) (off:=0) (news:=U3) (es:=U3) (us:=us2) hJ hJ0 YL rfl hk hx (ZcM (hs 0 10 _ 7 (by omega) rfl rfl rfl)) (by rw[hv2];rfl) hr3 (lb rfl) rfl) fun v w' hp=>⟨g,rfl,fun _ _=>rfl,fun e=>(by cases e),hp⟩)⟩
  clear a w h
  intro b1
  dsimp only[List.map]
  refine kw ZM ?_
  refine nx (ZG tb hJ [0,1,2,1015] [_,_,_,_,_,.bool (decide (f.label∈cs)||decide (f.label∈vs)),_,_,_,_,_,_,_,_,.bool (decide (f.label∈fs)),_] [5,14] U4 rfl ⟨fun _ _ hk hx hl hc=>Xq (Zb1 hJ M1 M2 M3 M4 M5 cs vs f.label) ZgX rfl (Zp hS _ hk hx) (hx.1) (ZT (Zi hx (mo 0 rfl)) (ZT (Zi hx (mo 1 rfl)) Zy)) (Za (hl.D 2 35 rfl hc) (Za (hl.D 4 37 rfl hc) Zh)) (jo hJ hx),fun _ _ _ hx hl hc=>YE (Kd:=keyS) (xs:=fs) Yd Yf f.label rfl (Zi hx (mo 2 rfl)) (hl.D 11 44 rfl hc) (hl.D 13 46 rfl hc) hx,trivial⟩ ?_)
  refine cj 3 (fun hb2=>?_) fun hb2=>?_
  ·
   have e9:ZeN cs vs fs hm tm f bf=6:=by rw[ZeN,if_neg (by rw[hb1];decide),if_pos hb2]
   refine qso tb hJ [1000] [_] [_] ?_
   exact Ze (fun a w h=>Ye  (m:=0) ⟨(fs,hm,tm),by first | (intro h9;rw[e9]at h9;exact absurd h9 (by first | decide | exact nz)) | (intro _;exact⟨rfl,by rw[f2_2,ZF (by omega)],fun k'=>by rw[NOGHOST.2 k',e3]⟩)⟩ rfl h rfl (eI (e9.symm)))
  ·
   refine Zb (nx (Zf (ZG tb hJ [0,1,2,1001,1009] [_,_,.int (f.hyps.length:Nat),_,_,_,_,.int (f.dummies.length:Nat),_,_] [2,7] U5 rfl ⟨Z2 Zx,Z2 Zx,trivial⟩ ?_)))
   refine ln 3 fun hl2=>?_
   refine cj 4 (fun hb3=>?_) fun hb3=>?_
   ·
    have e9:ZeN cs vs fs hm tm f bf=4:=by rw[ZeN,if_neg (by rw[hb1];decide),if_neg (by rw[hb2];decide),if_pos hb3]
    refine qso tb hJ [1000] [_] [_] ?_
    exact Ze (fun a w h=>Ye  (m:=0) ⟨(fs,hm,tm),by first | (intro h9;rw[e9]at h9;exact absurd h9 (by first | decide | exact nz)) | (intro _;exact⟨rfl,by rw[f2_2,ZF (by omega)],fun k'=>by rw[NOGHOST.2 k',e3]⟩)⟩ rfl h rfl (eI (e9.symm)))
   ·
    have hb3a:f.hyps.length≤40∧f.dummies.length≤40:=by simp at hb3;omega
    refine Zb (nx (tw pm2 ?_))
    refine Zf (fun a w h=>Y0 (γ:=Unit) (fun ix'=>([.ptr (mpC [M1,M2,M3,M4,M5]),.ptr (mpC [M1,M2,M3,M4,M5]),.ptr (mpC [M3,M4,M5]),.lit (.map (some M3)),.ptr (frC f),.str f.label,.any]:List AV).getD ix' .any) (fun _=>true) [(2,fun(g:Unit)=>.rd (Xm bf)),(3,fun(g:Unit)=>.ptr [.ptr (mpC [M1,M2,M3,M4,M5])]),(4,fun(g:Unit)=>.ptr (frC f))] (fun(j':Nat) (g:Unit)=>match j' with | 0=>(OB.set keyS M3 fs::OB.set keyS M1 cs::OB.set keyS M2 vs::OB.mH M4 hm::OB.mT M5 tm::R) | _=>(OB.set keyS M3 (QN fs f.label)::OB.set keyS M1 cs::OB.set keyS M2 vs::OB.mH M4 hm::OB.mT M5 tm::R)) (fun(k':Nat) (g:Unit)=>match k' with | 0=>undef | _=>undef) [6] 0 () (fun _=>rfl) h hJ YC rfl rfl rfl rfl rfl rfl hsb ⟨?_,⟨?_,⟨?_,⟨?_,⟨?_,⟨?_,⟨?_,trivial⟩⟩⟩⟩⟩⟩⟩ ⟨?e8_2_0,trivial⟩ ⟨.old 0 2 _ rfl rfl,⟨.old 1 3 _ rfl rfl,⟨.old 2 4 _ rfl rfl,trivial⟩⟩⟩ ?n8_2)
    exact oX rfl fun hx hl=>ZcO ZhS rfl (hl.env 1 3 _ rfl rfl) hx
    exact oX rfl fun hx hl=>Xw rfl (hl.D 0 59 rfl rfl) hx
    exact oX rfl fun hx hl=>ZQ Zl9 rfl (hl.D 1 60 rfl rfl) hx
    exact oX rfl fun hx hl=>ZI Zts rfl (hl.D 2 61 rfl rfl) hx
    exact oX rfl fun hx hl=>ZQ Zdx rfl (hl.env 2 4 _ rfl rfl) hx
    exact oX rfl fun hx hl=>ZI QP rfl (hl.D 4 63 rfl rfl) hx
    exact Zn rfl
    case e8_2_0=>exact⟨_,rfl,rfl,rfl,rfl,fun g _ w hk hx hl _=>ZB (d_putS Yd hJ hJ0 f.label (.inl rfl) hk hx (hl.D 3 62 rfl rfl) (hl.D 5 64 rfl rfl) (Rel.of_lit (.bool true))) fun v w' ⟨_,hp⟩=>⟨g,rfl,fun _ _=>rfl,fun e=>(by cases e),hp⟩⟩
    clear a w h
    intro _
    dsimp only[List.map]
    refine nx (tsq ?_)
    refine ZbD keyS hJ rfl rfl rfl (lb rfl) fun m2=>?_
    refine Zhn keyS (fun z':BA=>AV.str z') hJ rfl rfl rfl (lb rfl) fun m3=>?_
    refine sq (.agg [.lit (.map (some m2)),.lit (.map (some m3))]) rfl rfl (lb rfl) (fun a _ h=>Xr (us:=[a.eval (.tmp 65),a.eval (.tmp 66)]) ZjF rfl (by simp) (Zk (h.get 1 rfl) (Zk (h.get 0 rfl) ZJ)) rfl h.x) ?_
    refine Z4 ZiK hJ rfl rfl rfl (lb rfl) fun b4=>?_
    refine ZD (b:=b4) (off:=0) (es:=[_,_]) (news:=[_,_]) hJ hJ0 Zly rfl rfl rfl (lb rfl) rfl (fun a w h=>⟨(h.get 0 rfl),(h.get 1 rfl)⟩) ?_
    refine kw (fun h=>YO hS h (m:=0) (s:=9) rfl) ?_
    refine seK [0,4,5,6] U4 rfl ?_
    refine nx (Zf (Zf (Yu tb hJ [0,1,2,3,1003,1004,1005,1006,1007] [_,_,_,_,.rd (Zu9 ([f.hyps,f.dummies]:List (List Hy))),.rd (Xm (([f.hyps,f.dummies]:List (List Hy)).flatten)),.int ((([f.hyps,f.dummies]:List (List Hy)).flatten).length:Nat),_] [4,5,6] U9 rfl ⟨fun a _ hk hx hl _=>XB (k:=2) (us:=[a.eval (.tmp 69),a.eval (.tmp 71)]) Zaa Zfy rfl (by simp) (Zk (hl.D 1 69 rfl rfl) (Zk (hl.D 3 71 rfl rfl) ZJ)) rfl (by decide) (by decide) (Zp hS _ hk hx _ (Nat.le_refl _)) (jo hJ hx),iFo hS hJ (ZhP hJ ([f.hyps,f.dummies]:List (List Hy)) (by refine X7 ?_;simp;omega)) Zpj,Z2 Zx,trivial⟩ ?_)))
    refine kw (sa 6 rfl (congrArg (fun z'=>AV.rd (Xm z')) (show(([f.hyps,f.dummies]:List (List Hy)).flatten)=(alH f)from by simp))) ?_
    refine kw (sa 7 rfl (congrArg AV.int (show(((([f.hyps,f.dummies]:List (List Hy)).flatten).length:Nat):Int)=(((alH f).length:Nat):Int)from by simp))) ?_
    refine nx (ln 4 fun hl3=>?_)
    refine ln 5 fun hl4=>?_
    refine ln 6 fun hl5=>?_
    refine Zc (lpo (ι:=Nat×(List BA)×(List (BA×BA))) (fun(k,ls,ts)=>(k≤(alH f).length)∧(ls=lsK ((alH f).take k))∧(ts=tsK ((alH f).take k))∧(∀ j,j<k→hyK cs vs fs hm tm f j=0)) (fun(_,ls,ts)=>(OB.mT m3 ts::OB.set keyS m2 ls::OB.set keyS M3 (QN fs f.label)::OB.set keyS M1 cs::OB.set keyS M2 vs::OB.mH M4 hm::OB.mT M5 tm::R)) (fun(k,_,_)=>[(75,.int (k:Nat))]) (fun(k,_,_)=>(alH f).length-k) [0,1,2,3,6,7,8] U6 (0,([]:List BA),([]:List (BA×BA))) ⟨Nat.zero_le _,rfl,rfl,fun j hj=>by omega⟩ ?_)
    rintro⟨k,ls,ts⟩ ⟨f1_1,f1_2,f1_3,f1_4⟩
    refine qso tb hJ (r7 [1000]) [_] U8 ?_
    refine cjS 7 (fun hb4=>?_) fun hb4=>?_
    ·
     have hk4:k< (alH f).length:=Int.ofNat_lt.1 (of_decide_eq_true hb4)
     refine Zb (nx (Zf (Zc (tsq ?_))))
     refine snK 1 tb rfl ?_
     refine sy (.ptr (hyC (ge (alH f) k))) (fun h=>ZO (i:=(k:Int)) Zq rfl (h.get 5 rfl) (h.get 7 rfl) (Int.natCast_nonneg _) (ZU (xs:=alH f) (k:=k) sfz) rfl h.x) ?_
     refine snK 1 tb rfl ?_
     refine Z4 YJ hJ rfl rfl rfl (lb rfl) fun b5=>?_
     refine snK 1 tb rfl ?_
     refine ZD (b:=b5) (off:=0) (es:=U3) (news:=U3) hJ hJ0 YL rfl rfl rfl (lb rfl) rfl (fun a w h=>⟨(h.get 1 rfl),(h.get 2 rfl)⟩) ?_
     refine kw (fun h=>YO hS h (m:=1) (s:=11) rfl) ?_
     refine seK [0,1,5,6,7,8,9,10,11] U9 rfl ?_
     refine nx (Zf (ZG tb hJ [0,2,3,4,5,6,7,8,1009] [_,_,_,_,_,_,.int (f.hyps.length:Nat),_,.int (ZgJ cs vs (QN fs f.label) hm tm ls ts (ge (alH f) k) (decide ((f.hyps.length:Int)≤(k:Int)))),_] [6,8] U9 rfl ⟨Z2 Zx,fun _ _ hk hx hl _=>Xq (p_hyp hJ M1 M2 M3 M4 M5 m2 m3 cs vs (QN fs f.label) hm tm ls ts (ge (alH f) k) (decide ((f.hyps.length:Int)≤(k:Int)))) ZvH rfl (Zp hS _ hk hx) (hx.1) (ZT (Zi hx (mo 3 rfl)) (ZT (Zi hx (mo 4 rfl)) (ZT (Zi hx (mo 2 rfl)) (ZT (Zi hx (mo 5 rfl)) (ZT (Zi hx (mo 6 rfl)) (ZT (Zi hx (mo 1 rfl)) (ZT (Zi hx (mo 0 rfl)) Zy))))))) (Za (hl.D 0 80 rfl rfl) (Za (hl.D 1 81 rfl rfl) (Za (hl.D 2 82 rfl rfl) (Za (hl.D 7 87 rfl rfl) Zh)))) (jo hJ hx),trivial⟩ ?_))
     refine qso tb hJ [0,1,2,3,4,5,6,7,8,1001] [_,_] U10 ?_
     refine cj 9 (fun hb5=>?_) fun hb5=>?_
     ·
      have nz:=ZgC hb5
      have e0:hyK cs vs fs hm tm f k=ZgJ cs vs (QN fs f.label) hm tm ls ts (ge (alH f) k) (decide ((f.hyps.length:Int)≤(k:Int))):=by rw[hyK,←f1_2,←f1_3]
      have e5:Xu (alH f).length (hyK cs vs fs hm tm f)=hyK cs vs fs hm tm f k:=Ys (by omega) f1_4 (by rw[e0];exact nz)
      have e9:ZeN cs vs fs hm tm f bf=ZgJ cs vs (QN fs f.label) hm tm ls ts (ge (alH f) k) (decide ((f.hyps.length:Int)≤(k:Int))):=by rw[ZeN,if_neg (by rw[hb1];decide),if_neg (by rw[hb2];decide),if_neg (by rw[hb3];decide),if_pos (by rw[e5,e0];exact hb5),e5,e0]
      refine qso tb hJ [1001] [_,_] [_] ?_
      refine tw ZM ?_
      refine tw ZM ?_
      refine tw pm4 ?_
      refine tw pm4 ?_
      refine tw pm2 ?_
      refine tw pm4 ?_
      refine tw pm4 ?_
      exact Ze (fun a w h=>Ye  (m:=0) ⟨((QN fs f.label),hm,tm),by first | (intro h9;rw[e9]at h9;exact absurd h9 (by first | decide | exact nz)) | (intro _;exact⟨rfl,by rw[f2_2,ZF (by omega)],fun k'=>by rw[NOGHOST.2 k',e3]⟩)⟩ rfl h rfl (eI (e9.symm)))
     ·
      have q5:=Ztu hb5
      have hf5:=Zh7 q5
      refine Zb (nx (tsq ?_))
      refine snK 4 tb rfl ?_
      refine kw pm1 ?_
      refine Zco Yd hJ hJ0 ((ge (alH f) k).label) rfl rfl (.inl rfl) (fun a w h=>⟨(h.get 2 rfl),(h.get 0 rfl),(Rel.of_lit (.bool true))⟩) ?_
      refine seK [4,5,6,7,8,9,10,11] U8 rfl ?_
      refine nx (qso tb hJ (r8 [1001]) [_,_] U9 ?_)
      refine cj 8 (fun hb6=>?_) fun hb6=>?_
      ·
       try simp at hb6
       refine tw pm1 ?_
       refine fun a w h=>Y0 (γ:=Unit) (fun ix'=>([.ptr [.lit (.map (some m3))],.lit (.map (some m3)),.ptr [Zg ((ge (alH f) k).text)],.rd (Zg ((ge (alH f) k).text)),.ptr [lS (ge ((ge (alH f) k).text) 1)],.str (ge ((ge (alH f) k).text) 1),.ptr [Zg ((ge (alH f) k).text)],.rd (Zg ((ge (alH f) k).text)),.ptr [lS (ge ((ge (alH f) k).text) 0)],.str (ge ((ge (alH f) k).text) 0),.any]:List AV).getD ix' .any) (fun _=>true) [(9,fun(g:Unit)=>.ptr (mpC [m2,m3])),(2,fun(g:Unit)=>.rd (Xm bf)),(3,fun(g:Unit)=>.ptr [.ptr (mpC [M1,M2,M3,M4,M5])]),(4,fun(g:Unit)=>.ptr (frC f)),(73,fun(g:Unit)=>.rd (Xm (alH f))),(74,fun(g:Unit)=>.int ((alH f).length:Nat)),(75,fun(g:Unit)=>.int (k:Nat))] (fun(j':Nat) (g:Unit)=>match j' with | 0=>(OB.mT m3 ts::OB.set keyS m2 (QN ls ((ge (alH f) k).label))::OB.set keyS M3 (QN fs f.label)::OB.set keyS M1 cs::OB.set keyS M2 vs::OB.mH M4 hm::OB.mT M5 tm::R) | _=>(OB.mT m3 (Za7 ts (ge ((ge (alH f) k).text) 1) (ge ((ge (alH f) k).text) 0))::OB.set keyS m2 (QN ls ((ge (alH f) k).label))::OB.set keyS M3 (QN fs f.label)::OB.set keyS M1 cs::OB.set keyS M2 vs::OB.mH M4 hm::OB.mT M5 tm::R)) (fun(k':Nat) (g:Unit)=>match k' with | 0=>undef | _=>undef) [10] 0 () (fun _=>rfl) h hJ YC rfl rfl rfl rfl rfl rfl hsb ⟨?_,⟨?_,⟨?_,⟨?_,⟨?_,⟨?_,⟨?_,⟨?_,⟨?_,⟨?_,⟨?_,trivial⟩⟩⟩⟩⟩⟩⟩⟩⟩⟩⟩ ⟨?e18_3_0,trivial⟩ ⟨.old 1 9 _ rfl rfl,⟨.old 2 2 _ rfl rfl,⟨.old 3 3 _ rfl rfl,⟨.old 4 4 _ rfl rfl,⟨.old 5 73 _ rfl rfl,⟨.old 6 74 _ rfl rfl,⟨.old 7 75 _ rfl rfl,trivial⟩⟩⟩⟩⟩⟩⟩ ?n18_3
       exact oX rfl fun hx hl=>ZQ ZeS rfl (hl.env 1 9 _ rfl rfl) hx
       exact oX rfl fun hx hl=>ZI Zn8 rfl (hl.D 0 98 rfl rfl) hx
       exact oX rfl fun hx hl=>ZQ Zah rfl (hl.env 0 11 _ rfl rfl) hx
       exact oX rfl fun hx hl=>ZI XI rfl (hl.D 2 100 rfl rfl) hx
       exact oX rfl fun hx hl=>ZO (i:=((1:Nat):Int)) Zd rfl (hl.D 3 101 rfl rfl) (Rel.of_lit (.int .i64 1)) (Int.natCast_nonneg _) (ZU (xs:=(ge (alH f) k).text) (k:=1) (by have:=Yx hf5 hb6;omega)) rfl hx
       exact oX rfl fun hx hl=>ZI QP rfl (hl.D 4 102 rfl rfl) hx
       exact oX rfl fun hx hl=>ZQ Zah rfl (hl.env 0 11 _ rfl rfl) hx
       exact oX rfl fun hx hl=>ZI XI rfl (hl.D 6 104 rfl rfl) hx
       exact oX rfl fun hx hl=>ZO (i:=((0:Nat):Int)) Zd rfl (hl.D 7 105 rfl rfl) (Rel.of_lit (.int .i64 0)) (Int.natCast_nonneg _) (ZU (xs:=(ge (alH f) k).text) (k:=0) (by have:=Yx hf5 hb6;omega)) rfl hx
       exact oX rfl fun hx hl=>ZI QP rfl (hl.D 8 106 rfl rfl) hx
       exact Zn rfl
       case e18_3_0=>exact⟨_,rfl,rfl,rfl,rfl,fun g _ w hk hx hl _=>ZB (Zo1 (f:=(fun z':BA=>AV.str z')) Zbf hJ hJ0 (ge ((ge (alH f) k).text) 1) (ge ((ge (alH f) k).text) 0) (.inl rfl) hk hx (hl.D 1 99 rfl rfl) (hl.D 5 103 rfl rfl) (hl.D 9 107 rfl rfl)) fun v w' ⟨_,hp⟩=>⟨g,rfl,fun _ _=>rfl,fun e=>(by cases e),hp⟩⟩
       clear a w h
       intro _
       dsimp only[List.map]
       refine nx (Yu tb hJ (r6 [1001]) [.int (k+1:Nat),_] [0] U7 rfl ⟨Ya,trivial⟩ ?_)
       exact YH (k+1,QN ls ((ge (alH f) k).label),Za7 ts (ge ((ge (alH f) k).text) 1) (ge ((ge (alH f) k).text) 0)) (r7 []) ⟨by omega,by rw[Z0 (by omega),ZgF,←f1_2],by rw[Z0 (by omega),ZcE,←f1_3,if_pos hb6],ZK f1_4 (by rw[hyK,←f1_2,←f1_3];exact q5)⟩
      ·
       try simp at hb6
       refine Zb (nx (Yu tb hJ [1,2,3,4,5,6,1001] [.int (k+1:Nat),_] [0] U7 rfl ⟨Ya,trivial⟩ ?_))
       refine kw pm6 ?_
       refine kw pm6 ?_
       refine kw pm6 ?_
       refine kw pm6 ?_
       refine kw pm6 ?_
       refine kw pm5 ?_
       refine kw pm6 ?_
       exact YH (k+1,QN ls ((ge (alH f) k).label),ts) (r7 []) ⟨by omega,by rw[Z0 (by omega),ZgF,←f1_2],by rw[Z0 (by omega),ZcE,←f1_3,if_neg (by simp[hb6])],ZK f1_4 (by rw[hyK,←f1_2,←f1_3];exact q5)⟩
    ·
     have hk4:(alH f).length≤k:=by have:=of_decide_eq_false hb4;omega
     have e4:Xu (alH f).length (hyK cs vs fs hm tm f)=0:=X4 fun j hj=>f1_4 j (by omega)
     have e3:ts=tsK (alH f):=by rw[f1_3,ZF (by omega)]
     have hfm:∀ y∈alH f,∃ dm,Zat y dm=false:=fun y hy=>by obtain⟨j,hj,rfl⟩:=Xj hy;exact⟨_,Zh7 (f1_4 j (by omega))⟩
     have h2t:∀ y∈alH f,y.floating=true→y.text.length=2:=fun y hy hf=>by obtain⟨dm,hd⟩:=hfm y hy;exact Yx hd hf
     refine Zt (nx (Zf (ZG tb hJ [0,1,2,3,1002,1004] [_,_,_,.int (Zlp cs vs f.text),_] [3] U6 rfl ⟨fun _ _ hk hx hl _=>Xq (Ztn hJ M1 M2 M3 M4 M5 cs vs f.text) Zpi rfl (Zp hS _ hk hx) (hx.1) (ZT (Zi hx (mo 3 rfl)) (ZT (Zi hx (mo 4 rfl)) Zy)) (Za (hl.D 0 109 rfl rfl) (Za (hl.D 2 111 rfl rfl) Zh)) (jo hJ hx),trivial⟩ ?_)))
     refine ln 4 fun hl6=>?_
     refine qso tb hJ [0,1,2,3,5,1001] [_,_] U6 ?_
     refine cj 5 (fun hb7=>?_) fun hb7=>?_
     ·
      have nz:=ZgC hb7
      have e9:ZeN cs vs fs hm tm f bf=Zlp cs vs f.text:=by rw[ZeN,if_neg (by rw[hb1];decide),if_neg (by rw[hb2];decide),if_neg (by rw[hb3];decide),if_neg (by rw[e4];decide),if_pos hb7]
      refine qso tb hJ [1001] [_,_] [_] ?_
      refine tw ZM ?_
      refine tw ZM ?_
      refine tw pm4 ?_
      refine tw pm4 ?_
      refine tw pm2 ?_
      refine tw pm4 ?_
      refine tw pm4 ?_
      exact Ze (fun a w h=>Ye  (m:=0) ⟨((QN fs f.label),hm,tm),by first | (intro h9;rw[e9]at h9;exact absurd h9 (by first | decide | exact nz)) | (intro _;exact⟨rfl,by rw[f2_2,ZF (by omega)],fun k'=>by rw[NOGHOST.2 k',e3]⟩)⟩ rfl h rfl (eI (e9.symm)))
     ·
      refine Zb (nx (Zf (ZG tb hJ [0,1,2,3,1003] [_,_,.int (Zfn vs f),_] [2] U5 rfl ⟨fun _ _ hk hx hl _=>Xq (p_sets hJ M1 M2 M3 M4 M5 vs f (hb3a.1) (hw) (fun x hx=>h2t x (List.mem_append_left _ hx))) ZvG rfl (Zp hS _ hk hx) (hx.1) (ZT (Zi hx (mo 4 rfl)) Zy) (Za (hl.D 0 116 rfl rfl) (Za (hl.D 1 117 rfl rfl) Zh)) (jo hJ hx),trivial⟩ ?_)))
      refine qso tb hJ (r5 [1001]) [_,_] U6 ?_
      refine cj 5 (fun hb8=>?_) fun hb8=>?_
      ·
       have nz:=ZgC hb8
       have e9:ZeN cs vs fs hm tm f bf=Zfn vs f:=by rw[ZeN,if_neg (by rw[hb1];decide),if_neg (by rw[hb2];decide),if_neg (by rw[hb3];decide),if_neg (by rw[e4];decide),if_neg (by rw[hb7];decide),if_pos hb8]
       refine qso tb hJ [1001] [_,_] [_] ?_
       refine tw ZM ?_
       refine tw ZM ?_
       refine tw pm4 ?_
       refine tw pm4 ?_
       refine tw pm2 ?_
       refine tw pm4 ?_
       refine tw pm4 ?_
       exact Ze (fun a w h=>Ye  (m:=0) ⟨((QN fs f.label),hm,tm),by first | (intro h9;rw[e9]at h9;exact absurd h9 (by first | decide | exact nz)) | (intro _;exact⟨rfl,by rw[f2_2,ZF (by omega)],fun k'=>by rw[NOGHOST.2 k',e3]⟩)⟩ rfl h rfl (eI (e9.symm)))
      ·
       refine Zb (nx (Zf (ZG tb hJ [0,1,2,3,1001,1019] [_,_,.int (f.proof.length:Nat),_,_,_,_,_,_,_,_,.int (f.proof.length:Nat),_,_,_,_,_,.bool (f.proof.any (fun s=>!Y1 s)),_,_] [2,11,17] U6 rfl ⟨Z2 Zm,Z2 Zm,fun _ _ hk hx hl hc=>Xq (YY hJ f.proof 81 [] [] (fun s=>!Y1 s) (fun q'=>(ZqT hJ q' hG).r) (ZvF)) Ze6 rfl (Zp hS _ hk hx) (hx.1) Zy (Za (hl.D 16 138 rfl hc) (Za (ZaC 81) Zh)) (jo hJ hx),trivial⟩ ?_)))
       refine ln 4 fun hl7=>?_
       refine cj 5 (fun hb9=>?_) fun hb9=>?_
       ·
        have e9:ZeN cs vs fs hm tm f bf=2:=by rw[ZeN,if_neg (by rw[hb1];decide),if_neg (by rw[hb2];decide),if_neg (by rw[hb3];decide),if_neg (by rw[e4];decide),if_neg (by rw[hb7];decide),if_neg (by rw[hb8];decide),if_pos (show Zwv f=true from hb9)]
        refine qso tb hJ [1000] [_] [_] ?_
        refine tw ZM ?_
        refine tw ZM ?_
        refine tw pm4 ?_
        refine tw pm4 ?_
        refine tw pm2 ?_
        refine tw pm4 ?_
        refine tw pm4 ?_
        exact Ze (fun a w h=>Ye  (m:=0) ⟨((QN fs f.label),hm,tm),by first | (intro h9;rw[e9]at h9;exact absurd h9 (by first | decide | exact nz)) | (intro _;exact⟨rfl,by rw[f2_2,ZF (by omega)],fun k'=>by rw[NOGHOST.2 k',e3]⟩)⟩ rfl h rfl (eI (e9.symm)))
       ·
        refine Zb (nx (ZG tb hJ [0,1,2,3,1001,1002] [_,.rd (Xm (YX f.hyps)),_] [1] U6 rfl ⟨iFo hS hJ (ZdI hJ f (by refine X7 ?_;omega)) Zpo,trivial⟩ ?_))
        refine ln 4 fun hl8=>?_
        refine ZG tb hJ [0,2,3,1008,1009] [_,_,_,.int (Zd7 (bf.map Hy.label) ((YX f.hyps).map Hy.label):Nat),_,.int ((YX f.hyps).length:Nat),_,.int ((YX f.hyps).length:Nat),.rd (Xm ((YX f.hyps).drop (Zd7 (bf.map Hy.label) ((YX f.hyps).map Hy.label)))),_] [3,5,7,8] U5 rfl ⟨iFo hS hJ (ZqV hJ bf (YX f.hyps)) ZvD,Z2 Zx,Z2 Zx,fun _ _ _ hx hl _=>ZqA (ys:=(YX f.hyps).drop (Zd7 (bf.map Hy.label) ((YX f.hyps).map Hy.label))) (lo:=Zd7 (bf.map Hy.label) ((YX f.hyps).map Hy.label)) rfl Zq (fun _=>rfl) rfl (hl.D 0 144 rfl rfl) (hl.D 3 147 rfl rfl) (hl.D 5 149 rfl rfl) (hl.D 7 151 rfl rfl) (by have:=Zjs (bf.map Hy.label) ((YX f.hyps).map Hy.label);simpa using this) hx,trivial⟩ ?_
        refine ln 3 fun hl9=>?_
        refine Zf (ZG tb hJ [0,1,2,1002] [_,.fn 84 [.ptr [.ptr (mpC [M1,M2,M3,M4,M5])]],.bool (((YX f.hyps).drop (Zd7 (bf.map Hy.label) ((YX f.hyps).map Hy.label))).any (fun y=>(ZZ hm y.label).isSome))] [1,2] U4 rfl ⟨fun _ _ _ hx hl _=>XR (caps:=[(.tmp 3)]) rfl (Za (hl.env 1 3 _ rfl rfl) Zh) hx,fun _ _ hk hx hl _=>Xq (Qm hJ ((YX f.hyps).drop (Zd7 (bf.map Hy.label) ((YX f.hyps).map Hy.label))) 84 [.ptr [.ptr (mpC [M1,M2,M3,M4,M5])]] [OB.mH M4 hm] (fun y=>(ZZ hm y.label).isSome) (fun q'=>ZqS hJ M1 M2 M3 M4 M5 hm q') (ZvC)) ZgZ rfl (Zp hS _ hk hx) (hx.1) (ZT (Zi hx (mo 5 rfl)) Zy) (Za (hl.D 0 153 rfl rfl) (Za (hl.D 1 154 rfl rfl) Zh)) (jo hJ hx),trivial⟩ ?_)
        refine cj 3 (fun hb10=>?_) fun hb10=>?_
        ·
         have e9:ZeN cs vs fs hm tm f bf=7:=by rw[ZeN,if_neg (by rw[hb1];decide),if_neg (by rw[hb2];decide),if_neg (by rw[hb3];decide),if_neg (by rw[e4];decide),if_neg (by rw[hb7];decide),if_neg (by rw[hb8];decide),if_neg (by rw[show Zwv f=_ from hb9];decide),if_pos hb10]
         refine qso tb hJ [1000] [_] [_] ?_
         refine tw ZM ?_
         refine tw ZM ?_
         refine tw pm4 ?_
         refine tw pm4 ?_
         refine tw pm2 ?_
         refine tw pm4 ?_
         refine tw pm4 ?_
         exact Ze (fun a w h=>Ye  (m:=0) ⟨((QN fs f.label),hm,tm),by first | (intro h9;rw[e9]at h9;exact absurd h9 (by first | decide | exact nz)) | (intro _;exact⟨rfl,by rw[f2_2,ZF (by omega)],fun k'=>by rw[NOGHOST.2 k',e3]⟩)⟩ rfl h rfl (eI (e9.symm)))
        ·
         have e9:ZeN cs vs fs hm tm f bf=0:=by rw[ZeN,if_neg (by rw[hb1];decide),if_neg (by rw[hb2];decide),if_neg (by rw[hb3];decide),if_neg (by rw[e4];decide),if_neg (by rw[hb7];decide),if_neg (by rw[hb8];decide),if_neg (by rw[show Zwv f=_ from hb9];decide),if_neg (by rw[hb10];decide)]
         refine Zb (nx (Zf (Zf (Yu tb hJ [0,1,1005,1006,1007] [_,_,_,_,.rd (Zu9 ([f.hyps,f.dummies]:List (List Hy))),.rd (Xm (([f.hyps,f.dummies]:List (List Hy)).flatten)),.int ((([f.hyps,f.dummies]:List (List Hy)).flatten).length:Nat),_] [4,5,6] U5 rfl ⟨fun a _ hk hx hl _=>XB (k:=2) (us:=[a.eval (.tmp 157),a.eval (.tmp 159)]) Zaa Zfy rfl (by simp) (Zk (hl.D 1 157 rfl rfl) (Zk (hl.D 3 159 rfl rfl) ZJ)) rfl (by decide) (by decide) (Zp hS _ hk hx _ (Nat.le_refl _)) (jo hJ hx),iFo hS hJ (ZhP hJ ([f.hyps,f.dummies]:List (List Hy)) (by refine X7 ?_;simp;omega)) Zpj,Z2 Zx,trivial⟩ ?_))))
         refine kw (sa 2 rfl (congrArg (fun z'=>AV.rd (Xm z')) (show(([f.hyps,f.dummies]:List (List Hy)).flatten)=(alH f)from by simp))) ?_
         refine kw (sa 3 rfl (congrArg AV.int (show(((([f.hyps,f.dummies]:List (List Hy)).flatten).length:Nat):Int)=(((alH f).length:Nat):Int)from by simp))) ?_
         refine nx (Zc (lpo (ι:=Nat×(List (BA×Hy))) (fun(k,hn)=>(k≤(alH f).length)∧(hn=hmK hm ((alH f).take k))) (fun(_,hn)=>(OB.mT m3 ts::OB.set keyS m2 ls::OB.set keyS M3 (QN fs f.label)::OB.set keyS M1 cs::OB.set keyS M2 vs::OB.mH M4 hn::OB.mT M5 tm::R)) (fun(k,_)=>[(163,.int (k:Nat))]) (fun(k,_)=>(alH f).length-k) (r5 []) U4 (0,hm) ⟨Nat.zero_le _,rfl⟩ ?_))
         rintro⟨k,hn⟩ ⟨f2_1,f2_2⟩
         refine qso tb hJ (r5 [1000]) [_] U6 ?_
         refine cjS 5 (fun hb11=>?_) fun hb11=>?_
         ·
          have hk4:k< (alH f).length:=Int.ofNat_lt.1 (of_decide_eq_true hb11)
          refine Zb (nx (Zf (Zc (tsq ?_))))
          refine sy (.ptr (hyC (ge (alH f) k))) (fun h=>ZO (i:=(k:Int)) Zq rfl (h.get 2 rfl) (h.get 4 rfl) (Int.natCast_nonneg _) (ZU (xs:=alH f) (k:=k) sfz) rfl h.x) ?_
          refine snK 1 tb rfl ?_
          refine XZ (cs:=hyC (ge (alH f) k)) ZbX rfl rfl rfl (lb rfl) rfl rfl rfl (by decide) (m:=0) rfl rfl (fun a w h=>Zp hS _ h.keep h.x _ (Nat.le_refl _)) (fun a w h w' hk'=>Yz hJ _ _ hk' h.x) ?_
          refine seK [0,3,4,5,6,7] U6 rfl ?_
          refine nx (tw pm5 ?_)
          refine fun a w h=>Y0 (γ:=Unit) (fun ix'=>([.ptr (mpC [M1,M2,M3,M4,M5]),.ptr (mpC [M1,M2,M3,M4,M5]),.ptr (mpC [M4,M5]),.lit (.map (some M4)),.ptr (hyC (ge (alH f) k)),.str ((ge (alH f) k).label),.agg (hyC (ge (alH f) k)),.agg (hyC (ge (alH f) k)),.any]:List AV).getD ix' .any) (fun _=>true) [(9,fun(g:Unit)=>.ptr (mpC [m2,m3])),(3,fun(g:Unit)=>.ptr [.ptr (mpC [M1,M2,M3,M4,M5])]),(161,fun(g:Unit)=>.rd (Xm (alH f))),(162,fun(g:Unit)=>.int ((alH f).length:Nat)),(163,fun(g:Unit)=>.int (k:Nat))] (fun(j':Nat) (g:Unit)=>match j' with | 0=>(OB.mH M4 hn::OB.mT m3 ts::OB.set keyS m2 ls::OB.set keyS M3 (QN fs f.label)::OB.set keyS M1 cs::OB.set keyS M2 vs::OB.mT M5 tm::R) | _=>(OB.mH M4 (Za7 hn ((ge (alH f) k).label) (ge (alH f) k))::OB.mT m3 ts::OB.set keyS m2 ls::OB.set keyS M3 (QN fs f.label)::OB.set keyS M1 cs::OB.set keyS M2 vs::OB.mT M5 tm::R)) (fun(k':Nat) (g:Unit)=>match k' with | 0=>undef | _=>undef) [8] 0 () (fun _=>rfl) h hJ YC rfl rfl rfl rfl rfl rfl hsb ⟨?_,⟨?_,⟨?_,⟨?_,⟨?_,⟨?_,⟨?_,⟨?_,⟨?_,trivial⟩⟩⟩⟩⟩⟩⟩⟩⟩ ⟨?e35_4_0,trivial⟩ ⟨.old 1 9 _ rfl rfl,⟨.old 2 3 _ rfl rfl,⟨.old 3 161 _ rfl rfl,⟨.old 4 162 _ rfl rfl,⟨.old 5 163 _ rfl rfl,trivial⟩⟩⟩⟩⟩ ?n35_4
          exact oX rfl fun hx hl=>ZcO ZhS rfl (hl.env 2 3 _ rfl rfl) hx
          exact oX rfl fun hx hl=>Xw rfl (hl.D 0 167 rfl rfl) hx
          exact oX rfl fun hx hl=>ZQ Za2 rfl (hl.D 1 168 rfl rfl) hx
          exact oX rfl fun hx hl=>ZI ZhR rfl (hl.D 2 169 rfl rfl) hx
          exact oX rfl fun hx hl=>ZQ Zb7 rfl (hl.env 0 18 _ rfl rfl) hx
          exact oX rfl fun hx hl=>ZI QP rfl (hl.D 4 171 rfl rfl) hx
          exact oX rfl fun hx hl=>Zao XU rfl (hl.env 0 18 _ rfl rfl) (Nat.le_refl _) hx
          exact oY rfl fun hk hx hl=>Zbw (Zko hJ (ge (alH f) k) (by refine ZiQ ?_;obtain⟨dm,hd⟩:=hfm _ (Zv (by omega:k< (alH f).length));have:=ZoK hd;omega)) Zph rfl (Zp hS _ hk hx) (hx.1) (Za (hl.D 6 173 rfl rfl) Zh) (jo hJ hx)
          exact Zn rfl
          case e35_4_0=>exact⟨_,rfl,rfl,rfl,rfl,fun g _ w hk hx hl _=>ZB (Zo1 (f:=(fun z':Hy=>AV.agg (hyC z'))) QQ hJ hJ0 ((ge (alH f) k).label) (ge (alH f) k) (.inl rfl) hk hx (hl.D 3 170 rfl rfl) (hl.D 5 172 rfl rfl) (hl.D 7 174 rfl rfl)) fun v w' ⟨_,hp⟩=>⟨g,rfl,fun _ _=>rfl,fun e=>(by cases e),hp⟩⟩
          clear a w h
          intro _
          dsimp only[List.map]
          refine nx (Yu tb hJ [0,1,2,3,1001] [.int (k+1:Nat),_] [0] U5 rfl ⟨Ya,trivial⟩ ?_)
          refine kw pm6 ?_
          refine kw pm1 ?_
          refine kw pm6 ?_
          refine kw pm6 ?_
          refine kw pm6 ?_
          refine kw pm6 ?_
          refine kw pm6 ?_
          exact YH (k+1,Za7 hn ((ge (alH f) k).label) (ge (alH f) k)) (r5 []) ⟨by omega,by rw[Z0 (by omega),Zrw,←f2_2]⟩
         ·
          have hk4:(alH f).length≤k:=by have:=of_decide_eq_false hb11;omega
          refine Zt (nx (tw pm6 ?_))
          refine Zf (fun a w h=>Y0 (γ:= { q':List (BA×BA) // ∀ k',ZZ q' k'=if(ZZ ts k').isSome then ZZ ts k' else ZZ tm k' }) (fun ix'=>([.ptr (mpC [M1,M2,M3,M4,M5]),.ptr (mpC [M1,M2,M3,M4,M5]),.ptr [.lit (.map (some M5))],.lit (.map (some M5)),.ptr [.lit (.map (some m3))],.lit (.map (some m3)),.any]:List AV).getD ix' .any) (fun _=>true) [] (fun(j':Nat) (g: { q':List (BA×BA) // ∀ k',ZZ q' k'=if(ZZ ts k').isSome then ZZ ts k' else ZZ tm k' })=>match j' with | 0=>(OB.mT M5 tm::OB.mT m3 ts::OB.set keyS m2 ls::OB.set keyS M3 (QN fs f.label)::OB.set keyS M1 cs::OB.set keyS M2 vs::OB.mH M4 hn::R) | _=>(OB.mT M5 g.1::OB.mT m3 ts::OB.set keyS m2 ls::OB.set keyS M3 (QN fs f.label)::OB.set keyS M1 cs::OB.set keyS M2 vs::OB.mH M4 hn::R)) (fun(k':Nat) (g: { q':List (BA×BA) // ∀ k',ZZ q' k'=if(ZZ ts k').isSome then ZZ ts k' else ZZ tm k' })=>match k' with | 0=>(.tuple #[]) | _=>undef) [6] 0 ⟨ZrE tm ts,Zik tm ts⟩ (fun _=>rfl) h hJ YC rfl rfl rfl rfl rfl rfl hsb ⟨?_,⟨?_,⟨?_,⟨?_,⟨?_,⟨?_,⟨?_,trivial⟩⟩⟩⟩⟩⟩⟩ ⟨?e37_5_0,trivial⟩ trivial ?n37_5)
          exact oX rfl fun hx hl=>ZcO ZhS rfl (hl.env 1 3 _ rfl rfl) hx
          exact oX rfl fun hx hl=>Xw rfl (hl.D 0 176 rfl rfl) hx
          exact oX rfl fun hx hl=>ZQ Zl8 rfl (hl.D 1 177 rfl rfl) hx
          exact oX rfl fun hx hl=>ZI Zn8 rfl (hl.D 2 178 rfl rfl) hx
          exact oX rfl fun hx hl=>ZQ ZeS rfl (hl.env 0 9 _ rfl rfl) hx
          exact oX rfl fun hx hl=>ZI Zn8 rfl (hl.D 4 180 rfl rfl) hx
          exact Zn rfl
          case e37_5_0=>exact⟨_,rfl,rfl,rfl,rfl,fun _ _ w hk hx hl _=>ZB (d_fn (O:=[OB.mT M5 tm,OB.mT m3 ts]) (R:=(OB.set keyS m2 ls::OB.set keyS M3 (QN fs f.label)::OB.set keyS M1 cs::OB.set keyS M2 vs::OB.mH M4 hn::R)) (Zq1 hJ M5 m3 tm ts (by rw[e3];exact Zqd _ h2t hsm)) ZvB rfl hS hJ0 Zy hk hx (Za (hl.D 3 179 rfl rfl) (Za (hl.D 5 181 rfl rfl) Zh))) fun v w' ⟨i,hp,hv⟩=>⟨i,rfl,fun k' hk'=>absurd hk' (Nat.not_lt_zero _),fun _=>Zgt hv,hp⟩⟩
          clear a w h
          intro z6
          dsimp only[List.map]
          refine nx (qso tb hJ [1000] [_] [_] ?_)
          refine tw pm1 ?_
          refine tw ZM ?_
          refine tw pm1 ?_
          refine tw ZM ?_
          refine tw pm4 ?_
          refine tw pm2 ?_
          refine tw pm4 ?_
          refine tw pm4 ?_
          exact Ze (fun a w h=>Ye  (m:=0) ⟨((QN fs f.label),hn,z6.1),by first | (intro h9;rw[e9]at h9;exact absurd h9 (by first | decide | exact nz)) | (intro _;exact⟨rfl,by rw[f2_2,ZF (by omega)],fun k'=>by rw[z6.2 k',e3]⟩)⟩ rfl h rfl (eI (e9.symm)))
end Go.Proofs.YtneapgbkkkjagaaGreatDoor
namespace Go.Proofs.YtneapgbkkkjagaaGreatDoor

theorem Zc9:∀ x:List UInt8,Op.bytesLess x x=false
 | []=>rfl
 | a::x=>by simp[Op.bytesLess,Zc9 x]
theorem Zg8:∀ x y z:List UInt8,Op.bytesLess x y=true→Op.bytesLess y z=true→Op.bytesLess x z=true
 | _,_,[],_,h=>by cases ‹List UInt8› <;>simp[Op.bytesLess]at h
 | x,[],_::_,h,_=>by cases x<;>simp[Op.bytesLess]at h
 | [],_::_,_::_,_,_=>rfl
 | a::x,b::y,c::z,h1,h2=>by
  simp only[Op.bytesLess,Bool.or_eq_true,Bool.and_eq_true,decide_eq_true_eq,beq_iff_eq]at h1 h2 ⊢
  rcases h1 with h1 | ⟨rfl,h1⟩
  · rcases h2 with h2 | ⟨rfl,h2⟩
    · exact Or.inl (UInt8.lt_trans h1 h2)
    · exact Or.inl h1
  · rcases h2 with h2 | ⟨rfl,h2⟩
    · exact Or.inl h2
    · exact Or.inr ⟨rfl,Zg8 x y z h1 h2⟩
theorem Zg9:∀ x y:List UInt8,Op.bytesLess x y=false→Op.bytesLess y x=false→x=y
 | [],[],_,_=>rfl
 | [],_::_,h,_=>by simp[Op.bytesLess]at h
 | _::_,[],_,h=>by simp[Op.bytesLess]at h
 | a::x,b::y,h1,h2=>by
  simp only[Op.bytesLess,Bool.or_eq_false_iff,Bool.and_eq_false_iff,decide_eq_false_iff_not]at h1 h2
  have hab:a=b:=by
   have h3:=h1.1
   have h4:=h2.1
   rw[UInt8.lt_iff_toNat_lt]at h3 h4
   exact UInt8.toNat_inj.1 (by omega)
  subst hab
  have h3:=h1.2
  have h4:=h2.2
  simp at h3 h4
  rw[Zg9 x y h3 h4]
theorem toList_inj {a b:BA} (h:a.toList=b.toList):a=b:=by
 rw[ByteArray.toList_eq,ByteArray.toList_eq]at h
 exact ByteArray.ext (Array.toList_inj.1 h)
theorem ZaY {x y z:Pr} (h1:ltP x y=true) (h2:ltP y z=true):ltP x z=true:=by
 simp only[ltP,Bool.or_eq_true,Bool.and_eq_true,decide_eq_true_eq]at h1 h2 ⊢
 rcases h1 with h1 | ⟨e1,h1⟩
 · rcases h2 with h2 | ⟨e2,h2⟩
   · exact .inl (Zg8 _ _ _ h1 h2)
   · exact .inl (e2▸h1)
 · rcases h2 with h2 | ⟨e2,h2⟩
   · exact .inl (e1▸h2)
   · exact .inr ⟨e1.trans e2,Zg8 _ _ _ h1 h2⟩
theorem ZhW {x y:Pr} (h1:ltP x y=false) (h2:Zfj x y=false):ltP y x=true:=by
 simp only[ltP,Bool.or_eq_false_iff,Bool.and_eq_false_iff,decide_eq_false_iff_not]at h1
 simp only[ltP,Bool.or_eq_true,Bool.and_eq_true,decide_eq_true_eq]
 by_cases ha:x.a=y.a
 · right
   refine⟨ha.symm,?_⟩
   have h3:=h1.2.resolve_left (fun h=>h ha)
   cases hb:Op.bytesLess y.b.toList x.b.toList with
   | true=>rfl
   | false=>simp[Zfj,ha,toList_inj (Zg9 _ _ h3 hb)]at h2
 · left
   cases hb:Op.bytesLess y.a.toList x.a.toList with
   | true=>rfl
   | false=>exact absurd (toList_inj (Zg9 _ _ h1.1 hb)) ha
def SrtP (l:List Pr):Prop:=l.Pairwise fun x y=>ltP x y=true
theorem Zkk:∀ {l:List Pr} {p x:Pr},x∈ZcQ l p→x∈l∨x=p
 | [],p,x,h=>by simpa [ZcQ]using h
 | y::l,p,x,h=>by
  simp only[ZcQ]at h
  split at h
  · rcases List.mem_cons.1 h with rfl | h
    · exact .inl (by simp)
    · rcases Zkk h with h | h
      · exact .inl (by simp[h])
      · exact .inr h
  · split at h
    · exact .inl h
    · rcases List.mem_cons.1 h with rfl | h
      · exact .inr rfl
      · exact .inl h
theorem Zkj:∀ {l:List Pr} {p:Pr},SrtP l→SrtP (ZcQ l p)
 | [],_,_=>by simp[ZcQ,SrtP]
 | y::l,p,h=>by
  have h':=List.pairwise_cons.1 h
  simp only[ZcQ]
  by_cases h1:ltP y p=true
  · rw[if_pos h1]
    refine List.pairwise_cons.2 ⟨fun x hx=>?_,Zkj h'.2⟩
    rcases Zkk hx with hx | rfl
    · exact h'.1 x hx
    · exact h1
  · rw[if_neg h1]
    by_cases h2:Zfj y p=true
    · rw[if_pos h2];exact h
    · rw[if_neg h2]
      have h3:=ZhW (by simpa using h1) (by simpa using h2)
      refine List.pairwise_cons.2 ⟨fun x hx=>?_,h⟩
      rcases List.mem_cons.1 hx with rfl | hx
      · exact h3
      · exact ZaY h3 (h'.1 x hx)
theorem ZcY:∀(w:List Pr) {a:List Pr},SrtP a→SrtP (w.foldl ZcQ a)
 | [],_,h=>h
 | _::w,_,h=>ZcY w (Zkj h)
theorem Zkm:∀ {l:List Pr} {p:Pr},(∀ x∈l,ltP x p=true)→ZcQ l p=l++[p]
 | [],_,_=>rfl
 | y::l,p,h=>by
  have ih:ZcQ l p=l++[p]:=Zkm fun x hx=>h x (List.mem_cons_of_mem _ hx)
  simp only[ZcQ,h y (by simp),if_true,ih,List.cons_append]
theorem ZdM:∀(w a:List Pr),SrtP (a++w)→w.foldl ZcQ a=a++w
 | [],a,_=>by simp
 | p::w,a,h=>by
  have h1:∀ x∈a,ltP x p=true:=fun x hx=>(List.pairwise_append.1 h).2.2 x hx p (by simp)
  rw[List.foldl_cons,Zkm h1,ZdM w (a++[p]) (by simpa using h)]
  simp
theorem Zox (w:List Pr):w=Zfs w []↔SrtP w:=by
 unfold Zfs
 rw[List.append_nil]
 constructor
 · intro h
   rw[h]
   exact ZcY w .nil
 · intro h
   rw[ZdM w [] (by simpa using h)]
   simp
theorem Zm6 {w:List Pr} (h:∀ i,0<i→i<w.length→ltP (ge w (i-1)) (ge w i)=true):SrtP w:=by
 have key:∀ d i,i+1+d<w.length→ltP (ge w i) (ge w (i+1+d))=true:=by
  intro d
  induction d with
  | zero=>intro i hi;simpa using h (i+1) (by omega) (by omega)
  | succ d ih=>
   intro i hi
   refine ZaY (ih i (by omega)) ?_
   have:=h (i+1+d+1) (by omega) (by omega)
   rw[show i+1+d+1-1=i+1+d by omega]at this
   exact this
 rw[SrtP,List.pairwise_iff_getElem]
 intro i j hi hj hij
 have:=key (j-i-1) i (by omega)
 rw[show i+1+(j-i-1)=j by omega]at this
 rwa [Xd hi,Xd hj]at this
theorem ZpL {vs:List BA} {d:Db} (hv:vs=d.vars) (w:List Pr):((List.range w.length).all fun i=>!Zp1 vs w i)=(!w.any (Zwn d)&&decide (w=Zfs w [])):=by
 subst hv
 have hk:∀ i,0<i→(0≤Zil (ge w (((i:Nat):Int)-1).toNat) (ge w i)↔ltP (ge w (i-1)) (ge w i)=false):=fun i h=>by
  rw[show(((i:Nat):Int)-1).toNat=i-1 by omega,←ZrI,decide_eq_false_iff_not];omega
 rw[Bool.eq_iff_iff]
 simp only[List.all_eq_true,List.mem_range,Bool.not_eq_true',Bool.and_eq_true,List.any_eq_false,decide_eq_true_eq,Zox]
 constructor
 · intro h
   refine⟨fun p hp=>?_,Zm6 fun i h1 h2=>?_⟩
   · obtain⟨i,hi,rfl⟩:=Xj hp
     have:=h i hi
     simp only[Zp1,Bool.or_eq_false_iff]at this
     simp only[Zwn,Bool.or_eq_true,not_or,Bool.not_eq_true]
     exact this.1
   · have:=h i h2
     simp only[Zp1,Bool.or_eq_false_iff,Bool.and_eq_false_iff,decide_eq_false_iff_not]at this
     have h3:=this.2.resolve_left (by omega)
     rw[hk i h1]at h3
     simpa using h3
 · rintro⟨h1,h2⟩ i hi
   have h3:=h1 _ (Zv hi)
   simp only[Zwn,Bool.or_eq_true,not_or,Bool.not_eq_true]at h3
   simp only[Zp1,Bool.or_eq_false_iff,Bool.and_eq_false_iff,decide_eq_false_iff_not]
   refine⟨h3,?_⟩
   by_cases h0:0<i
   · right
     rw[hk i h0]
     have:=List.pairwise_iff_getElem.1 h2 (i-1) i (by omega) hi (by omega)
     rw[Xd hi,Xd (by omega),this];decide
   · left;omega

structure TyI (l:List Hy) (tm:List (BA×BA)):Prop where
 hit:∀ x∈l,∀ v,ofB x [v]=true→ZZ tm v=some (ge x.text 0)
 got:∀ v t,ZZ tm v=some t→∃ x∈l,ofB x [v]=true∧ge x.text 0=t
structure HyI (l:List Hy) (hm:List (BA×Hy)):Prop where
 hit:∀ x∈l,ZZ hm x.label=some x
 got:∀ s x,ZZ hm s=some x→x∈l∧x.label=s
structure KInv (d:Db) (k:Nat) (fs:List BA) (hm:List (BA×Hy)) (tm:List (BA×BA)) (bf:List Hy):Prop where
 fr:∀ s,s∈fs↔frL d k s=true
 hy:HyI (oth d k) hm
 ty:TyI (oth d k) tm
 bf:bf.map Hy.label=ZjH d k
theorem Zot (d:Db):KInv d 0 [] [] [] []:=⟨fun s=>by simp[frL],⟨fun x hx=>by simp[Zkr]at hx,fun s x h=>by simp[QI]at h⟩,⟨fun x hx=>by simp[Zkr]at hx,fun s x h=>by simp[QI]at h⟩,by simp[ZjH]⟩
theorem ofB_one {x:Hy} {v:BA}:ofB x [v]=true↔x.floating=true∧x.text.length=2∧ge x.text 1=v:=by
 simp only[ofB,Bool.and_eq_true,decide_eq_true_eq,List.mem_singleton]
 constructor
 · rintro⟨⟨h1,h2⟩,h3⟩;exact⟨h1,by omega,h3⟩
 · rintro⟨h1,h2,h3⟩;exact⟨⟨h1,by omega⟩,h3⟩
theorem ZbR {l:List BA} (h:l.length=2):l.drop 1=[ge l 1]:=by
 match l,h with
 | [a,b],_=>rfl
theorem ZoH {d:Db} {k:Nat} {s:BA}:hyL d k s=(oth d k).any fun x=>decide (x.label=s):=by
 simp only[hyL,oth,hysF]
 induction d.frames.take k with
 | nil=>rfl
 | cons f l ih=>rw[List.any_cons,ih,List.flatMap_cons,List.any_append (xs:=f.hyps++f.dummies)]
section
variable {d:Db} {k:Nat} {fs:List BA} {hm:List (BA×Hy)} {tm:List (BA×BA)} {bf:List Hy}
theorem HyI.some {l:List Hy} (h:HyI l hm) (s:BA):(ZZ hm s).isSome=l.any fun x=>decide (x.label=s):=by
 rw[Bool.eq_iff_iff,List.any_eq_true]
 constructor
 · intro e
   obtain⟨x,hx⟩:=Option.isSome_iff_exists.1 e
   have:=h.got s x hx
   exact⟨x,this.1,by simpa using this.2⟩
 · rintro⟨x,hx,e⟩
   simp only[decide_eq_true_eq]at e
   rw[←e,h.hit x hx];rfl
theorem TyI.bad {l:List Hy} (h:TyI l tm) (y:Hy) (h2:y.text.length=2):((ZZ tm (ge y.text 1)).isSome&& !decide ((ZZ tm (ge y.text 1)).getD default=ge y.text 0))=l.any (Zh8 y):=by
 rw[Bool.eq_iff_iff,List.any_eq_true]
 unfold Zh8
 rw[ZbR h2]
 constructor
 · intro e
   simp only[Bool.and_eq_true,Bool.not_eq_true',decide_eq_false_iff_not]at e
   obtain⟨t,ht⟩:=Option.isSome_iff_exists.1 e.1
   obtain⟨x,hx,h3,h4⟩:=h.got _ _ ht
   refine⟨x,hx,?_⟩
   rw[ht]at e
   simp only[Option.getD_some]at e
   simp[h3,h4,e.2]
 · rintro⟨x,hx,e⟩
   simp only[Bool.and_eq_true,Bool.not_eq_true',decide_eq_false_iff_not]at e
   rw[h.hit x hx _ e.1]
   simp[e.2]
theorem TyI.have {l:List Hy} (h:TyI l tm) (y:Hy) (h2:y.text.length=2):(ZZ tm (ge y.text 1)).isSome=l.any (hOf y):=by
 rw[Bool.eq_iff_iff,List.any_eq_true]
 unfold hOf
 rw[ZbR h2]
 constructor
 · intro e
   obtain⟨t,ht⟩:=Option.isSome_iff_exists.1 e
   obtain⟨x,hx,h3,_⟩:=h.got _ _ ht
   exact⟨x,hx,h3⟩
 · rintro⟨x,hx,e⟩
   rw[h.hit x hx _ e];rfl
theorem HyI.bad {l:List Hy} (h:HyI l hm) (y:Hy):((ZZ hm y.label).isSome&& !Zl1 ((ZZ hm y.label).getD default) y)=l.any (Zdv y):=by
 rw[Bool.eq_iff_iff,List.any_eq_true]
 unfold Zdv
 constructor
 · intro e
   simp only[Bool.and_eq_true,Bool.not_eq_true']at e
   obtain⟨x,hx⟩:=Option.isSome_iff_exists.1 e.1
   have:=h.got _ _ hx
   rw[hx]at e
   exact⟨x,this.1,by simpa [this.2]using e.2⟩
 · rintro⟨x,hx,e⟩
   simp only[Bool.and_eq_true,Bool.not_eq_true',decide_eq_true_eq]at e
   rw[←e.1,h.hit x hx]
   simpa using e.2
theorem ZuX (l:List Hy) (s:BA):s∈lsK l↔ ∃ x∈l,x.label=s:=by
 rw[←List.reverse_reverse l]
 induction l.reverse with
 | nil=>simp[lsK]
 | cons y m ih=>
  rw[List.reverse_cons,ZgF,ZgE,ih]
  simp only[List.mem_append,List.mem_singleton]
  constructor
  · rintro(⟨x,h,e⟩ | rfl)
    · exact⟨x,.inl h,e⟩
    · exact⟨y,.inr rfl,rfl⟩
  · rintro⟨x,h | rfl,e⟩
    · exact .inl ⟨x,h,e⟩
    · exact .inr e.symm
theorem ZjV {l:List Hy} {ts:List (BA×BA)} {y:Hy} (h:TyI l ts) (h2:y.floating=true→y.text.length=2) (h3:y.floating=true→l.any (hOf y)=false):TyI (l++[y]) (if y.floating then Za7 ts (ge y.text 1) (ge y.text 0)else ts):=by
 by_cases hf:y.floating=true
 · rw[if_pos hf]
   have h2':=h2 hf
   have h3':=h3 hf
   rw[List.any_eq_false]at h3'
   refine⟨fun x hx v hv=>?_,fun v t hv=>?_⟩
   · rw[Zb4]
     rcases List.mem_append.1 hx with hx | hx
     · have:¬ v=ge y.text 1:=fun e=>h3' x hx (by rw[hOf,ZbR h2',←e];exact hv)
       rw[if_neg this]
       exact h.hit x hx v hv
     · rw[List.mem_singleton.1 hx]at hv ⊢
       rw[if_pos (ofB_one.1 hv).2.2.symm]
   · rw[Zb4]at hv
     split at hv
     · rename_i e
       refine⟨y,by simp,ofB_one.2 ⟨hf,h2',e.symm⟩,by simpa using hv⟩
     · obtain⟨x,hx,h4⟩:=h.got v t hv
       exact⟨x,by simp[hx],h4⟩
 · rw[if_neg hf]
   refine⟨fun x hx v hv=>?_,fun v t hv=>?_⟩
   · rcases List.mem_append.1 hx with hx | hx
     · exact h.hit x hx v hv
     · rw[List.mem_singleton.1 hx]at hv
       exact absurd (ofB_one.1 hv).1 hf
   · obtain⟨x,hx,h4⟩:=h.got v t hv
     exact⟨x,by simp[hx],h4⟩
theorem Zje:∀(l:List Hy) (hm:List (BA×Hy)) (x:Hy),(∀ y∈l,y.label=x.label→y=x)→(x∈l∨ZZ hm x.label=some x)→ZZ (hmK hm l) x.label=some x
 | [],_,_,_,h=>by simpa [hmK]using h
 | y::l,hm,x,h,h1=>by
  show ZZ (hmK (Za7 hm y.label y) l) x.label=_
  refine Zje l _ x (fun z hz=>h z (by simp[hz])) ?_
  by_cases hx:x∈l
  · exact .inl hx
  · right
    rw[Zb4]
    by_cases e:x.label=y.label
    · rw[if_pos e,h y (by simp) e.symm]
    · rw[if_neg e]
      refine h1.resolve_left fun hm'=>?_
      rcases List.mem_cons.1 hm' with rfl | h'
      · exact e rfl
      · exact hx h'
theorem ZoJ:∀(l:List Hy) (hm:List (BA×Hy)) (s:BA) (x:Hy),ZZ (hmK hm l) s=some x→(x∈l∧x.label=s)∨ZZ hm s=some x
 | [],_,_,_,h=>.inr h
 | y::l,hm,s,x,h=>by
  rcases ZoJ l (Za7 hm y.label y) s x h with⟨h1,h2⟩ | h1
  · exact .inl ⟨by simp[h1],h2⟩
  · rw[Zb4]at h1
    split at h1
    · rename_i e
      have:y=x:=by simpa using h1
      subst this
      exact .inl ⟨by simp,e.symm⟩
    · exact .inr h1
theorem Ztv (g:Nat→Int):∀ n,(∀ j,j<n→g j=0)∨ ∃ i,(i<n∧g i≠0)∧∀ j,j<i→g j=0
 | 0=>.inl fun _ h=>absurd h (Nat.not_lt_zero _)
 | n+1=>by
  rcases Ztv g n with h | ⟨i,⟨h1,h2⟩,h3⟩
  · by_cases e:g n=0
    · exact .inl (ZK h e)
    · exact .inr ⟨n,⟨by omega,e⟩,h⟩
  · exact .inr ⟨i,⟨by omega,h2⟩,h3⟩
theorem Zie {n:Nat} {g h:Nat→Int} (hh:∀ i,i<n→(∀ j,j<i→g j=0)→g i=h i):Xu n g=Xu n h:=by
 by_cases e:∃ i,i<n∧g i≠0
 · obtain⟨i,hi,hmin⟩:∃ i,(i<n∧g i≠0)∧∀ j,j<i→g j=0:=by
    rcases Ztv g n with h0 | h0
    · obtain⟨i,hi,hn⟩:=e
      exact absurd (h0 i hi) hn
    · exact h0
   have h0:∀ j,j<i→h j=0:=fun j hj=>by rw[←hh j (by omega) fun q hq=>hmin q (by omega)];exact hmin j hj
   have h1:=hh i hi.1 hmin
   rw[Ys hi.1 hmin hi.2,Ys hi.1 h0 (by rw[←h1];exact hi.2),h1]
 · have h0:∀ j,j<n→g j=0:=fun j hj=>Classical.byContradiction fun h=>e ⟨j,hj,h⟩
   rw[X4 h0,X4 fun j hj=>by rw[←hh j hj fun q hq=>h0 q (by omega)];exact h0 j hj]
end
section
variable {d:Db} {k:Nat} {fs:List BA} {hm:List (BA×Hy)} {tm:List (BA×BA)} {bf:List Hy}
theorem KInv.fr' (h:KInv d k fs hm tm bf) (hk:k<d.frames.length) (s:BA):s∈QN fs (ge d.frames k).label↔frL d (k+1) s=true:=by
 rw[ZgE,frL,Qq hk,Bool.or_eq_true,h.fr s,frL,decide_eq_true_eq]
 exact or_congr Iff.rfl eq_comm
theorem ZkF (h:KInv d k fs hm tm bf) (hk:k<d.frames.length) {y:Hy} {bs:List Hy} {ts:List (BA×BA)} {dm:Bool} (ht:TyI bs ts):
 ZgJ d.consts d.vars (QN fs (ge d.frames k).label) hm tm (lsK bs) ts y dm=ZcW d k y bs dm:=by
 unfold ZgJ ZcW
 by_cases h1:Zat y dm=true
 · rw[if_pos h1,if_pos h1]
 rw[if_neg h1,if_neg h1]
 have h1':Zat y dm=false:=by simpa using h1
 have q1:(((decide (y.label∈d.consts)||decide (y.label∈d.vars))||decide (y.label∈QN fs (ge d.frames k).label))||decide (y.label∈lsK bs))=((frL d (k+1) y.label||Zdj d y.label)||bs.any (Zjf y)):=by
  rw[show decide (y.label∈QN fs (ge d.frames k).label)=frL d (k+1) y.label by rw[Bool.eq_iff_iff,decide_eq_true_eq];exact h.fr' hk _,
   show decide (y.label∈lsK bs)=bs.any (Zjf y) by rw[Bool.eq_iff_iff,decide_eq_true_eq,ZuX,List.any_eq_true];simp[Zjf],←Zdj,Bool.or_comm (Zdj d y.label)]
 rw[q1]
 by_cases h2:(frL d (k+1) y.label||Zdj d y.label)=true
 · rw[if_pos (by rw[h2];rfl),if_pos h2]
 rw[if_neg h2,show(frL d (k+1) y.label||Zdj d y.label)=false by simpa using h2,Bool.false_or]
 by_cases h3:bs.any (Zjf y)=true
 · rw[if_pos h3,if_pos h3]
 rw[if_neg h3,if_neg h3]
 change (if ZeM d y then 12 else _)=_
 by_cases h4:ZeM d y=true
 · rw[if_pos h4,if_pos h4]
 rw[if_neg h4,if_neg h4,h.hy.bad]
 cases hf:y.floating with
 | true=>
  have hl:=Yx h1' hf
  simp only[Bool.not_true,Bool.false_and,Bool.false_eq_true,if_false,Bool.true_and]
  rw[h.ty.bad y hl,ht.bad y hl,ht.have y hl,List.any_append]
 | false=>
  simp only[Bool.not_false,Bool.false_and,Bool.false_eq_true,if_false,Bool.true_and]
  have hl:(decide (((y.text.length:Nat):Int)=0)||decide (200< ((y.text.length:Nat):Int)))=false:=by
   have:=h1'
   simp only[Zat,hf,Bool.not_false,Bool.true_and,Bool.or_eq_false_iff]at this
   simpa using this.2
  rw[Zhk,hl]
  simp
theorem ZeJ {d:Db} {k:Nat} {y:Hy} {bs:List Hy} {dm:Bool} (h:ZcW d k y bs dm=0):
 bs.any (Zjf y)=false∧(y.floating=true→(oth d k++bs).any (Zh8 y)=false∧bs.any (hOf y)=false)∧(oth d k).any (Zdv y)=false:=by
 unfold ZcW at h
 by_cases h1:Zat y dm=true
 · rw[if_pos h1]at h;exact absurd h (by decide)
 rw[if_neg h1]at h
 by_cases h2:(frL d (k+1) y.label||Zdj d y.label)=true
 · rw[if_pos h2]at h;exact absurd h (by decide)
 rw[if_neg h2]at h
 by_cases h3:bs.any (Zjf y)=true
 · rw[if_pos h3]at h;exact absurd h (by decide)
 rw[if_neg h3]at h
 by_cases h4:ZeM d y=true
 · rw[if_pos h4]at h;exact absurd h (by decide)
 rw[if_neg h4]at h
 by_cases h5:(!y.floating&& !decide (Zbt d y.text=0))=true
 · rw[if_pos h5]at h;simp[h]at h5
 rw[if_neg h5]at h
 by_cases h6:(y.floating&& (oth d k++bs).any (Zh8 y))=true
 · rw[if_pos h6]at h;exact absurd h (by decide)
 rw[if_neg h6]at h
 by_cases h7:(y.floating&&bs.any (hOf y))=true
 · rw[if_pos h7]at h;exact absurd h (by decide)
 rw[if_neg h7]at h
 by_cases h8:(oth d k).any (Zdv y)=true
 · rw[if_pos h8]at h;exact absurd h (by decide)
 exact⟨(Bool.not_eq_true _).mp h3,fun hf=>⟨by rw[hf,Bool.true_and]at h6;exact(Bool.not_eq_true _).mp h6,by rw[hf,Bool.true_and]at h7;exact(Bool.not_eq_true _).mp h7⟩,(Bool.not_eq_true _).mp h8⟩
theorem Zoi (h:∀ j,j< (alH (ge d.frames k)).length→Zb5 d k j=0):∀ i,i≤(alH (ge d.frames k)).length→TyI ((alH (ge d.frames k)).take i) (tsK ((alH (ge d.frames k)).take i)):=by
 intro i
 induction i with
 | zero=>intro _;exact⟨fun x hx=>by simp at hx,fun v t ht=>by simp[tsK,QI]at ht⟩
 | succ i ih=>
  intro hi
  have h0:=h i (by omega)
  rw[Z0 (by omega),ZcE]
  exact ZjV (ih (by omega)) (fun hf=>Yx (ZaZ h0) hf) fun hf=>((ZeJ h0).2.1 hf).2
theorem Zrc (h:KInv d k fs hm tm bf) (hk:k<d.frames.length):Xu (alH (ge d.frames k)).length (hyK d.consts d.vars fs hm tm (ge d.frames k))=Zmu d k:=by
 have key:∀ i,i< (alH (ge d.frames k)).length→(∀ j,j<i→Zb5 d k j=0)→hyK d.consts d.vars fs hm tm (ge d.frames k) i=Zb5 d k i∧TyI ((alH (ge d.frames k)).take i) (tsK ((alH (ge d.frames k)).take i)):=by
  intro i
  induction i with
  | zero=>
   intro _ _
   have ht:TyI ((alH (ge d.frames k)).take 0) (tsK ((alH (ge d.frames k)).take 0)):=⟨fun x hx=>by simp at hx,fun v t ht=>by simp[tsK,QI]at ht⟩
   exact⟨ZkF h hk ht,ht⟩
  | succ i ih=>
   intro hi hj
   have h0:=hj i (by omega)
   have ht:TyI ((alH (ge d.frames k)).take (i+1)) (tsK ((alH (ge d.frames k)).take (i+1))):=by
    rw[Z0 (by omega),ZcE]
    exact ZjV (ih (by omega) fun j hj'=>hj j (by omega)).2 (fun hf=>Yx (ZaZ h0) hf) fun hf=>((ZeJ h0).2.1 hf).2
   exact⟨ZkF h hk ht,ht⟩
 exact(Zie fun i hi hj=>(key i hi hj).1.symm).symm
theorem Zlo:∀ {l:List Hy},(∀ i,i<l.length→(ge l i).floating=true→(ge l i).text.length=2∧(l.take i).any (hOf (ge l i))=false)→(ZdE l).Nodup:=by
 intro l h
 have key:∀ i,i≤l.length→(ZdE (l.take i)).Nodup:=by
  intro i
  induction i with
  | zero=>intro _;simp[ZdE]
  | succ i ih=>
   intro hi
   rw[ZdE,Z6 (by omega),List.map_append]
   by_cases hf:(ge l i).floating=true
   · simp only[hf,if_true,List.map_cons,List.map_nil]
     rw[List.nodup_append]
     refine⟨ih (by omega),by simp,fun x hx z hz e=>?_⟩
     rw[List.mem_singleton.1 hz]at e
     obtain⟨w,hw,rfl⟩:=List.mem_map.1 hx
     rw[List.mem_filter]at hw
     have h1:=h i (by omega) hf
     have h2:=List.any_eq_false.1 h1.2 w hw.1
     refine h2 ?_
     rw[hOf,ZbR h1.1]
     obtain⟨q,hq,rfl⟩:=Xj hw.1
     have hq':q<i:=by simp at hq;omega
     have e2:ge (l.take i) q=ge l q:=by simp[ge,List.getD_eq_getElem?_getD,hq']
     rw[e2]at hw e ⊢
     exact ofB_one.2 ⟨by simpa using hw.2,(h q (by omega) (by simpa using hw.2)).1,e⟩
   · simp only[hf,Bool.false_eq_true,if_false,List.map_nil,List.append_nil]
     exact ih (by omega)
 have:=key l.length (Nat.le_refl _)
 rwa [ZF (Nat.le_refl _)]at this
theorem Zvc {α:Type} [Inhabited α] {xs ys:List α} {i:Nat} (h:i<xs.length):ge (xs++ys) i=ge xs i:=by
 simp[ge,List.getD_eq_getElem?_getD,List.getElem?_append_left h]
theorem Zuc (h:∀ j,j< (alH (ge d.frames k)).length→Zb5 d k j=0):Zte d.vars (ge d.frames k)=ZdZ d (ge d.frames k):=by
 have hf0:∀ i,i< (ge d.frames k).hyps.length→(ge (ge d.frames k).hyps i).floating=true→(ge (ge d.frames k).hyps i).text.length=2∧((ge d.frames k).hyps.take i).any (hOf (ge (ge d.frames k).hyps i))=false:=fun i hi hf=>by
  have h0:=h i (by simp[alH];omega)
  rw[Zb5]at h0
  rw[Zvc hi]at h0
  rw[List.take_append_of_le_length (by omega)]at h0
  exact⟨Yx (ZaZ h0) hf,((ZeJ h0).2.1 hf).2⟩
 have hnd:=Zlo hf0
 have hm0:Zky d.vars (ge d.frames k)=QR d (ge d.frames k):=rfl
 have hmn:(QR d (ge d.frames k)).Nodup:=(Zez _ _).1
 unfold Zte ZdZ
 rw[ZpL rfl,hm0]
 have e1:(ge d.frames k).hyps.all (Zl2 (QR d (ge d.frames k)))=(ge d.frames k).hyps.all (hIn (QR d (ge d.frames k))):=by
  rw[Bool.eq_iff_iff,List.all_eq_true,List.all_eq_true]
  refine forall_congr' fun x=>⟨fun hx hm=>?_,fun hx hm=>?_⟩<;>have:=hx hm
  · obtain⟨i,hi,rfl⟩:=Xj hm
    cases hf:(ge (ge d.frames k).hyps i).floating with
    | false=>simp[hIn,hf]
    | true=>
     simp only[Zl2,hf,Bool.not_true,Bool.false_or,decide_eq_true_eq]at this
     simp[hIn,ofB,hf,(hf0 i hi hf).1,this]
  · obtain⟨i,hi,rfl⟩:=Xj hm
    cases hf:(ge (ge d.frames k).hyps i).floating with
    | false=>simp[Zl2,hf]
    | true=>
     simp only[hIn,ofB,hf,Bool.not_true,Bool.false_or,Bool.true_and,Bool.and_eq_true,decide_eq_true_eq]at this
     simp[Zl2,hf,this.2]
 rw[e1]
 by_cases ha:(ge d.frames k).hyps.all (hIn (QR d (ge d.frames k)))=true
 · have hsub:∀ s∈ZdE (ge d.frames k).hyps,s∈QR d (ge d.frames k):=fun s hs=>by
    obtain⟨x,hx,rfl⟩:=List.mem_map.1 hs
    rw[List.mem_filter]at hx
    have:=List.all_eq_true.1 (e1.trans ha) x hx.1
    simpa [Zl2,hx.2]using this
   have e2:decide ((ZdE (ge d.frames k).hyps).length=(QR d (ge d.frames k)).length)=(QR d (ge d.frames k)).all fun s=>decide (s∈ZdE (ge d.frames k).hyps):=by
    rw[Bool.eq_iff_iff,decide_eq_true_eq,List.all_eq_true]
    constructor
    · intro e s hs
      rw[decide_eq_true_eq]
      refine Classical.byContradiction fun hn=>?_
      have:=Zb3 (ys:=(QR d (ge d.frames k)).erase s) hnd fun z hz=>(List.mem_erase_of_ne (fun e':z=s=>hn (by rw[←e'];exact hz))).2 (hsub z hz)
      rw[List.length_erase_of_mem hs]at this
      have:=List.length_pos_of_mem hs
      omega
    · intro e
      have h1:=Zb3 hnd hsub
      have h2:=Zb3 hmn fun s hs=>by simpa using e s hs
      omega
   rw[e2,ha]
   simp only[Bool.true_and,Bool.and_assoc]
 · rw[show(ge d.frames k).hyps.all (hIn (QR d (ge d.frames k)))=false by simpa using ha]
   rfl
theorem Zdw (h:KInv d k fs hm tm bf) (hk:k<d.frames.length):ZeN d.consts d.vars fs hm tm (ge d.frames k) bf=frE d k:=by
 unfold ZeN frE ZcX
 by_cases h1:(!QE (ge d.frames k).label)=true
 · rw[if_pos h1,if_pos h1]
 rw[if_neg h1,if_neg h1,h.hy.some,←ZoH]
 have q:((hyL d k (ge d.frames k).label|| (decide ((ge d.frames k).label∈d.consts)||decide ((ge d.frames k).label∈d.vars)))||decide ((ge d.frames k).label∈fs))=((frL d k (ge d.frames k).label||hyL d k (ge d.frames k).label)||Zdj d (ge d.frames k).label):=by
  rw[show decide ((ge d.frames k).label∈fs)=frL d k (ge d.frames k).label by rw[Bool.eq_iff_iff,decide_eq_true_eq];exact h.fr _,←Zdj]
  cases hyL d k (ge d.frames k).label<;>cases frL d k (ge d.frames k).label<;>cases Zdj d (ge d.frames k).label<;>rfl
 rw[q]
 by_cases h2:((frL d k (ge d.frames k).label||hyL d k (ge d.frames k).label)||Zdj d (ge d.frames k).label)=true
 · rw[if_pos h2,if_pos h2]
 rw[if_neg h2,if_neg h2]
 by_cases h3:(decide ((40:Int)< (((ge d.frames k).hyps.length:Nat):Int))||decide ((40:Int)< (((ge d.frames k).dummies.length:Nat):Int)))=true
 · rw[if_pos h3,if_pos h3]
 rw[if_neg h3,if_neg h3,Zrc h hk]
 by_cases h4:(!decide (Zmu d k=0))=true
 · rw[if_pos h4,if_pos h4]
 rw[if_neg h4,if_neg h4,Zhk]
 have h4':∀ j,j< (alH (ge d.frames k)).length→Zb5 d k j=0:=Qg (n:=(alH (ge d.frames k)).length) (show Zmu d k=0 by simpa using h4)
 by_cases h5:(decide ((((ge d.frames k).text.length:Nat):Int)=0)||decide (200< (((ge d.frames k).text.length:Nat):Int)))=true
 · rw[if_pos h5,if_pos h5,if_pos (by decide)]
 rw[if_neg h5,if_neg h5]
 by_cases h6:(!decide (Zbt d (ge d.frames k).text=0))=true
 · rw[if_pos h6,if_pos h6]
 rw[if_neg h6,if_neg h6,Zfn,Zuc h4']
 by_cases h7:ZdZ d (ge d.frames k)=true
 · rw[if_pos h7,if_neg (show ¬ (!decide ((0:Int)=0))=true by decide),if_neg (show ¬ (!ZdZ d (ge d.frames k))=true by simp[h7])]
   have e8:Zwv (ge d.frames k)=(((decide (0< (((ge d.frames k).proof.length:Nat):Int))&& !(ge d.frames k).thm)||decide (8000< (((ge d.frames k).proof.length:Nat):Int)))|| !(ge d.frames k).proof.all Y1):=by
    rw[show(!(ge d.frames k).proof.all Y1)=(ge d.frames k).proof.any fun s=>!Y1 s from List.not_all_eq_any_not ..]
    unfold Zwv
    by_cases h0:(ge d.frames k).proof=[]
    · simp[h0]
    · have:0< (ge d.frames k).proof.length:=List.length_pos_iff.2 h0
      simp[this]
   have e9:(((YX (ge d.frames k).hyps).drop (Zd7 (bf.map Hy.label) ((YX (ge d.frames k).hyps).map Hy.label))).any fun y=>(ZZ hm y.label).isSome)=ordB d k (ge d.frames k):=by
    rw[ordB,h.bf,←List.map_drop,List.any_map]
    congr 1
    funext y
    rw[h.hy.some,←ZoH];rfl
   rw[e8,e9]
   by_cases h8:((decide (0< (((ge d.frames k).proof.length:Nat):Int))&& !(ge d.frames k).thm)||decide (8000< (((ge d.frames k).proof.length:Nat):Int)))=true
   · rw[if_pos (by rw[h8];rfl),if_pos h8]
   · rw[if_neg h8,show((decide (0< (((ge d.frames k).proof.length:Nat):Int))&& !(ge d.frames k).thm)||decide (8000< (((ge d.frames k).proof.length:Nat):Int)))=false by simpa using h8,Bool.false_or]
 · rw[if_neg h7,if_pos (show(!decide ((70:Int)=0))=true by decide),if_pos (show(!ZdZ d (ge d.frames k))=true by simpa using h7)]
theorem Zry (h:frE d k=0):∀ j,j< (alH (ge d.frames k)).length→Zb5 d k j=0:=by
 refine Qg (n:=(alH (ge d.frames k)).length) ?_
 change Zmu d k=0
 unfold frE ZcX at h
 refine Classical.byContradiction fun hn=>?_
 by_cases h1:(!QE (ge d.frames k).label)=true
 · rw[if_pos h1]at h;exact absurd h (by decide)
 rw[if_neg h1]at h
 by_cases h2:((frL d k (ge d.frames k).label||hyL d k (ge d.frames k).label)||Zdj d (ge d.frames k).label)=true
 · rw[if_pos h2]at h;exact absurd h (by decide)
 rw[if_neg h2]at h
 by_cases h3:(decide ((40:Int)< (((ge d.frames k).hyps.length:Nat):Int))||decide ((40:Int)< (((ge d.frames k).dummies.length:Nat):Int)))=true
 · rw[if_pos h3]at h;exact absurd h (by decide)
 rw[if_neg h3,if_pos (by simpa using hn)]at h
 exact hn h
theorem Zou (h:KInv d k fs hm tm bf) (hk:k<d.frames.length) (h0:frE d k=0) {tn:List (BA×BA)}
 (ht:∀ v,ZZ tn v=if(ZZ (tsK (alH (ge d.frames k))) v).isSome then ZZ (tsK (alH (ge d.frames k))) v else ZZ tm v):
 KInv d (k+1) (QN fs (ge d.frames k).label) (hmK hm (alH (ge d.frames k))) tn (YX (ge d.frames k).hyps):=by
 have hl:=Zry h0
 have hT:=Zoi hl (alH (ge d.frames k)).length (Nat.le_refl _)
 rw[ZF (Nat.le_refl _)]at hT
 have hat:∀ y∈alH (ge d.frames k),(y.floating=true→(oth d k).any (Zh8 y)=false)∧(oth d k).any (Zdv y)=false:=fun y hy=>by
  obtain⟨j,hj,rfl⟩:=Xj hy
  have:=ZeJ (hl j hj)
  refine⟨fun hf=>?_,this.2.2⟩
  have:=(this.2.1 hf).1
  rw[List.any_append,Bool.or_eq_false_iff]at this
  exact this.1
 have hdist:∀ x∈alH (ge d.frames k),∀ y∈alH (ge d.frames k),y.label=x.label→y=x:=fun x hx y hy e=>by
  obtain⟨i,hi,rfl⟩:=Xj hx
  obtain⟨j,hj,rfl⟩:=Xj hy
  have key:∀ p q,p<q→q< (alH (ge d.frames k)).length→(ge (alH (ge d.frames k)) p).label≠(ge (alH (ge d.frames k)) q).label:=fun p q hpq hq e=>by
   have:=(ZeJ (hl q hq)).1
   rw[List.any_eq_false]at this
   refine this (ge (alH (ge d.frames k)) p) ?_ (by simpa [Zjf]using e)
   have e2:ge ((alH (ge d.frames k)).take q) p=ge (alH (ge d.frames k)) p:=by simp[ge,List.getD_eq_getElem?_getD,hpq]
   rw[←e2]
   exact Zv (show p< ((alH (ge d.frames k)).take q).length by rw[List.length_take];omega)
  rcases Nat.lt_trichotomy i j with h1 | h1 | h1
  · exact absurd e.symm (key i j h1 hj)
  · rw[h1]
  · exact absurd e (key j i h1 hi)
 have hsam:∀ x∈oth d k,∀ y∈alH (ge d.frames k),y.label=x.label→y=x:=fun x hx y hy e=>by
  have:=List.any_eq_false.1 (hat y hy).2 x hx
  simp only[Zdv,Bool.and_eq_true,Bool.not_eq_true',decide_eq_true_eq,not_and,Bool.not_eq_false]at this
  exact(hyEq_iff.1 (this e.symm)).symm
 refine⟨h.fr' hk,⟨fun x hx=>?_,fun s x hx=>?_⟩,⟨fun x hx v hv=>?_,fun v t hv=>?_⟩,?_⟩
 · rw[Zb2 hk]at hx
   rcases List.mem_append.1 hx with hx | hx
   · exact Zje _ _ _ (hsam x hx) (.inr (h.hy.hit x hx))
   · exact Zje _ _ _ (hdist x hx) (.inl hx)
 · rw[Zb2 hk]
   rcases ZoJ _ _ _ _ hx with⟨h1,h2⟩ | h1
   · exact⟨List.mem_append_right _ h1,h2⟩
   · have:=h.hy.got _ _ h1
     exact⟨List.mem_append_left _ this.1,this.2⟩
 · rw[Zb2 hk]at hx
   rw[ht]
   rcases List.mem_append.1 hx with hx | hx
   · cases hs:ZZ (tsK (alH (ge d.frames k))) v with
     | none=>simpa using h.ty.hit x hx v hv
     | some t=>
      obtain⟨y,hy,h1,h2⟩:=hT.got v t hs
      have hy1:=ofB_one.1 h1
      have:=List.any_eq_false.1 ((hat y hy).1 hy1.1) x hx
      simp only[Zh8,ZbR hy1.2.1,hy1.2.2,hv,Bool.true_and,Bool.not_eq_true',decide_eq_false_iff_not,Classical.not_not]at this
      simp[this,h2]
   · rw[hT.hit x hx v hv];rfl
 · rw[Zb2 hk]
   rw[ht]at hv
   split at hv
   · obtain⟨y,hy,h1⟩:=hT.got v t hv
     exact⟨y,List.mem_append_right _ hy,h1⟩
   · obtain⟨y,hy,h1⟩:=h.ty.got v t hv
     exact⟨y,List.mem_append_left _ hy,h1⟩
 · rw[ZjH,if_neg (by omega),Nat.add_sub_cancel]
end
end Go.Proofs.YtneapgbkkkjagaaGreatDoor
set_option maxHeartbeats 8000000
set_option maxRecDepth 100000
namespace Go.Proofs.YtneapgbkkkjagaaGreatDoor
open Go.RowKit
theorem Zn3 {J:World→Prop} (hJ:Stab J) (d:Db) (hw:∀ f∈d.frames,f.wide.length*32≤140737488351232) (hG:ZaN J):Fn Tryz.prog J 38 [.agg (dbC d)] (.int (QK d)):=by
 refine Zo (N:=55) Tryz.func38 rfl rfl (lb rfl) fun S w0 hS hJ0=>?_
 refine tw Z1 ?_
 refine ZG tb hJ [1000] [.ptr (dbC d),_] [0] [_] rfl ⟨fun _ _ hk hx hl _=>Yq rfl (hl.env 0 0 _ rfl rfl) (Zp hS _ hk hx _ (Nat.le_refl _)) (jo hJ hx),trivial⟩ ?_
 refine Zf (ZG tb hJ [0,1001,1015] [_,_,.int (d.frames.length:Nat),_,_,_,_,.int (d.consts.length:Nat),_,_,_,_,_,.int (d.vars.length:Nat),_,_] [2,7,13] U3 rfl ⟨Z2 Xv,Z2 Zm,Z2 Zm,trivial⟩ ?_)
 refine ln 1 fun hl1=>?_
 refine cj 2 (fun hb1=>?_) fun hb1=>?_
 ·
  have e9:QK d=8:=by rw[QK,if_pos hb1]
  refine qso tb hJ [1000] [_] [_] ?_
  exact Ze (Xe (m:=0) rfl rfl (eI (e9.symm)))
 ·
  replace hb1:=(Bool.not_eq_true _).mpr hb1
  refine Zb (nx (tsq ?_))
  refine ZbD keyS hJ rfl rfl rfl (lb rfl) fun m1=>?_
  refine ZbD keyS hJ rfl rfl rfl (lb rfl) fun m2=>?_
  refine ZbD keyS hJ rfl rfl rfl (lb rfl) fun m3=>?_
  refine Zhn keyS (fun z':Hy=>AV.agg (hyC z')) hJ rfl rfl rfl (lb rfl) fun m4=>?_
  refine Zhn keyS (fun z':BA=>AV.str z') hJ rfl rfl rfl (lb rfl) fun m5=>?_
  refine sq (.agg [.lit (.map (some m1)),.lit (.map (some m2)),.lit (.map (some m3)),.lit (.map (some m4)),.lit (.map (some m5))]) rfl rfl (lb rfl) (fun a _ h=>Xr (us:=[a.eval (.tmp 25),a.eval (.tmp 26),a.eval (.tmp 27),a.eval (.tmp 28),a.eval (.tmp 29)]) Zmp rfl (by simp) (Zk (h.get 4 rfl) (Zk (h.get 3 rfl) (Zk (h.get 2 rfl) (Zk (h.get 1 rfl) (Zk (h.get 0 rfl) ZJ))))) rfl h.x) ?_
  refine sy (.ptr (mpC [m1,m2,m3,m4,m5])) (fun h=>Yq rfl (h.get 0 rfl) (Zp hS _ h.keep h.x _ (Nat.le_refl _)) (jo hJ h.x)) ?_
  refine snK 1 tb rfl ?_
  refine seK [0,8] [_,_] rfl ?_
  refine nx (Zf (tsq ?_))
  refine snK 2 tb rfl ?_
  refine kw pm2 ?_
  refine kw pm2 ?_
  refine kw pm2 ?_
  refine kw pm3 ?_
  refine kw pm4 ?_
  refine X0 (O:=[OB.set keyS m1 ([]:List BA),OB.set keyS m2 ([]:List BA)]) (R:=[OB.mT m5 ([]:List (BA×BA)),OB.mH m4 ([]:List (BA×Hy)),OB.set keyS m3 ([]:List BA)]) (ZnR hJ m1 m2 m3 m4 m5 d) ZvU rfl rfl rfl (lb rfl) hS hJ0 Zy (fun a w h=>(Za (h.get 1 rfl) (Za (h.get 0 rfl) Zh))) fun z6=>?_
  refine snK 1 tb rfl ?_
  refine seK [0,4,5] U3 rfl ?_
  refine nx (qso tb hJ [0,1,2,1001] [_,_] U4 ?_)
  refine cj 3 (fun hb2=>?_) fun hb2=>?_
  ·
   have e9:QK d=Zbo d:=by rw[QK,if_neg hb1,if_pos hb2]
   refine qso tb hJ [1001] [_,_] [_] ?_
   exact Ze (Xe (m:=0) rfl rfl (eI (e9.symm)))
  ·
   have e2:Zbo d=0:=Ztu hb2
   have z2:=z6.2 e2
   replace hb2:=(Bool.not_eq_true _).mpr hb2
   refine tw (ob0 (congrArg (fun z'=>OB.set keyS m1 (z')) (show z6.1.1=d.consts from by rw[z2]))) ?_
   refine tw (ob1 (congrArg (fun z'=>OB.set keyS m2 (z')) (show z6.1.2=d.vars from by rw[z2]))) ?_
   refine Zb (nx (qso tb hJ [1,2,1000] [_] U3 ?_))
   refine Zf (ZG tb hJ [0,2,1001,1002,1003] [_,_,.int (d.frames.length:Nat),_] [2] U5 rfl ⟨Z2 Xv,trivial⟩ ?_)
   refine Zc (tw (fun h=>Z3 h (m:=1) (s:=5) rfl) ?_)
   refine lpo (ι:=Nat×(List Hy)×(List BA)×(List (BA×Hy))×(List (BA×BA))) (fun(k,bf,fs,hm,tm)=>(k≤d.frames.length)∧(KInv d k fs hm tm bf)∧(∀ j,j<k→frE d j=0)) (fun(_,_,fs,hm,tm)=>[OB.set keyS m1 d.consts,OB.set keyS m2 d.vars,OB.mT m5 tm,OB.mH m4 hm,OB.set keyS m3 fs]) (fun(k,bf,_,_,_)=>[(41,.int (k:Nat)),(5,.rd (Xm bf))]) (fun(k,_,_,_,_)=>d.frames.length-k) [1,2,3,4,0] U3 (0,[],([]:List BA),([]:List (BA×Hy)),([]:List (BA×BA))) ⟨Nat.zero_le _,Zot d,fun j hj=>by omega⟩ ?_
   rintro⟨k,bf,fs,hm,tm⟩ ⟨f1_1,f1_2,f1_3⟩
   refine qso tb hJ (r5 [1000]) [_] U6 ?_
   refine ln 4 fun hl2=>?_
   refine cjS 5 (fun hb3=>?_) fun hb3=>?_
   ·
    try simp at hb3
    refine Zb (nx (Zf (Zc (tsq ?_))))
    refine sy (.ptr (frC (ge d.frames k))) (fun h=>ZO (i:=(k:Int)) ZS rfl (h.get 1 rfl) (h.get 3 rfl) (Int.natCast_nonneg _) (ZU (xs:=d.frames) (k:=k) sfz) rfl h.x) ?_
    refine snK 1 tb rfl ?_
    refine XZ (cs:=frC (ge d.frames k)) ZdY rfl rfl rfl (lb rfl) rfl rfl rfl (by decide) (m:=0) rfl rfl (fun a w h=>Zp hS _ h.keep h.x _ (Nat.le_refl _)) (fun a w h w' hk'=>Yz hJ _ _ hk' h.x) ?_
    refine seK [0,3,4,5,6,7] U6 rfl ?_
    refine nx (Zf (tsq ?_))
    refine snK 3 tb rfl ?_
    refine kw pm2 ?_
    refine kw pm3 ?_
    refine kw pm4 ?_
    refine kw pm4 ?_
    refine kw pm4 ?_
    refine X0 (O:=[OB.set keyS m1 d.consts,OB.set keyS m2 d.vars,OB.set keyS m3 fs,OB.mH m4 hm,OB.mT m5 tm]) (R:=[]) (ZuG hJ m1 m2 m3 m4 m5 d.consts d.vars fs hm tm (ge d.frames k) bf (hw _ (Zv (by omega))) (hG)) ZvT rfl rfl rfl (lb rfl) hS hJ0 Zy (fun a w h=>(Za (h.get 2 rfl) (Za (h.get 1 rfl) (Za (h.get 0 rfl) Zh)))) fun z7=>?_
    refine snK 1 tb rfl ?_
    refine seK [0,5,6,7,8,9] U6 rfl ?_
    refine nx (qso tb hJ (r6 [1001]) [_,_] U7 ?_)
    refine cj 6 (fun hb4=>?_) fun hb4=>?_
    ·
     have e4:frE d k≠0:=by rw[←Zdw f1_2 (by omega)];exact ZgC hb4
     have e9:QK d=ZeN d.consts d.vars fs hm tm (ge d.frames k) bf:=by rw[QK,if_neg hb1,if_neg hb2,Ys (by omega) f1_3 e4,Zdw f1_2 (by omega)]
     refine qso tb hJ [1001] [_,_] [_] ?_
     exact Ze (Xe (m:=0) rfl rfl (eI (e9.symm)))
    ·
     have e4:frE d k=0:=by rw[←Zdw f1_2 (by omega)];exact Ztu hb4
     have z4:=z7.2 (Ztu hb4)
     refine Zb (nx (Yu tb hJ [2,3,4,5,1001,1002] [_,.rd (Xm (YX (ge d.frames k).hyps)),_] [1] U6 rfl ⟨iFo hS hJ (ZdI hJ (ge d.frames k) (by have:=(ZgM e4).1;omega)) Zpo,trivial⟩ ?_))
     refine nx (ln 4 fun hl3=>?_)
     refine Yu tb hJ [0,1,2,5,1001] [.int (k+1:Nat),_] [0] U5 rfl ⟨Ya,trivial⟩ ?_
     refine kw pm2 ?_
     refine kw pm3 ?_
     refine kw pm4 ?_
     refine kw pm4 ?_
     refine kw pm4 ?_
     exact YH (k+1,(YX (ge d.frames k).hyps),z7.1.1,z7.1.2.1,z7.1.2.2) [0,1,2,4,3] ⟨by omega,by rw[z4.1,z4.2.1];exact Zou f1_2 (by omega) e4 z4.2.2,ZK f1_3 e4⟩
   ·
    try simp at hb3
    have e9:QK d=0:=by rw[QK,if_neg hb1,if_neg hb2];exact X4 fun j hj=>f1_3 j (by omega)
    refine Zt (nx (qso tb hJ [1000] [_] [_] ?_))
    exact Ze (Xe (m:=0) rfl rfl (eI (e9.symm)))
end Go.Proofs.YtneapgbkkkjagaaGreatDoor
