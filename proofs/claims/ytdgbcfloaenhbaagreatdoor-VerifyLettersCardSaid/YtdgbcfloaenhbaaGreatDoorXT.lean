/-
  DERIVED: the shelf's contracts at this dump, in plain words.
  CONTRACTS of the program: frames' small functions.
  CONTRACTS of the program: classes of bytes, labels, symbols.
  CONTRACTS of the program: whether a word can stand in a proof.
  PLAIN SPECIFICATIONS: the sets of a frame, as the program looks at them.
  CONTRACTS of the program: what is known of a database.
  CONTRACTS of the program: the sets of a frame, closures.
  CONTRACTS of the library: room, rows in a row, copies of maps.
  PLAIN SPECIFICATIONS: a frame's error by what the program knows, and what it knows behind it.
  CONTRACTS of the program: a frame.
  PLAIN LAW: what the program knows of a database and what the reference computes anew.
  PLAIN LAW: the program's check of a database is the reference's.
-/
import Derived.Test.YtdgbcfloaenhbaaGreatDoorXS
namespace Go.Proofs
open Go.Shelf
def Tryz.lays106_ren:Go.Shelf.Ren:=⟨fun | 106=>99 | 213=>112 | 265=>125 | n=>n,fun | 9=>9 | 3=>3 | n=>n,fun | n=>n⟩
theorem Tryz.lays106:Go.Proofs.Lays.n106 Tryz.prog Tryz.lays106_ren:= {
 mixed:=by kernel_rfl
 f106:=Tryz.func99.trans (congrArg some (by kernel_rfl))
 f213:=Tryz.func112.trans (congrArg some (by kernel_rfl))
 f265:=Tryz.func125.trans (congrArg some (by kernel_rfl))
 t3:=Tryz.underlying3
 a3:=Tryz.isAgg3
 z3:=Tryz.sizeOf3
 v3:=Tryz.zeroValue3
 t9:=Tryz.underlying9
 a9:=Tryz.isAgg9
 z9:=Tryz.sizeOf9
 v9:=Tryz.zeroValue9 }
open Go.RowKit in
theorem Tryz.strings_Compare (a b:ByteArray) (w:World):
 Calls Tryz.prog 99 #[.string a,.string b] w fun e w'=>e= .returned (.int .i64 (Lib.compareBytes a.data.toList b.data.toList))∧w'=w:=Any.strings_Compare Tryz.lays106 a b w
end Go.Proofs
set_option maxHeartbeats 8000000
set_option maxRecDepth 100000
namespace Go.Proofs.YtdgbcfloaenhbaaGreatDoor
open Go.RowKit
theorem ZfW {J:World→Prop} (_:Stab J) (x:ByteArray) (y:ByteArray):Fn Tryz.prog J 99 [.str x,.str y] (.int (ZpR x y)):=fun S w vs hS hJ0 h=>by
 simp only[RelL]at h
 obtain⟨u,_,rfl,h1,u2,_,rfl,h2,rfl⟩:=h
 rw[h1.lit,h2.lit]
 exact Calls.mono (Tryz.strings_Compare x y w) fun e w' ⟨he,hw⟩=>⟨_,he,Rel.of_lit _,hw▸Keeps.refl _ _,hw▸hJ0⟩
theorem ZdZ {J:World→Prop} (hJ:Stab J) (x:Pr) (y:Pr)  :Fn Tryz.prog J 85 [.agg (prC x),.agg (prC y)] (.int (Zgw x y)):=by
 refine Zw (N:=19) Tryz.func85 rfl rfl (lb rfl) fun S w0 hS hJ0=>?_
 clear hJ0
 refine hqs tb hJ [1000,1001] [.ptr (prC x),.ptr (prC y),_] [0,1] [_,_] rfl ⟨fun _ _ hk hx hl _=>Xb rfl (hl.env 0 0 _ rfl rfl) (hS _ hk.size) (js hJ hx),fun _ _ hk hx hl _=>Xb rfl (hl.env 1 1 _ rfl rfl) (hS _ hk.size) (js hJ hx),trivial⟩ ?_
 refine Zk (hqs tb hJ [0,1,1005] [_,_,_,_,.int (ZpR x.a y.a),_] [4] [_,_,_] rfl ⟨iFn hS hJ (ZfW hJ (x:=x.a) (y:=y.a) ) Zmq,trivial⟩ ?_)
 refine qs tb hJ [0,1,2,1001] [_,_] [_,_,_,_] ?_
 refine cj 3 (fun hb1=>?_) fun hb1=>?_
 try simp at hb1
 refine qs tb hJ [1001] [_,_] [_] ?_
 exact Zg (rtn (m:=0) rfl rfl (eI (by grind[Zgw])))
 try simp at hb1
 refine Zc (nx (hqs tb hJ [1005] [_,_,_,_,.int (ZpR x.b y.b),_] [4] [_] rfl ⟨iFn hS hJ (ZfW hJ (x:=x.b) (y:=y.b) ) Zmq,trivial⟩ ?_))
 exact Zg (rtn (m:=0) rfl rfl (eI (by grind[Zgw])))
theorem ZfM {J:World→Prop} (hJ:Stab J) (x:Hy) (y:Hy)  :Fn Tryz.prog J 81 [.agg (hyC x),.agg (hyC y)] (.bool (ZpJ x y)):=by
 refine Zw (N:=24) Tryz.func81 rfl rfl (lb rfl) fun S w0 hS hJ0=>?_
 clear hJ0
 refine hqs tb hJ [1000,1001] [.ptr (hyC x),.ptr (hyC y),_] [0,1] [_,_] rfl ⟨fun _ _ hk hx hl _=>Xb rfl (hl.env 0 0 _ rfl rfl) (hS _ hk.size) (js hJ hx),fun _ _ hk hx hl _=>Xb rfl (hl.env 1 1 _ rfl rfl) (hS _ hk.size) (js hJ hx),trivial⟩ ?_
 refine hqs tb hJ [1019] [_,_,_,_,_,_,_,_,_,_,.bool (x.floating==y.floating),_,_,_,_,_,_,.bool (decide (x.text=y.text)),_,_] [10,17] [_] rfl ⟨fun _ _ _ hx hl hc=>r_eqlB undb_4 rfl (hl.D 7 12 rfl hc) (hl.D 9 14 rfl hc) hx,iFn hS hJ (ZeQ hJ (xs:=x.text) (ys:=y.text) ) Zms,trivial⟩ ?_
 exact Zg (rtn (m:=0) rfl rfl (eB (by first | rfl | grind[ZM])))
theorem Zju {J:World→Prop} (hJ:Stab J) (hs:List Hy) (t:List ByteArray) (b:hs.length≤40):Fn Tryz.prog J 84 [.rd (XW hs),.rd (Zb t)] (.rd (ZbE (t::(Qf hs).map Hy.text))):=by
 refine Zw (N:=26) Tryz.func84 rfl rfl (lb rfl) fun S w0 hS hJ0=>?_
 refine tw Yn ?_
 refine ln 0 fun hl1=>?_
 refine ln 1 fun hl2=>?_
 refine qso tb hJ [0,1] [_] [_,_] ?_
 refine tsq ?_
 refine snK 1 tb rfl ?_
 refine Zqn Z0 ZcX hJ rfl rfl rfl (lb rfl) (fun _ _ h=>(h.get 0 rfl)) fun v1=>?_
 refine snK 1 tb rfl ?_
 refine seK [0,3] [_,_] rfl ?_
 refine nx (Zk (ZN tb hJ [0,1000,1001,1002] [_,.int (hs.length:Nat),_] [1] [_,_,_,_] rfl ⟨YK ZO,trivial⟩ ?_))
 refine Zf (lpo (ι:=Nat×Value×(List (List ByteArray))) (fun(k,_,out)=>(k≤hs.length)∧(out=t::(Qf (hs.take k)).map Hy.text)∧(out.length≤k+1)) (fun(_,v,out)=>[OB.row v 22 1 (out.map Zh)]) (fun(k,v,_)=>[(12,.int (k:Nat)),(5,.lit v)]) (fun(k,_,_)=>hs.length-k) [1,2,3,0] [_,_] (0,v1,[t]) ⟨Nat.zero_le _,by simp[Qf],by simp⟩ ?_)
 rintro⟨k,v,out⟩ ⟨f1_1,f1_2,f1_3⟩
 refine qso tb hJ [0,1,2,3,1000] [_] [_,_,_,_,_] ?_
 refine cjS 4 (fun hb1=>?_) fun hb1=>?_
 try simp at hb1
 refine Zc (nx (Zk (Zf (tsq ?_))))
 refine sq (.ptr (hyC (ge hs k))) rfl rfl (lb rfl) (fun _ _ h=>Yg (i:=(k:Int)) ZK rfl (h.get 0 rfl) (h.get 2 rfl) (Int.natCast_nonneg _) (Yu (xs:=hs) (k:=k) sfz) rfl h.x) ?_
 refine snK 1 tb rfl ?_
 refine X8 (cs:=hyC (ge hs k)) ZaY rfl rfl rfl (lb rfl) rfl rfl rfl (by decide) (m:=0) rfl rfl (fun a w h=>Zq hS _ h.keep h.x _ (Nat.le_refl _)) (fun a w h w' hk'=>Yq hJ _ _ hk' h.x) ?_
 refine seK [0,3,4,5,6] [_,_,_,_,_] rfl ?_
 refine nx (qso tb hJ [0,1,2,3,4,1002] [_,_,_] [_,_,_,_,_,_] ?_)
 refine cj 5 (fun hb2=>?_) fun hb2=>?_
 try simp at hb2
 refine Zz (snK 3 tb rfl ?_)
 refine sq (.rd (ZbE ([(ge hs k).text]))) rfl rfl (lb rfl) (fun _ _ h=>Xk Z0 ZcX rfl (h.get 0 rfl) (Zq hS _ h.keep h.x _ (Nat.le_refl _)) (jo hJ h.x)) ?_
 refine YE (f:=Zh) (m:=3) (s:=19) out ([(ge hs k).text]) (fun _=>rfl) Zbb hJ hJ0 rfl rfl rfl (lb rfl) rfl rfl (fun a w h=>(h.get 0 rfl)) sfz sfz fun v2=>?_
 refine snK 1 tb rfl ?_
 refine seK [0,2,3,7,8,9] [_,_,_,_,_,_] rfl ?_
 refine nx (ln 1 fun hl3=>?_)
 refine ln 2 fun hl4=>?_
 refine Y3 tb hJ [0,3,4,1001] [.int (k+1:Nat),_] [0] [_,_,_,_] rfl ⟨Yw,trivial⟩ ?_
 exact XB (k+1,v2,out++([(ge hs k).text])) [1,2,3,0] ⟨by omega,by rw[Qf,YY (by omega),f1_2];simp[Qf,hb2],by simp;omega⟩
 try simp at hb2
 refine Zc (nx (Y3 tb hJ [1,2,4,1001] [.int (k+1:Nat),_] [0] [_,_,_,_] rfl ⟨Yw,trivial⟩ ?_))
 exact XB (k+1,v,out) [0,1,3,2] ⟨by omega,by rw[Qf,YY (by omega),f1_2];simp[Qf,hb2],by omega⟩
 try simp at hb1
 refine ZB (nx (qso tb hJ [1001] [_,_] [_] ?_))
 refine tw (fun h=>Yr hS h (m:=0) (s:=4) rfl) ?_
 exact Zg (Qt (m:=0) rfl rfl (congrArg (fun z=>AV.rd (ZbE z)) (show out=(t::(Qf hs).map Hy.text)from by rw[f1_2,ZJ (by omega)])))
theorem Zha {J:World→Prop} (hJ:Stab J) (M:Nat) (vs:List ByteArray) (l:List (List ByteArray))  :FnM (ι:=Nat) Tryz.prog J 83 [OB.set keyS M vs] [.lit (.map (some M)),.rd (ZbE l)] [] (fun i'=>.lit (.map (some (i')))) (fun i'=>[OB.set keyS (i') (Zbj vs l.flatten)]):=by
 refine Ya (N:=31) Tryz.func83 rfl rfl (lb rfl) fun S w0 R hS hJ0 hH=>?_
 refine Z8 (B:=St All (SO S (R)) w0 31 [(0,.lit (.map (some M))),(1,.rd (ZbE l))] (XO J S w0.heap.size (R))) ?_ fun a w h=>h
 refine ln 1 fun hl1=>?_
 refine ZN tb hJ [0,1] [.rd (.lit (Go.Value.map none))] [0] [_,_] rfl ⟨fun _ _ _ hx _ _=>Xy rfl (Rel.of_lit (Go.Value.map none)) hx,trivial⟩ ?_
 refine tsq ?_
 refine ZaE keyS hJ rfl rfl rfl (lb rfl) fun m1=>?_
 refine snK 1 tb rfl ?_
 refine seK [0,2,3] [_,_,_] rfl ?_
 refine nx (Zk (ZN tb hJ [0,1,1000,1001,1002] [_,.int (l.length:Nat),_] [1] [_,_,_,_,_] rfl ⟨YK Zae,trivial⟩ ?_))
 refine Zf (lpo (ι:=Nat×(List ByteArray)) (fun(k,ys)=>(k≤l.length)∧(ys=Zbj vs (l.take k).flatten)) (fun(_,ys)=>(OB.set keyS m1 ys::R)) (fun(k,_)=>[(13,.int (k:Nat))]) (fun(k,_)=>l.length-k) [0,1,2,3,4] [_,_,_,_] (0,([]:List ByteArray)) ⟨Nat.zero_le _,by simp[Zbj]⟩ ?_)
 rintro⟨k,ys⟩ ⟨f1_1,f1_2⟩
 refine qso tb hJ [0,1,2,3,4,1000] [_] [_,_,_,_,_,_] ?_
 refine cjS 5 (fun hb1=>?_) fun hb1=>?_
 try simp at hb1
 refine Zc (nx (Zk (Zf (ZN tb hJ [0,1,2,3,4,1001,1002] [.ptr [Zb (ge l k)],_,_] [0] [_,_,_,_,_,_,_] rfl ⟨iIx Z0,trivial⟩ ?_))))
 refine ln 5 fun hl2=>?_
 refine ZN tb hJ [0,1,2,3,4,1000,1001,1002] [_,.int ((ge l k).length:Nat),_] [1] [_,_,_,_,_,_,_,_] rfl ⟨YK Zx,trivial⟩ ?_
 refine Zf (lpo (ι:=Nat×(List ByteArray)) (fun(j,zs)=>(j≤(ge l k).length)∧(zs=Zbj vs ((l.take k).flatten++(ge l k).take j))) (fun(_,zs)=>(OB.set keyS m1 zs::R)) (fun(j,_)=>[(19,.int (j:Nat))]) (fun(j,_)=>(ge l k).length-j) [0,1,2,3,4,5,6,7] [_,_,_,_,_,_,_] (0,ys) ⟨Nat.zero_le _,by simp[f1_2]⟩ ?_)
 rintro⟨j,zs⟩ ⟨f2_1,f2_2⟩
 refine qso tb hJ [0,1,2,3,4,5,6,7,1000] [_] [_,_,_,_,_,_,_,_,_] ?_
 refine cjS 8 (fun hb2=>?_) fun hb2=>?_
 try simp at hb2
 refine Zc (nx (Zk (Zf (ZN tb hJ [0,1,2,3,4,5,6,7,1002] [.ptr [.lit (.string (ge (ge l k) j))],_,_] [0] [_,_,_,_,_,_,_,_,_] rfl ⟨iIx Zi,trivial⟩ ?_))))
 refine ZN tb hJ [0,1,2,3,4,5,6,7,8,1002] [_,_,.bool (decide ((ge (ge l k) j)∈vs))] [2] [_,_,_,_,_,_,_,_,_,_] rfl ⟨fun _ _ hk hx hl _=>Yj (Kd:=keyS) (xs:=vs) ZR ZY (ge (ge l k) j) rfl (Ye hH hk hx (mo 0 rfl)) (hl.D 0 23 rfl rfl) (hl.D 1 24 rfl rfl) hx,trivial⟩ ?_
 refine cj 9 (fun hb3=>?_) fun hb3=>?_
 try simp at hb3
 refine Zz (snK 2 tb rfl ?_)
 refine Zbo ZR hJ hJ0 (ge (ge l k) j) rfl rfl (.inl rfl) (fun a w h=>⟨(h.get 1 rfl),(h.get 0 rfl),(Rel.of_lit (Go.Value.bool true))⟩) ?_
 refine seK [2,3,4,5,6,7,8,9] [_,_,_,_,_,_,_,_] rfl ?_
 refine nx (Y3 tb hJ [0,1,2,3,4,5,6,1001] [.int (j+1:Nat),_] [0] [_,_,_,_,_,_,_,_] rfl ⟨Yw,trivial⟩ ?_)
 exact XB (j+1,X6 zs (ge (ge l k) j)) [0,1,2,3,4,5,6,7] ⟨by omega,by rw[ZU (by omega),←List.append_assoc,Zdi,←f2_2];first | (simp[hb3,X6];done) | (simp[hb3,X6];grind)⟩
 try simp at hb3
 refine Zc (nx (Y3 tb hJ [0,1,2,3,4,5,6,1001] [.int (j+1:Nat),_] [0] [_,_,_,_,_,_,_,_] rfl ⟨Yw,trivial⟩ ?_))
 exact XB (j+1,zs) [0,1,2,3,4,5,6,7] ⟨by omega,by rw[ZU (by omega),←List.append_assoc,Zdi,←f2_2];first | (simp;done) | (simp[hb3];done) | (simp;grind)⟩
 try simp at hb2
 refine ZB (nx (Y3 tb hJ [0,1,2,3,1001] [.int (k+1:Nat),_] [0] [_,_,_,_,_] rfl ⟨Yw,trivial⟩ ?_))
 exact XB (k+1,zs) [0,1,2,3,4] ⟨by omega,by rw[f2_2,ZJ (xs:=ge l k) (by omega),ZU (by omega)];simp⟩
 try simp at hb1
 refine ZB (nx (qso tb hJ [1001] [_,_] [_] ?_))
 refine tw (ob0 (congrArg (fun z'=>OB.set keyS m1 (z')) (show ys=(Zbj vs l.flatten)from by rw[f1_2,ZJ (by omega)]))) ?_
 exact Zg (fun a w h=>ZS  (m:=0) m1 rfl h rfl rfl)
theorem Zk1 {J:World→Prop} (hJ:Stab J) (M:Nat) (ms:List ByteArray) (p:Pr)  :FnR Tryz.prog J 102 [OB.set keyS M ms] [.agg (prC p),.ptr [.lit (.map (some M))]] (.bool (!decide (p.a∈ms)|| !decide (p.b∈ms))):=by
 refine Yc (N:=16) Tryz.func102 rfl rfl (lb rfl) fun S w0 hS hJ0 hH=>?_
 clear hJ0
 refine hqs tb hJ [1,1000] [.ptr (prC p),_] [0] [_,_] rfl ⟨fun _ _ hk hx hl _=>Xb rfl (hl.env 0 0 _ rfl rfl) (hS _ hk.size) (js hJ hx),trivial⟩ ?_
 refine hqs tb hJ [1012] [_,_,_,.bool (decide (p.a∈ms)),_,_,_,_,_,.bool (decide (p.b∈ms)),_,_,_] [3,9] [_] rfl ⟨fun a _ hk hx hl _=>Yj (Kd:=keyS) (xs:=ms) ZR ZY p.a rfl (Y5 hH hk (mo 0 rfl)) (hl.D 0 4 rfl rfl) (hl.D 2 6 rfl rfl) hx,fun _ _ hk hx hl hc=>Yj (Kd:=keyS) (xs:=ms) ZR ZY p.b rfl (Y5 hH hk (mo 0 rfl)) (hl.D 6 10 rfl hc) (hl.D 8 12 rfl hc) hx,trivial⟩ ?_
 exact Zg (rtn (m:=0) rfl rfl (eB (by first | rfl | grind[ZM])))
theorem ZnI {J:World→Prop} (hJ:Stab J) (M:Nat) (ms:List ByteArray) (l:List Pr) (b:l.length*32≤140737488351232):FnR Tryz.prog J 87 [OB.set keyS M ms] [.lit (.map (some M)),.rd (QI l)] (.rd (QI (l.filter (inV ms)))):=by
 refine Yc (N:=9) Tryz.func87 rfl rfl (lb rfl) fun S w0 hS hJ0 hH=>?_
 refine tw Yn ?_
 refine ln 1 fun hl1=>?_
 refine ZN tb hJ [1,1000] [.ptr [.lit (.map (some M))],_] [0] [_,_] rfl ⟨fun _ _ hk hx hl _=>ZbK rfl (hl.env 0 0 _ rfl rfl) (Zq hS _ hk hx _ (Nat.le_refl _)) (jo hJ hx),trivial⟩ ?_
 refine tsq ?_
 refine snK 1 tb rfl ?_
 refine Xt (O:=[]) (R:=[]) (ZnX hJ (xs:=l) (b)) Zo3 rfl rfl rfl (lb rfl) hS hJ0 Zs (fun a w h=>(Za (h.get 0 rfl) Ze)) fun z1=>?_
 refine sq (.fn 102 [.ptr [.lit (.map (some M))]]) rfl rfl (lb rfl) (fun _ _ h=>XK (caps:=[(Go.Operand.tmp 2)]) rfl (Za (h.get 3 rfl) Ze) h.x) ?_
 refine Xt (O:=[OB.row z1 143 2 (l.map prC)]) (R:=[]) (ZeR hJ (v:=z1) (xs:=l) (f:=102) (caps:=[.ptr [.lit (.map (some M))]]) (Os:=[]) (Hs:=[OB.set keyS M ms]) (p:=(fun x':Pr=>!decide (x'.a∈ms)|| !decide (x'.b∈ms))) (fun q'=>Zk1 hJ M ms q') (Zo2) (by omega)) Zo4 rfl rfl rfl (lb rfl) hS hJ0 (ZH (hH _ (mo 0 rfl)) Zs) (fun a w h=>(Za (h.get 1 rfl) (Za (h.get 0 rfl) Ze))) fun _=>?_
 refine snK 1 tb rfl ?_
 refine seK [0,1] [_,_] rfl ?_
 refine nx (ln 0 fun hl2=>?_)
 exact Zg (Qt (m:=0) rfl rfl (congrArg (fun z=>AV.rd (QI z)) (show(l.filter fun x'=>!(fun x':Pr=>!decide (x'.a∈ms)|| !decide (x'.b∈ms)) x')=(l.filter (inV ms))from by congr 1;funext x';simp[inV])))
theorem ZeP {J:World→Prop} (hJ:Stab J) (y:Hy)  :Fn Tryz.prog J 70 [.agg (hyC y)] (.bool y.floating):=by
 refine Zw (N:=5) Tryz.func70 rfl rfl (lb rfl) fun S w0 hS hJ0=>?_
 clear hJ0
 refine hqs tb hJ [1000] [.ptr (hyC y),_] [0] [_] rfl ⟨fun _ _ hk hx hl _=>Xb rfl (hl.env 0 0 _ rfl rfl) (hS _ hk.size) (js hJ hx),trivial⟩ ?_
 refine qs tb hJ [1002] [_,_,_] [_] ?_
 exact Zg (rtn (m:=0) rfl rfl rfl)
theorem Zcp {J:World→Prop} (hJ:Stab J) (f:Fr) (b:f.hyps.length*48≤140737488351232):Fn Tryz.prog J 48 [.agg (frC f)] (.rd (XW (Qf f.hyps))):=by
 refine Zw (N:=7) Tryz.func48 rfl rfl (lb rfl) fun S w0 hS hJ0=>?_
 refine tw Yn ?_
 refine ZN tb hJ [1000] [.ptr (frC f),_] [0] [_] rfl ⟨fun _ _ hk hx hl _=>Xb rfl (hl.env 0 0 _ rfl rfl) (Zq hS _ hk hx _ (Nat.le_refl _)) (jo hJ hx),trivial⟩ ?_
 refine tsq ?_
 refine snK 2 tb rfl ?_
 refine Xt (O:=[]) (R:=[]) (ZnY hJ (xs:=f.hyps) (b)) ZrM rfl rfl rfl (lb rfl) hS hJ0 Zs (fun a w h=>(Za (h.get 0 rfl) Ze)) fun z1=>?_
 refine Xt (O:=[OB.row z1 66 3 (f.hyps.map hyC)]) (R:=[]) (ZeS hJ (v:=z1) (xs:=f.hyps) (f:=70) (caps:=[]) (Os:=[]) (Hs:=[]) (p:=(fun x':Hy=>x'.floating)) (fun q'=>(ZeP hJ q').r) (ZrL) (by omega)) ZrN rfl rfl rfl (lb rfl) hS hJ0 Zs (fun a w h=>(Za (h.get 0 rfl) (Za (QH 70) Ze))) fun _=>?_
 refine snK 1 tb rfl ?_
 refine seK [0,1,3] [_,_,_] rfl ?_
 refine nx (ln 0 fun hl1=>?_)
 refine ln 2 fun hl2=>?_
 exact Zg (Qt (m:=0) rfl rfl (congrArg (fun z=>AV.rd (XW z)) (show(f.hyps.filter fun x'=>!(fun x':Hy=>x'.floating) x')=(Qf f.hyps)from rfl)))
theorem ZnQ {J:World→Prop} (hJ:Stab J) (xs:List Hy) (ys:List Hy)  :Fn Tryz.prog J 63 [.rd (XW xs),.rd (XW ys)] (.int (Ze4 (xs.map Hy.label) (ys.map Hy.label):Nat)):=by
 refine Zw (N:=32) Tryz.func63 rfl rfl (lb rfl) fun S w0 hS hJ0=>?_
 clear hJ0
 refine ln 0 fun hl1=>?_
 refine ln 1 fun hl2=>?_
 refine qs tb hJ [0,1] [_] [_,_] ?_
 refine qs tb hJ [0,1,1000] [_] [_,_,_] ?_
 refine Zk (Zf (lp (ι:=Nat) (fun k=>(k≤xs.length)∧(k≤ys.length)∧(∀ j,j<k→(ge xs j).label=(ge ys j).label)) (fun k=>[(5,.int (k:Nat))]) (fun k=>xs.length-k) [0,1,2] [_,_] 0 ⟨Nat.zero_le _,Nat.zero_le _,fun j hj=>by omega⟩ ?_))
 rintro k ⟨f1_1,f1_2,f1_3⟩
 refine Zk (hqs tb hJ [0,1,2,1022] [_,_,.int (xs.length:Nat),_,_,_,_,.int (ys.length:Nat),_,_,_,_,_,.ptr (hyC (ge xs k)),_,_,_,_,.ptr (hyC (ge ys k)),_,_,_,_] [2,7,13,18] [_,_,_,_] rfl ⟨YK ZO,YK ZO,gIx ZK (hk:=fun(hc':(((decide ((k:Int)< (xs.length:Int)))&& (decide ((k:Int)< (ys.length:Int))))==true)=true)=>by(try simp at hc');first | omega | (simp;omega) | grind[ZM]),gIx ZK (hk:=fun(hc':(((decide ((k:Int)< (xs.length:Int)))&& (decide ((k:Int)< (ys.length:Int))))==true)=true)=>by(try simp at hc');first | omega | (simp;omega) | grind[ZM]),trivial⟩ ?_)
 refine cj 3 (fun hb1=>?_) fun hb1=>?_
 try simp at hb1
 refine Zc (nx (Zf (hqp tb hJ [0,1,1002] [_,.int (k+1:Nat),_] [1] [_,_,_] rfl ⟨Yw,trivial⟩ ?_)))
 exact lpE (k+1) [0,1,2] ⟨by omega,by omega,ZZ f1_3 (by simp_all)⟩
 try simp at hb1
 refine ZB (nx (qs tb hJ [1001] [_,_] [_] ?_))
 exact Zg (rtn (m:=0) rfl rfl (eI (by exact congrArg _ (Zmi (xs.map Hy.label) (ys.map Hy.label) k (by simpa using f1_1) (by simpa using f1_2) (fun j hj=>by rw[Ziu (by omega),Ziu (by omega)];exact f1_3 j hj) (by rw[List.length_map,List.length_map];rintro⟨h1,h2,h3⟩;rw[Ziu h1,Ziu h2]at h3;simp_all)))))
theorem Zie {J:World→Prop} (hJ:Stab J) (y:Hy) (b:y.text.length*16≤140737488351232):Fn Tryz.prog J 66 [.agg (hyC y)] (.agg (hyC y)):=by
 refine Zw (N:=8) Tryz.func66 rfl rfl (lb rfl) fun S w0 hS hJ0=>?_
 refine tw Yn ?_
 refine tsq ?_
 refine ZkC (cs:=[.lit (.string y.label),.lit (.bool y.floating),Zb y.text]) hJ rfl rfl rfl (lb rfl) (fun a w h=>(h.get 0 rfl)) fun b1=>?_
 refine ZV Yz hJ rfl rfl rfl (lb rfl) fun b2=>?_
 refine seK [0,1] [_,_] rfl ?_
 refine nx (tsq ?_)
 refine sq (.at b1 2) rfl rfl (lb rfl) (fun _ _ h=>Zo Q4 rfl (h.get 1 rfl) h.x) ?_
 refine sq (.rd (Zb y.text)) rfl rfl (lb rfl) (fun _ _ h=>Zn (cs:=[.lit (.string y.label),.lit (.bool y.floating),Zb y.text]) YX rfl (Zd h.x (mo 1 rfl)) (h.get 0 rfl) rfl h.x) ?_
 refine Xt (O:=[]) (R:=[OB.var b2 [.lit (.string (⟨#[]⟩:ByteArray)),.lit (.bool false),Zb ([]:List ByteArray)],OB.var b1 [.lit (.string y.label),.lit (.bool y.floating),Zb y.text]]) (Zif hJ (xs:=y.text) sfz) ZmC rfl rfl rfl (lb rfl) hS hJ0 Zs (fun a w h=>(Za (h.get 0 rfl) Ze)) fun z3=>?_
 refine sq (.at b1 2) rfl rfl (lb rfl) (fun _ _ h=>Zo Q4 rfl (h.get 4 rfl) h.x) ?_
 refine kw pm2 ?_
 refine kw pm1 ?_
 refine kw (fun h=>Yr hS h (m:=1) (s:=5) rfl) ?_
 refine ZE (b:=b1) (off:=2) (cs:=[.lit (.string y.label),.lit (.bool y.floating),Zb y.text]) (es:=[.lit (.string y.label),.lit (.bool y.floating),Zb y.text]) hJ hJ0 QV rfl rfl rfl (lb rfl) rfl (fun a w h=>⟨(h.get 1 rfl),(h.get 0 rfl)⟩) ?_
 refine seK [0,2,4,5] [_,_,_,_] rfl ?_
 refine nx (ln 0 fun hl1=>?_)
 refine tsq ?_
 refine sq (.agg [.lit (.string y.label),.lit (.bool y.floating),Zb y.text]) rfl rfl (lb rfl) (fun _ _ h=>Yo (cs:=[.lit (.string y.label),.lit (.bool y.floating),Zb y.text]) (ds:=[.lit (.string y.label),.lit (.bool y.floating),Zb y.text]) X7 rfl (Zd h.x (mo 0 rfl)) (h.get 3 rfl) rfl rfl h.x) ?_
 refine kw pm1 ?_
 refine ZF (b:=b2) (off:=0) (cs:=[.lit (.string (⟨#[]⟩:ByteArray)),.lit (.bool false),Zb ([]:List ByteArray)]) (es:=[.lit (.string y.label),.lit (.bool y.floating),Zb y.text]) (news:=[.lit (.string y.label),.lit (.bool y.floating),Zb y.text]) hJ hJ0 YO rfl rfl rfl (lb rfl) rfl (fun a w h=>⟨(h.get 3 rfl),(h.get 0 rfl)⟩) ?_
 refine seK [3] [_] rfl ?_
 exact nx (Zg (fun a w h=>Zar (cs:=[.lit (.string y.label),.lit (.bool y.floating),Zb y.text]) (m:=0) rfl X7 h rfl rfl rfl))
theorem Zpv {J:World→Prop} (hJ:Stab J) (M1:Nat) (M2:Nat) (M3:Nat) (M4:Nat) (M5:Nat) (cs:List ByteArray) (vs:List ByteArray) (l:List ByteArray)  :FnR Tryz.prog J 59 [OB.set keyS M1 cs,OB.set keyS M2 vs] [.ptr (mpC [M1,M2,M3,M4,M5]),.rd (Zb l)] (.int (Zi5 cs vs l)):=by
 refine Yc (N:=30) Tryz.func59 rfl rfl (lb rfl) fun S w0 hS hJ0 hH=>?_
 clear hJ0
 refine ln 1 fun hl1=>?_
 refine hqs tb hJ [1,1000] [.ptr [.ptr (mpC [M1,M2,M3,M4,M5])],_] [0] [_,_] rfl ⟨fun _ _ hk hx hl _=>ZkS rfl (hl.env 0 0 _ rfl rfl) (hS _ hk.size) (js hJ hx),trivial⟩ ?_
 refine Zk (Zf (hqs tb hJ [0,1,1008] [_,.int (l.length:Nat),_,_,_,.int (l.length:Nat),_,_,_] [1,5] [_,_,_] rfl ⟨YK Zx,YK Zx,trivial⟩ ?_))
 refine cj 2 (fun hb1=>?_) fun hb1=>?_
 refine qs tb hJ [1000] [_] [_] ?_
 exact Zg (rtn (m:=0) rfl rfl (eI (by grind[Zi5])))
 refine hqs tb hJ [1015] [_,_,_,_,_,.ptr [.lit (.string (ge l 0))],_,.bool (decide ((ge l 0)∈cs)),_,_,_,.rd (Zb (l.drop 1)),.fn 82 [.ptr [.ptr (mpC [M1,M2,M3,M4,M5])]],.bool ((l.drop 1).any (fun s=>!(decide (s∈cs)||decide (s∈vs)))),_,_] [5,7,11,12,13] [_] rfl ⟨iIx (k:=0) Zi,fun _ _ hk hx hl _=>Yj (Kd:=keyS) (xs:=cs) ZR ZY (ge l 0) rfl (Y5 hH hk (mo 0 rfl)) (hl.D 3 18 rfl rfl) (hl.D 6 21 rfl rfl) hx,fun _ _ _ hx hl hc=>Qj (ys:=l.drop 1) (lo:=1) (hi:=l.length) (by rw[List.take_length]) Zi (fun _=>rfl) rfl (hl.D 10 25 rfl hc) (Rel.of_lit (Go.Value.int Go.IntKind.i64 1)) rfl (by have hc':((!(decide ((ge l 0)∈cs)))==false)=true:=hc;(try simp at hc');(first | omega | (simp;omega) | grind[ZM])) (by have hc':((!(decide ((ge l 0)∈cs)))==false)=true:=hc;(try simp at hc');(first | omega | (simp;omega) | grind[ZM])) hx,fun _ _ _ hx hl _=>XK (caps:=[(Go.Operand.tmp 2)]) rfl (Za (hl.env 1 2 _ rfl rfl) Ze) hx,fun _ _ hk hx hl hc=>Xj (YB hJ (xs:=(l.drop 1)) (f:=82) (caps:=[.ptr [.ptr (mpC [M1,M2,M3,M4,M5])]]) (Os:=[OB.set keyS M1 cs,OB.set keyS M2 vs]) (p:=(fun s=>!(decide (s∈cs)||decide (s∈vs)))) (fun q'=>ZqC hJ M1 M2 M3 M4 M5 cs vs q') (ZrG)) ZdL rfl (nm hS hk) (hx) (ZH (Y5 hH hk (mo 0 rfl)) (ZH (Y5 hH hk (mo 1 rfl)) Zs)) (Za (hl.D 11 26 rfl hc) (Za (hl.D 12 27 rfl hc) Ze)) (js hJ hx),trivial⟩ ?_
 refine cj 0 (fun hb2=>?_) fun hb2=>?_
 refine qs tb hJ [1000] [_] [_] ?_
 exact Zg (rtn (m:=0) rfl rfl (eI (by grind[Zi5])))
 refine Zc (nx (qs tb hJ [1000] [_] [_] ?_))
 exact Zg (rtn (m:=0) rfl rfl (eI (by grind[Zi5])))
theorem Zlc {J:World→Prop} (hJ:Stab J)   :Fn Tryz.prog J 51 [] (.agg (clsL.map u8D)):=by
 refine Zw (N:=78) Tryz.func51 rfl rfl (lb rfl) fun S w0 hS hJ0=>?_
 refine tw Yn ?_
 refine tsq ?_
 refine ZV ZbB hJ rfl rfl rfl (lb rfl) fun b1=>?_
 refine seK [0] [_] rfl ?_
 refine nx (Zk (qso tb hJ [0,1000] [_] [_,_] ?_))
 refine Zf (lpo (ι:=Nat×(List UInt8)) (fun(k,xs)=>(k≤256)∧(xs.length=256)∧(∀ j,j<k→ge xs j=ZdH (UInt8.ofNat j))∧(∀ j,k≤j→j<256→ge xs j=0)) (fun(_,xs)=>[OB.var b1 (xs.map u8D)]) (fun(k,_)=>[(3,.int (k:Nat))]) (fun(k,_)=>256-k) [0,1] [_] (0,(List.replicate 256 (0:UInt8))) ⟨Nat.zero_le _,by simp,fun j hj=>by omega,fun j _ h=>by rw[Y6 (by simpa using h)];exact List.getElem_replicate _⟩ ?_)
 rintro⟨k,xs⟩ ⟨f1_1,f1_2,f1_3,f1_4⟩
 refine qso tb hJ [0,1,1000] [_] [_,_,_] ?_
 refine cjS 2 (fun hb1=>?_) fun hb1=>?_
 ·
  try simp at hb1
  refine Zc (nx (Zk (Zf (qso tb hJ [0,1,1001] [_,_] [_,_,_] ?_))))
  refine ZN tb hJ [0,1,2,1002] [_,.rd (.lit (.int .u8 ((UInt8.ofNat k).toNat:Int))),_] [1] [_,_,_,_] rfl ⟨fun _ _ _ hx hl _=>ZnE (k:=k) XH ZaC rfl (hl.D 0 6 rfl rfl) sfz hx,trivial⟩ ?_
  refine Zf (qso tb hJ [0,1,2,3,1014] [_,_,_,_,_,_,_,_,_,_,_,_,_,_,_] [_,_,_,_,_] ?_)
  refine cj 4 (fun hb2=>?_) fun hb2=>?_
  ·
   replace hb2:c2B (UInt8.ofNat k)=true:=hb2
   refine Zz (snK 1 tb rfl ?_)
   refine sq (.at b1 k) rfl rfl (lb rfl) (fun _ _ h=>ZaJ (i:=k) Xx rfl (h.get 1 rfl) (h.get 0 rfl) sfz h.x) ?_
   refine ZE (b:=b1) (off:=k) (c:=u8D (1:UInt8)) hJ hJ0 ZcP rfl rfl rfl (by rw[List.length_map];exact sfz) (Zfi sfz) (fun a w h=>⟨(h.get 0 rfl),(Rel.of_lit (Go.Value.int Go.IntKind.u8 1))⟩) ?_
   refine seK [2,3] [_,_] rfl ?_
   refine nx (Y3 tb hJ [0,1001] [.int (k+1:Nat),_] [0] [_,_] rfl ⟨Yw,trivial⟩ ?_)
   exact XB (k+1,xs.set k (1:UInt8)) [0,1] ⟨by omega,by rw[List.length_set];exact f1_2,ZcU f1_2 (by omega) f1_3 (by simp[ZdH,hb2]),ZcV f1_2 (by omega) f1_4⟩
  ·
   replace hb2:c2B (UInt8.ofNat k)=false:=hb2
   refine qso tb hJ [0,1,2,3,1002] [_,_,_] [_,_,_,_,_] ?_
   refine cj 4 (fun hb3=>?_) fun hb3=>?_
   ·
    replace hb3:c3B (UInt8.ofNat k)=true:=hb3
    refine Zz (snK 1 tb rfl ?_)
    refine sq (.at b1 k) rfl rfl (lb rfl) (fun _ _ h=>ZaJ (i:=k) Xx rfl (h.get 1 rfl) (h.get 0 rfl) sfz h.x) ?_
    refine ZE (b:=b1) (off:=k) (c:=u8D (4:UInt8)) hJ hJ0 ZcP rfl rfl rfl (by rw[List.length_map];exact sfz) (Zfi sfz) (fun a w h=>⟨(h.get 0 rfl),(Rel.of_lit (Go.Value.int Go.IntKind.u8 4))⟩) ?_
    refine seK [2,3] [_,_] rfl ?_
    refine nx (Y3 tb hJ [0,1001] [.int (k+1:Nat),_] [0] [_,_] rfl ⟨Yw,trivial⟩ ?_)
    exact XB (k+1,xs.set k (4:UInt8)) [0,1] ⟨by omega,by rw[List.length_set];exact f1_2,ZcU f1_2 (by omega) f1_3 (by simp[ZdH,hb2,hb3]),ZcV f1_2 (by omega) f1_4⟩
   ·
    replace hb3:c3B (UInt8.ofNat k)=false:=hb3
    refine qso tb hJ [0,1,2,3,1034] [_,_,_,_,_,_,_,_,_,_,_,_,_,_,_,_,_,_,_,_,_,_,_,_,_,_,_,_,_,_,_,_,_,_,_] [_,_,_,_,_] ?_
    refine cj 4 (fun hb4=>?_) fun hb4=>?_
    ·
     replace hb4:c4B (UInt8.ofNat k)=true:=hb4
     refine Zz (snK 1 tb rfl ?_)
     refine sq (.at b1 k) rfl rfl (lb rfl) (fun _ _ h=>ZaJ (i:=k) Xx rfl (h.get 1 rfl) (h.get 0 rfl) sfz h.x) ?_
     refine ZE (b:=b1) (off:=k) (c:=u8D (2:UInt8)) hJ hJ0 ZcP rfl rfl rfl (by rw[List.length_map];exact sfz) (Zfi sfz) (fun a w h=>⟨(h.get 0 rfl),(Rel.of_lit (Go.Value.int Go.IntKind.u8 2))⟩) ?_
     refine seK [2,3] [_,_] rfl ?_
     refine nx (Y3 tb hJ [0,1001] [.int (k+1:Nat),_] [0] [_,_] rfl ⟨Yw,trivial⟩ ?_)
     exact XB (k+1,xs.set k (2:UInt8)) [0,1] ⟨by omega,by rw[List.length_set];exact f1_2,ZcU f1_2 (by omega) f1_3 (by simp[ZdH,hb2,hb3,hb4]),ZcV f1_2 (by omega) f1_4⟩
    ·
     replace hb4:c4B (UInt8.ofNat k)=false:=hb4
     refine qso tb hJ [0,1,2,1006] [_,_,_,_,_,_,_] [_,_,_,_] ?_
     refine cj 3 (fun hb5=>?_) fun hb5=>?_
     ·
      replace hb5:c5B (UInt8.ofNat k)=true:=hb5
      refine Zz (snK 1 tb rfl ?_)
      refine sq (.at b1 k) rfl rfl (lb rfl) (fun _ _ h=>ZaJ (i:=k) Xx rfl (h.get 1 rfl) (h.get 0 rfl) sfz h.x) ?_
      refine ZE (b:=b1) (off:=k) (c:=u8D (3:UInt8)) hJ hJ0 ZcP rfl rfl rfl (by rw[List.length_map];exact sfz) (Zfi sfz) (fun a w h=>⟨(h.get 0 rfl),(Rel.of_lit (Go.Value.int Go.IntKind.u8 3))⟩) ?_
      refine seK [2,3] [_,_] rfl ?_
      refine nx (Y3 tb hJ [0,1001] [.int (k+1:Nat),_] [0] [_,_] rfl ⟨Yw,trivial⟩ ?_)
      exact XB (k+1,xs.set k (3:UInt8)) [0,1] ⟨by omega,by rw[List.length_set];exact f1_2,ZcU f1_2 (by omega) f1_3 (by simp[ZdH,hb2,hb3,hb4,hb5]),ZcV f1_2 (by omega) f1_4⟩
     ·
      replace hb5:c5B (UInt8.ofNat k)=false:=hb5
      refine Zc (nx (Y3 tb hJ [0,1001] [.int (k+1:Nat),_] [0] [_,_] rfl ⟨Yw,trivial⟩ ?_))
      exact XB (k+1,xs) [0,1] ⟨by omega,f1_2,ZZ f1_3 (by rw[f1_4 k (Nat.le_refl k) (by omega)];simp[ZdH,hb2,hb3,hb4,hb5]),fun j h1 h2=>f1_4 j (by omega) h2⟩
 ·
  try simp at hb1
  refine ZB (nx (tsq ?_))
  refine sq (.agg (xs.map u8D)) rfl rfl (lb rfl) (fun _ _ h=>Yo (cs:=xs.map u8D) (ds:=xs.map u8D) ZdN rfl (Zd h.x (mo 0 rfl)) (h.get 0 rfl) (by rw[List.drop_zero,List.take_of_length_le (by rw[List.length_map];omega)]) (by rw[List.length_map];omega) h.x) ?_
  refine ZF (b:=b1) (off:=0) (news:=xs.map u8D) hJ hJ0 (by rw[List.length_map,show xs.length=256 from(f1_2)];exact Zcm) rfl rfl rfl (by simp only[List.length_map];exact(by omega)) (ZmQ (by rw[List.length_map]<;>exact(rfl))) (fun a w h=>⟨(h.get 1 rfl),(h.get 0 rfl)⟩) ?_
  refine seK [1] [_] rfl ?_
  exact nx (Zg (fun a w h=>Zar (cs:=xs.map u8D) (m:=0) rfl ZdN h rfl (by rw[List.length_map];exact(f1_2)) (congrArg (fun z':List UInt8=>z'.map u8D) (show xs=clsL from Zrt f1_2 fun j hj=>f1_3 j (by omega)))))
theorem ZnU {J:World→Prop} (hJ:Stab J) (xs:List UInt8) (c:UInt8)  :Fn Tryz.prog J 77 [.rd (u8sC xs),.rd (.lit (.int .u8 (c.toNat:Int)))] (.int (Z9 (fun x':UInt8=>decide (((c).toNat:Int)=((x').toNat:Int))) xs)):=by
 refine Zw (N:=19) Tryz.func77 rfl rfl (lb rfl) fun S w0 hS hJ0=>?_
 clear hJ0
 refine ln 0 fun hl1=>?_
 refine qs tb hJ [0,1] [_] [_,_] ?_
 refine Zk (hqs tb hJ [0,1,1001,1002] [_,.int (xs.length:Nat),_] [1] [_,_,_,_] rfl ⟨YK Zko,trivial⟩ ?_)
 refine Zf (lp (ι:=Nat) (fun k=>(k≤xs.length)∧(∀ j,j<k→(fun x':UInt8=>decide (((c).toNat:Int)=((x').toNat:Int))) (ge xs j)=false)) (fun k=>[(8,.int (k:Nat))]) (fun k=>xs.length-k) [0,1,2,3] [_,_,_] 0 ⟨Nat.zero_le _,fun j hj=>by omega⟩ ?_)
 rintro k ⟨f1_1,f1_2⟩
 refine qs tb hJ [0,1,2,3,1000] [_] [_,_,_,_,_] ?_
 refine cjS 4 (fun hb1=>?_) fun hb1=>?_
 try simp at hb1
 refine Zc (nx (Zk (Zf (qs tb hJ [0,1,2,3,1001] [_,_] [_,_,_,_,_] ?_))))
 refine hqs tb hJ [0,1,2,3,4,1005] [_,_,_,.ptr [.lit (.int .u8 ((ge xs k).toNat:Int))],_,_] [3] [_,_,_,_,_,_] rfl ⟨iIx Zbv,trivial⟩ ?_
 refine cj 5 (fun hb2=>?_) fun hb2=>?_
 try simp at hb2
 refine qs tb hJ [1001] [_,_] [_] ?_
 exact Zg (rtn (m:=0) rfl rfl (eI (by first | exact(Xa (p:=fun x':UInt8=>decide (((c).toNat:Int)=((x').toNat:Int))) hb1 (by simpa using hb2) f1_2).symm | exact(YH (p:=fun x':UInt8=>decide (((c).toNat:Int)=((x').toNat:Int))) fun j hj=>f1_2 j (by omega)).symm)))
 try simp at hb2
 refine Zc (nx (hqp tb hJ [0,1,2,1001] [.int (k+1:Nat),_] [0] [_,_,_,_] rfl ⟨Yw,trivial⟩ ?_))
 exact lpE (k+1) [0,1,2,3] ⟨by omega,ZZ f1_2 (by simpa using hb2)⟩
 try simp at hb1
 refine ZB (nx (qs tb hJ [1000] [_] [_] ?_))
 exact Zg (rtn (m:=0) rfl rfl (eI (by first | exact(Xa (p:=fun x':UInt8=>decide (((c).toNat:Int)=((x').toNat:Int))) hb1 (by simpa using hb2) f1_2).symm | exact(YH (p:=fun x':UInt8=>decide (((c).toNat:Int)=((x').toNat:Int))) fun j hj=>f1_2 j (by omega)).symm)))
theorem Zhb {J:World→Prop} (hJ:Stab J) (xs:List UInt8) (c:UInt8)  :Fn Tryz.prog J 52 [.rd (u8sC xs),.rd (.lit (.int .u8 (c.toNat:Int)))] (.bool (decide (c∈xs))):=by
 refine Zw (N:=9) Tryz.func52 rfl rfl (lb rfl) fun S w0 hS hJ0=>?_
 clear hJ0
 refine ln 0 fun hl1=>?_
 refine qs tb hJ [0,1] [_] [_,_] ?_
 refine hqs tb hJ [1004] [_,_,.int (Z9 (fun x':UInt8=>decide (((c).toNat:Int)=((x').toNat:Int))) xs),_,_] [2] [_] rfl ⟨iFn hS hJ (ZnU hJ (xs:=xs) (c:=c) ) ZrI,trivial⟩ ?_
 exact Zg (rtn (m:=0) rfl rfl (eB (by rw[ZbO,Zn6])))
theorem Zpx {J:World→Prop} (hJ:Stab J) (s:ByteArray) (bs:List UInt8)  :Fn Tryz.prog J 42 [.str s,.rd (u8sC bs)] (.bool (Zbe s bs)):=by
 refine Zw (N:=29) Tryz.func42 rfl rfl (lb rfl) fun S w0 hS hJ0=>?_
 refine tw Yn ?_
 refine lnS 0 fun hl1=>?_
 refine ln 1 fun hl2=>?_
 refine qso tb hJ [0,1] [_] [_,_] ?_
 refine Zk (ZN tb hJ [0,1,1006] [_,_,_,_,.int (s.size:Nat),_,_] [4] [_,_,_] rfl ⟨ZpI Yb,trivial⟩ ?_)
 refine cj 2 (fun hb1=>?_) fun hb1=>?_
 refine qso tb hJ [1000] [_] [_] ?_
 exact Zg (Qt (m:=0) rfl rfl (eB (by first | (rw[Zbe,if_pos hb1];done) | (rw[Zbe,if_neg (by rw[hb1];decide)];symm;exact Za4 (p:=fun c=>decide (ZdH c∈bs)) hb2 (by simpa [Ze6]using hb3)) | (rw[Zbe,if_neg (by rw[hb1];decide)];symm;exact ZiR fun j hj=>f1_2 j (by omega)))))
 refine Zc (nx (tsq ?_))
 refine sq (.agg (clsL.map u8D)) rfl rfl (lb rfl) (fun _ _ h=>ZeN (Zlc hJ  ) ZrW rfl (Zq hS _ h.keep h.x) (h.x.1) Ze (jo hJ h.x)) ?_
 refine ZV ZbB hJ rfl rfl rfl (lb rfl) fun b1=>?_
 refine ZF (b:=b1) (off:=0) (news:=clsL.map u8D) hJ hJ0 (by rw[List.length_map,show clsL.length=256 from(Zap)];exact Zcm) rfl rfl rfl (by simp only[List.length_map];exact(by rw[Zap,List.length_replicate];exact Nat.le_of_ble_eq_true rfl)) (ZmQ (by rw[List.length_map]<;>exact(by rw[Zap,List.length_replicate]))) (fun a w h=>⟨(h.get 0 rfl),(h.get 1 rfl)⟩) ?_
 refine seK [0,2,3] [_,_,_] rfl ?_
 refine nx (Zk (ZN tb hJ [0,1,2,1001,1002] [_,.int (s.size:Nat),_] [1] [_,_,_,_,_] rfl ⟨ZpI Yb,trivial⟩ ?_))
 refine Zf (lpo (ι:=Nat) (fun k=>(k≤s.size)∧(∀ j,j<k→decide (ZdH (bt s j)∈bs)=true)) (fun _=>[OB.var b1 (clsL.map u8D)]) (fun k=>[(17,.int (k:Nat))]) (fun k=>s.size-k) [0,1,2,3,4] [_,_,_,_] 0 ⟨Nat.zero_le _,fun j hj=>by omega⟩ ?_)
 rintro k ⟨f1_1,f1_2⟩
 refine qso tb hJ [0,1,2,3,4,1000] [_] [_,_,_,_,_,_] ?_
 refine cjS 5 (fun hb2=>?_) fun hb2=>?_
 try simp at hb2
 refine Zc (nx (Zk (Zf (qso tb hJ [0,1,2,3,4,1001] [_,_] [_,_,_,_,_,_] ?_))))
 refine ZN tb hJ [0,1,2,3,4,1007] [_,_,_,.rd (.lit (.int .u8 ((ge s.data.toList k).toNat:Int))),.at b1 ((ge s.data.toList k).toNat),.rd (.lit (.int .u8 ((ge clsL (ge s.data.toList k).toNat).toNat:Int))),.bool (decide ((ge clsL (ge s.data.toList k).toNat)∈bs)),_] [3,4,5,6] [_,_,_,_,_,_] rfl ⟨fun _ _ _ hx hl _=>ZfJ (i:=(k:Int)) Yb rfl (hl.D 1 21 rfl rfl) (hl.D 2 22 rfl rfl) (Int.natCast_nonneg _) (ZbV (s:=s) (k:=k) sfz) hx,fun _ _ _ hx hl _=>ZaJ (i:=(ge s.data.toList k).toNat) Xx rfl (hl.env 0 5 _ rfl rfl) (hl.D 3 23 rfl rfl) (UInt8.toNat_lt _) hx,fun _ _ _ hx hl _=>Zn (cs:=clsL.map u8D) one_5 rfl (Zd hx (mo 0 rfl)) (hl.D 4 24 rfl rfl) (Zsp (by rw[Zap];exact UInt8.toNat_lt _)) hx,iFo hS hJ (Zhb hJ (xs:=bs) (c:=(ge clsL (ge s.data.toList k).toNat)) ) ZrV,trivial⟩ ?_
 refine cj 5 (fun hb3=>?_) fun hb3=>?_
 try simp at hb3
 refine qso tb hJ [1000] [_] [_] ?_
 exact Zg (Qt (m:=0) rfl rfl (eB (by first | (rw[Zbe,if_pos hb1];done) | (rw[Zbe,if_neg (by rw[hb1];decide)];symm;exact Za4 (p:=fun c=>decide (ZdH c∈bs)) hb2 (by simpa [Ze6]using hb3)) | (rw[Zbe,if_neg (by rw[hb1];decide)];symm;exact ZiR fun j hj=>f1_2 j (by omega)))))
 try simp at hb3
 refine Zc (nx (Y3 tb hJ [0,1,2,3,1001] [.int (k+1:Nat),_] [0] [_,_,_,_,_] rfl ⟨Yw,trivial⟩ ?_))
 exact XB (k+1) [0,1,2,3,4] ⟨by omega,ZZ f1_2 (by simpa [Ze6]using hb3)⟩
 try simp at hb2
 refine ZB (nx (qso tb hJ [1000] [_] [_] ?_))
 exact Zg (Qt (m:=0) rfl rfl (eB (by first | (rw[Zbe,if_pos hb1];done) | (rw[Zbe,if_neg (by rw[hb1];decide)];symm;exact Za4 (p:=fun c=>decide (ZdH c∈bs)) hb2 (by simpa [Ze6]using hb3)) | (rw[Zbe,if_neg (by rw[hb1];decide)];symm;exact ZiR fun j hj=>f1_2 j (by omega)))))
theorem ZbM {J:World→Prop} (hJ:Stab J) (s:ByteArray)  :Fn Tryz.prog J 35 [.str s] (.bool (QN s)):=by
 refine Zw (N:=6) Tryz.func35 rfl rfl (lb rfl) fun S w0 hS hJ0=>?_
 clear hJ0
 refine qs tb hJ [0] [_] [_] ?_
 refine hqs tb hJ [1001,1003] [_,.rd (u8sC ([(2:UInt8)])),.bool (Zbe s ([(2:UInt8)])),_] [1,2] [_,_] rfl ⟨fun _ _ hk hx _ _=>Xk Zbv zero_5 rfl (Rel.of_lit (Go.Value.int Go.IntKind.u8 2)) (hS _ hk.size) (js hJ hx),iFn hS hJ (Zpx hJ (s:=s) (bs:=([(2:UInt8)])) ) ZmA,trivial⟩ ?_
 refine ln 0 fun hl1=>?_
 exact Zg (rtn (m:=1) rfl rfl (eB (Zlm s)))
theorem Zcb {J:World→Prop} (hJ:Stab J) (s:ByteArray)  :Fn Tryz.prog J 55 [.str s] (.bool (Zj7 s)):=by
 refine Zw (N:=6) Tryz.func55 rfl rfl (lb rfl) fun S w0 hS hJ0=>?_
 clear hJ0
 refine qs tb hJ [0] [_] [_] ?_
 refine hqs tb hJ [1001,1003] [_,.rd (u8sC ([2,3]:List UInt8)),.bool (Zbe s ([2,3]:List UInt8)),_] [1,2] [_,_] rfl ⟨fun a _ hk hx _ _=>Y8 (k:=2) (us:=[a.eval (Go.Operand.const (Go.Value.int Go.IntKind.u8 2)),a.eval (Go.Operand.const (Go.Value.int Go.IntKind.u8 3))]) Zbv Zkb rfl (by simp) (Zj (Rel.of_lit (Go.Value.int Go.IntKind.u8 2)) (Zj (Rel.of_lit (Go.Value.int Go.IntKind.u8 3)) ZI)) rfl (by decide) (by decide) (hS _ hk.size) (js hJ hx),iFn hS hJ (Zpx hJ (s:=s) (bs:=([2,3]:List UInt8)) ) ZmA,trivial⟩ ?_
 refine ln 0 fun hl1=>?_
 exact Zg (rtn (m:=1) rfl rfl (eB (Zll s)))
theorem Zjs {J:World→Prop} (hJ:Stab J) (s:ByteArray):Fn Tryz.prog J 117 [.str s] (.bool (XR s)):=by
 intro S w vs hS hJ0 ha
 simp only[RelL]at ha
 obtain⟨u,us,rfl,h1,rfl⟩:=ha
 rw[h1.lit]
 exact(Zjz s w).mono fun e w' ⟨he,hb⟩=>by
  have hk:Keeps All w w':=(Keeps.of_below hb).sub fun k hk _=>hk
  exact⟨_,he,Rel.of_lit _,hk,hJ w w' hk hJ0⟩
def fm7 (s:Sm):Bool:=((QN s.label&& (decide ((1:Int)≤(s.text.length:Int))&&decide ((s.text.length:Int)≤200)))&&s.text.all Zj7)&&s.proof.all XR
def wd7 (s:Sm):List ByteArray:=((([s.label]++[⟨#[36,112]⟩]++s.text)++[⟨#[36,61]⟩])++s.proof)++[⟨#[36,46]⟩]
theorem ZfQ {J:World→Prop} (hJ:Stab J) (g:FuncId)  :Fn Tryz.prog J 115 [.lit (.func (.func g) #[] #[])] (.fn 116 [.ptr [.lit (.func (.func g) #[] #[])]]):=by
 refine Zw (N:=4) Tryz.func115 rfl rfl (lb rfl) fun S w0 hS hJ0=>?_
 clear hJ0
 refine hqs tb hJ [1000] [.ptr [.lit (.func (.func g) #[] #[])],_] [0] [_] rfl ⟨fun _ _ hk hx hl _=>ZbK rfl (hl.env 0 0 _ rfl rfl) (hS _ hk.size) (js hJ hx),trivial⟩ ?_
 refine hqs tb hJ [1001] [.fn 116 [.ptr [.lit (.func (.func g) #[] #[])]],_] [0] [_] rfl ⟨fun _ _ _ hx hl _=>XK (caps:=[(Go.Operand.tmp 1)]) rfl (Za (hl.env 0 1 _ rfl rfl) Ze) hx,trivial⟩ ?_
 exact Zg (rtn (m:=0) rfl rfl rfl)
theorem Zek {J:World→Prop} (hJ:Stab J) (g:FuncId) (p:ByteArray→Bool) (q:ByteArray) (hk0:Zp Tryz.prog g) (hf:∀ q',Fn Tryz.prog J g [.str q'] (.bool (p q'))):Fn Tryz.prog J 116 [.str q,.ptr [.lit (.func (.func g) #[] #[])]] (.bool (!p q)):=by
 refine Zw (N:=8) Tryz.func116 rfl rfl (lb rfl) fun S w0 hS hJ0=>?_
 clear hJ0
 refine qs tb hJ [0,1] [_] [_,_] ?_
 refine hqs tb hJ [1004] [_,_,.bool (p q),_,_] [2] [_] rfl ⟨fun _ _ hk hx hl _=>ZcH ((hf q).r) hk0 rfl (Zl3 (hl.D 0 4 rfl rfl)) (nm hS hk) (hx) Zs (Za (hl.D 1 5 rfl rfl) Ze) (js hJ hx),trivial⟩ ?_
 exact Zg (rtn (m:=0) rfl rfl (eB (by first | rfl | grind[ZM])))
theorem ZnP {J:World→Prop} (hJ:Stab J) (s:Sm) (hG:Zab J) (h7:s.kind=7):Fn Tryz.prog J 105 [.agg (stC s)] (.bool (fm7 s)):=by
 refine Zw (N:=76) Tryz.func105 rfl rfl (lb rfl) fun S w0 hS hJ0=>?_
 refine tw Yn ?_
 refine ZN tb hJ [1000] [.ptr (stC s),_] [0] [_] rfl ⟨fun _ _ hk hx hl _=>Xb rfl (hl.env 0 0 _ rfl rfl) (Zq hS _ hk hx _ (Nat.le_refl _)) (jo hJ hx),trivial⟩ ?_
 refine Zk (qso tb hJ [0,1007] [_,_,_,_,_,_,_,_] [_,_] ?_)
 refine cj 1 (fun hb1=>?_) fun hb1=>?_
 try simp at hb1
 refine qso tb hJ [1000] [_] [_] ?_
 exact Zg (Qt (m:=0) rfl rfl (eB (by first | (exfalso;omega) | (unfold fm7;grind) | (simp only[fm7,List.all_eq_not_any_not];grind))))
 try simp at hb1
 refine Zc (nx (tsq ?_))
 refine snK 2 tb rfl ?_
 refine sq (.at 1 28) rfl rfl (lb rfl) (fun _ _ h=>Zeg (k:=7) ZaD ZaZ rfl (h.get 0 rfl) (h7) (by decide) h.x) ?_
 refine sq (.agg [.lit (.string (⟨#[36,112]⟩:ByteArray)),.lit (.bool true),.lit (.int .i64 (1:Int)),.lit (.int .i64 (200:Int))]) rfl rfl (lb rfl) (fun _ _ h=>Zef ZgM rfl (hG _ (h.x.1)) (h.get 0 rfl) h.x) ?_
 refine ZV ZbA hJ rfl rfl rfl (lb rfl) fun b1=>?_
 refine ZF (b:=b1) (off:=0) (cs:=[.lit (.string (⟨#[]⟩:ByteArray)),.lit (.bool false),.lit (.int .i64 0),.lit (.int .i64 0)]) (es:=[.lit (.string (⟨#[36,112]⟩:ByteArray)),.lit (.bool true),.lit (.int .i64 (1:Int)),.lit (.int .i64 (200:Int))]) (news:=[.lit (.string (⟨#[36,112]⟩:ByteArray)),.lit (.bool true),.lit (.int .i64 (1:Int)),.lit (.int .i64 (200:Int))]) hJ hJ0 ZaZ rfl rfl rfl (lb rfl) rfl (fun a w h=>⟨(h.get 0 rfl),(h.get 1 rfl)⟩) ?_
 refine kw (fun h=>Ys hS h (m:=0) (s:=3) rfl) ?_
 refine seK [0,5] [_,_] rfl ?_
 refine nx (Zk (ZN tb hJ [1,1033] [_,_,_,_,_,.bool (QN s.label),_,_,_,_,_,_,_,_,_,_,_,_,_,_,_,.int (s.text.length:Nat),_,_,_,_,_,_,_,.int (s.text.length:Nat),_,_,_,_] [5,21,29] [_,_] rfl ⟨iFo hS hJ (ZbM hJ (s:=s.label) ) Ze9,YK Zx,YK Zx,trivial⟩ ?_))
 refine cj 1 (fun hb2=>?_) fun hb2=>?_
 try simp at hb2
 refine qso tb hJ [1000] [_] [_] ?_
 exact Zg (Qt (m:=0) rfl rfl (eB (by first | (exfalso;omega) | (unfold fm7;grind) | (simp only[fm7,List.all_eq_not_any_not];grind))))
 try simp at hb2
 refine Zc (nx (qso tb hJ [0,1000] [_] [_,_] ?_))
 refine ZN tb hJ [1001,1025] [_,_,_,.fn 116 [.ptr [.lit (.func (.func 55) #[] #[])]],.bool (s.text.any (fun w'=>!Zj7 w')),_,_,_,_,_,.fn 116 [.ptr [.lit (.func (.func 117) #[] #[])]],.bool (s.proof.any (fun w'=>!XR w')),_,_,_,_,_,_,_,_,_,.int (s.proof.length:Nat),_,_,_,_] [3,4,10,11,21] [_,_] rfl ⟨fun _ _ hk hx hl _=>ZcH ((ZfQ hJ 55).r) ZiO rfl (hl.D 2 53 rfl rfl) (Zq hS _ hk hx) (hx.1) Zs (Za (ZfE 55) Ze) (jo hJ hx),fun _ w hk hx hl _=>Xj (YB hJ (xs:=s.text) (f:=116) (caps:=[.ptr [.lit (.func (.func 55) #[] #[])]]) (Os:=[]) (p:=(fun w'=>!Zj7 w')) (fun q'=>(Zek hJ 55 Zj7 q' Zhv fun z'=>Zcb hJ z').r) (ZiN)) ZdL rfl (Zq hS _ hk hx) (hx.1) Zs (Za (hl.D 1 52 rfl rfl) (Za (hl.D 3 54 rfl rfl) Ze)) (jo hJ hx),fun _ _ hk hx hl hc=>ZcH ((ZfQ hJ 117).r) ZiO rfl (hl.D 9 60 rfl hc) (Zq hS _ hk hx) (hx.1) Zs (Za (ZfE 117) Ze) (jo hJ hx),fun _ w hk hx hl hc=>Xj (YB hJ (xs:=s.proof) (f:=116) (caps:=[.ptr [.lit (.func (.func 117) #[] #[])]]) (Os:=[]) (p:=(fun w'=>!XR w')) (fun q'=>(Zek hJ 117 XR q' ZoQ fun z'=>Zjs hJ z').r) (ZiN)) ZdL rfl (Zq hS _ hk hx) (hx.1) Zs (Za (hl.D 8 59 rfl hc) (Za (hl.D 10 61 rfl hc) Ze)) (jo hJ hx),YK Zx,trivial⟩ ?_
 refine ln 0 fun hl1=>?_
 exact Zg (Qt (m:=1) rfl rfl (eB (by first | (exfalso;omega) | (unfold fm7;grind) | (simp only[fm7,List.all_eq_not_any_not];grind))))
theorem ZnR {J:World→Prop} (hJ:Stab J) (s:Sm) (hG:Zab J) (h7:s.kind=7):Fn Tryz.prog J 104 [.agg (stC s)] (.bool (!fm7 s)):=by
 refine Zw (N:=6) Tryz.func104 rfl rfl (lb rfl) fun S w0 hS hJ0=>?_
 refine tw Yn ?_
 refine ZN tb hJ [1000] [.ptr (stC s),_] [0] [_] rfl ⟨fun _ _ hk hx hl _=>Xb rfl (hl.env 0 0 _ rfl rfl) (Zq hS _ hk hx _ (Nat.le_refl _)) (jo hJ hx),trivial⟩ ?_
 refine ZN tb hJ [1003] [_,.bool (fm7 s),_,_] [1] [_] rfl ⟨iFo hS hJ (ZnP hJ (s:=s) (hG) (h7)) ZoZ,trivial⟩ ?_
 exact Zg (Qt (m:=0) rfl rfl (eB (by first | rfl | grind[ZM])))
theorem ZfR {J:World→Prop} (hJ:Stab J) (xs:List Sm) (f:FuncId) (caps:List AV) (Os:List OB) (p:Sm→Bool) (hf:∀ q'∈xs,FnR Tryz.prog J f Os ([.agg (stC (q'))]++caps) (.bool (p q'))) (hk0:Zp Tryz.prog f):FnR Tryz.prog J 114 Os [.rd (stsC xs),.fn f caps] (.int (Z9 p xs)):=by
 refine Yc (N:=19) Tryz.func114 rfl rfl (lb rfl) fun S w0 hS hJ0 hH=>?_
 clear hJ0
 refine ln 0 fun hl1=>?_
 refine qs tb hJ [0,1] [_] [_,_] ?_
 refine Zk (hqs tb hJ [0,1,1001,1002] [_,.int (xs.length:Nat),_] [1] [_,_,_,_] rfl ⟨YK ZaB,trivial⟩ ?_)
 refine Zf (lp (ι:=Nat) (fun k=>(k≤xs.length)∧(∀ j,j<k→p (ge xs j)=false)) (fun k=>[(8,.int (k:Nat))]) (fun k=>xs.length-k) [0,1,2,3] [_,_,_] 0 ⟨Nat.zero_le _,fun j hj=>by omega⟩ ?_)
 rintro k ⟨f1_1,f1_2⟩
 refine qs tb hJ [0,1,2,3,1000] [_] [_,_,_,_,_] ?_
 refine cjS 4 (fun hb1=>?_) fun hb1=>?_
 try simp at hb1
 refine Zc (nx (Zk (Zf (qs tb hJ [0,1,2,3,1001] [_,_] [_,_,_,_,_] ?_))))
 refine hqs tb hJ [0,1,2,3,4,1005] [_,_,_,.ptr (stC (ge xs k)),_,.bool (p (ge xs k))] [3,5] [_,_,_,_,_,_] rfl ⟨iIx QT,fun _ _ hk hx hl _=>ZcH (hf (ge xs k) (ZM (by omega))) hk0 rfl (hl.D 0 11 rfl rfl) (nm hS hk) (hx) (fun _ ho=>Y5 hH hk ho) (Za (hl.D 4 15 rfl rfl) Ze) (js hJ hx),trivial⟩ ?_
 refine cj 5 (fun hb2=>?_) fun hb2=>?_
 try simp at hb2
 refine qs tb hJ [1001] [_,_] [_] ?_
 exact Zg (rtn (m:=0) rfl rfl (eI (by first | exact(Xa hb1 hb2 f1_2).symm | exact(YH fun j hj=>f1_2 j (by omega)).symm)))
 try simp at hb2
 refine Zc (nx (hqp tb hJ [0,1,2,1001] [.int (k+1:Nat),_] [0] [_,_,_,_] rfl ⟨Yw,trivial⟩ ?_))
 exact lpE (k+1) [0,1,2,3] ⟨by omega,ZZ f1_2 hb2⟩
 try simp at hb1
 refine ZB (nx (qs tb hJ [1000] [_] [_] ?_))
 exact Zg (rtn (m:=0) rfl rfl (eI (by first | exact(Xa hb1 hb2 f1_2).symm | exact(YH fun j hj=>f1_2 j (by omega)).symm)))
theorem Zdg {J:World→Prop} (hJ:Stab J) (xs:List Sm) (f:FuncId) (caps:List AV) (Os:List OB) (p:Sm→Bool) (hf:∀ q'∈xs,FnR Tryz.prog J f Os ([.agg (stC (q'))]++caps) (.bool (p q'))) (hk0:Zp Tryz.prog f):FnR Tryz.prog J 103 Os [.rd (stsC xs),.fn f caps] (.bool (xs.any p)):=by
 refine Yc (N:=9) Tryz.func103 rfl rfl (lb rfl) fun S w0 hS hJ0 hH=>?_
 clear hJ0
 refine ln 0 fun hl1=>?_
 refine qs tb hJ [0,1] [_] [_,_] ?_
 refine hqs tb hJ [1004] [_,_,.int (Z9 p xs),_,_] [2] [_] rfl ⟨fun _ _ hk hx hl _=>Xj (ZfR hJ (xs:=xs) (f:=f) (caps:=caps) (Os:=Os) (p:=p) (hf) (hk0)) ZoR rfl (nm hS hk) (hx) (fun _ ho=>Y5 hH hk ho) (Za (hl.D 0 5 rfl rfl) (Za (hl.D 1 6 rfl rfl) Ze)) (js hJ hx),trivial⟩ ?_
 exact Zg (rtn (m:=0) rfl rfl (eB (by rw[←ZbO])))
theorem Zk0 {J:World→Prop} (hJ:Stab J) (s:Sm) (hG:Zab J) (h7:s.kind=7) (hl:s.text.length+s.proof.length≤100):Fn Tryz.prog J 106 [.agg (stC s)] (.rd (Zb (wd7 s))):=by
 refine Zw (N:=40) Tryz.func106 rfl rfl (lb rfl) fun S w0 hS hJ0=>?_
 refine tw Yn ?_
 refine ZN tb hJ [1000] [.ptr (stC s),_] [0] [_] rfl ⟨fun _ _ hk hx hl _=>Xb rfl (hl.env 0 0 _ rfl rfl) (Zq hS _ hk hx _ (Nat.le_refl _)) (jo hJ hx),trivial⟩ ?_
 refine tsq ?_
 refine snK 2 tb rfl ?_
 refine sq (.at 1 28) rfl rfl (lb rfl) (fun _ _ h=>Zeg (k:=7) ZaD ZaZ rfl (h.get 0 rfl) (h7) (by decide) h.x) ?_
 refine sq (.agg [.lit (.string (⟨#[36,112]⟩:ByteArray)),.lit (.bool true),.lit (.int .i64 (1:Int)),.lit (.int .i64 (200:Int))]) rfl rfl (lb rfl) (fun _ _ h=>Zef ZgM rfl (hG _ (h.x.1)) (h.get 0 rfl) h.x) ?_
 refine ZV ZbA hJ rfl rfl rfl (lb rfl) fun b1=>?_
 refine ZF (b:=b1) (off:=0) (cs:=[.lit (.string (⟨#[]⟩:ByteArray)),.lit (.bool false),.lit (.int .i64 0),.lit (.int .i64 0)]) (es:=[.lit (.string (⟨#[36,112]⟩:ByteArray)),.lit (.bool true),.lit (.int .i64 (1:Int)),.lit (.int .i64 (200:Int))]) (news:=[.lit (.string (⟨#[36,112]⟩:ByteArray)),.lit (.bool true),.lit (.int .i64 (1:Int)),.lit (.int .i64 (200:Int))]) hJ hJ0 ZaZ rfl rfl rfl (lb rfl) rfl (fun a w h=>⟨(h.get 0 rfl),(h.get 1 rfl)⟩) ?_
 refine kw (fun h=>Ys hS h (m:=0) (s:=3) rfl) ?_
 refine seK [0,5] [_,_] rfl ?_
 refine nx (qso tb hJ [0,1,1000] [_] [_,_,_] ?_)
 refine Zk (qso tb hJ [0,1,2,1001] [_,_] [_,_,_,_] ?_)
 refine cj 3 (fun hb1=>?_) fun hb1=>?_
 ·
  refine tw (Yy 9 1 hJ) ?_
  refine Zz (snK 3 tb rfl ?_)
  refine sq (.rd (Zb ([s.label]))) rfl rfl (lb rfl) (fun _ _ h=>Xk Zi Zcj rfl (h.get 0 rfl) (Zq hS _ h.keep h.x _ (Nat.le_refl _)) (jo hJ h.x)) ?_
  refine YE (f:=Zav) (m:=3) (s:=11) ([]:List ByteArray) ([s.label]) (fun _=>rfl) XV hJ hJ0 rfl rfl rfl (lb rfl) rfl rfl (fun a w h=>(h.get 0 rfl)) (by first | omega | (simp;done) | (simp;omega)) (by first | omega | (simp;done) | (simp;omega)) fun v2=>?_
  refine snK 1 tb rfl ?_
  refine seK [0,2,6,7] [_,_,_,_] rfl ?_
  refine nx (ln 1 fun hl1=>?_)
  refine Zk (fun a w h=>YP [] (γ:=Value×Value) (fun ix'=>([.lit v2,.ptr [.lit (.string (⟨#[36,112]⟩:ByteArray)),.lit (.bool true),.lit (.int .i64 (1:Int)),.lit (.int .i64 (200:Int))],.str (⟨#[36,112]⟩:ByteArray),.rd (Zb ([(⟨#[36,112]⟩:ByteArray)])),.any,.ptr [Zb s.text,Zb s.proof],.rd (Zb s.text),.any,.any]:List AV).getD ix' .any) (fun ix'=>([true,true,true,true,true,true,true,true,true]:List Bool).getD ix' true) [(3,fun(g:Value×Value)=>.ptr [.lit (.string (⟨#[36,112]⟩:ByteArray)),.lit (.bool true),.lit (.int .i64 (1:Int)),.lit (.int .i64 (200:Int))]),(1,fun(g:Value×Value)=>.ptr (stC s)),(4,fun(g:Value×Value)=>.lit g.2)] (fun(j':Nat) (g:Value×Value)=>match j' with | 0=>[OB.row v2 9 1 ((([]:List ByteArray)++([s.label])).map Zav)] | 1=>[OB.row g.1 9 1 (((([]:List ByteArray)++([s.label]))++([(⟨#[36,112]⟩:ByteArray)])).map Zav)] | 2=>[OB.row g.2 9 1 ((((([]:List ByteArray)++([s.label]))++([(⟨#[36,112]⟩:ByteArray)]))++s.text).map Zav)] | _=>[OB.row g.2 9 1 ((((([]:List ByteArray)++([s.label]))++([(⟨#[36,112]⟩:ByteArray)]))++s.text).map Zav)]) (fun(k':Nat) (g:Value×Value)=>match k' with | 0=>g.1 | 1=>g.2 | 2=>g.2 | _=>undef) [4,7,8] 3 ((.slice none 0 0),(.slice none 0 0)) (fun _=>rfl) h hJ Yl rfl rfl rfl rfl rfl rfl (fun j' g hj p hp=>by rcases j' with _ | _ | _ | _ | j'<;>first | exact hp | exact List.mem_cons_of_mem _ hp | exact List.mem_cons_of_mem _ (List.mem_cons_of_mem _ hp) | (exfalso;omega)) ⟨?o5_1_0,⟨?o5_1_1,⟨?o5_1_2,⟨?o5_1_3,⟨?o5_1_4,⟨?o5_1_5,⟨?o5_1_6,⟨?o5_1_7,⟨?o5_1_8,trivial⟩⟩⟩⟩⟩⟩⟩⟩⟩ ⟨?e5_1_0,⟨?e5_1_1,⟨?e5_1_2,trivial⟩⟩⟩ ⟨.old 2 3 _ rfl rfl,⟨.old 3 1 _ rfl rfl,⟨.eff 2 8 4 (fun(g:Value×Value)=>g.2) rfl rfl (fun _=>rfl) (fun _ _ hx=>Xz (hx.2.1 _ (mo 0 rfl))),trivial⟩⟩⟩ ?n5_1)
  exact oX rfl fun hx hl=>YA rfl (hl.env 0 4 _ rfl rfl) hx
  exact oX rfl fun hx hl=>ZX Zhn rfl (hl.env 2 3 _ rfl rfl) hx
  exact oX rfl fun hx hl=>ZA QX rfl (hl.D 1 17 rfl rfl) hx
  exact oY rfl fun hk hx hl=>Xk Zi Zcj rfl (hl.D 2 18 rfl rfl) (Zq hS _ hk hx _ (Nat.le_refl _)) (jo hJ hx)
  exact Zm rfl
  exact oX rfl fun hx hl=>ZX Zhp rfl (hl.env 3 1 _ rfl rfl) hx
  exact oX rfl fun hx hl=>ZA YX rfl (hl.D 5 21 rfl rfl) hx
  exact Zm rfl
  exact Zm rfl
  case e5_1_0=>exact⟨_,rfl,rfl,rfl,rfl,fun g _ w hk hx hl _=>Zr (YS (f:=Zav) (([]:List ByteArray)++([s.label])) ([(⟨#[36,112]⟩:ByteArray)]) (fun _=>rfl) XV hJ hJ0 rfl hk hx (hl.D 0 16 rfl rfl).lit (hl.D 3 19 rfl rfl) (by first | omega | (simp;done) | (simp;omega)) (by first | omega | (simp;done) | (simp;omega))) fun v w' hp=>⟨(v,g.2),rfl,fun k' hk'=>absurd hk' (Nat.not_lt_zero _),fun _=>rfl,hp⟩⟩
  case e5_1_1=>exact⟨_,rfl,rfl,rfl,rfl,fun g _ w hk hx hl hs=>Zr (YS (f:=Zav) ((([]:List ByteArray)++([s.label]))++([(⟨#[36,112]⟩:ByteArray)])) s.text (fun _=>rfl) XV hJ hJ0 rfl hk hx (hs 0 4 _ 20 (by omega) rfl rfl rfl) (hl.D 6 22 rfl rfl) (by first | omega | (simp;done) | (simp;omega)) (by first | omega | (simp;done) | (simp;omega))) fun v w' hp=>⟨(g.1,v),rfl,fun k' hk'=>by rcases k' with _ | _ | _ | k'<;>first | rfl | omega,fun _=>rfl,hp⟩⟩
  case e5_1_2=>exact⟨_,rfl,rfl,rfl,rfl,fun g _ w hk hx _ hs=>Zr (ZcT (.inl rfl) (hs 1 7 _ 23 (by omega) rfl rfl rfl) hk hx) fun v w' hp=>⟨g,rfl,fun _ _=>rfl,fun _=>hp.1,hp.2⟩⟩
  clear a w h
  rintro⟨v3,v4⟩
  dsimp only[List.map]
  refine nx (Zk (qso tb hJ [0,1,2,1002] [_,_,_] [_,_,_,_] ?_))
  refine cj 3 (fun hb2=>?_) fun hb2=>?_
  ·
   refine fun a w h=>YP [] (γ:=Value×Value) (fun ix'=>([.lit v4,.rd (Zb ([(⟨#[36,61]⟩:ByteArray)])),.any,.ptr [Zb s.proof],.rd (Zb s.proof),.any,.any]:List AV).getD ix' .any) (fun _=>true) [(3,fun(g:Value×Value)=>.ptr [.lit (.string (⟨#[36,112]⟩:ByteArray)),.lit (.bool true),.lit (.int .i64 (1:Int)),.lit (.int .i64 (200:Int))]),(4,fun(g:Value×Value)=>.lit g.2)] (fun(j':Nat) (g:Value×Value)=>match j' with | 0=>[OB.row v4 9 1 ((((([]:List ByteArray)++([s.label]))++([(⟨#[36,112]⟩:ByteArray)]))++s.text).map Zav)] | 1=>[OB.row g.1 9 1 (((((([]:List ByteArray)++([s.label]))++([(⟨#[36,112]⟩:ByteArray)]))++s.text)++([(⟨#[36,61]⟩:ByteArray)])).map Zav)] | 2=>[OB.row g.2 9 1 ((((((([]:List ByteArray)++([s.label]))++([(⟨#[36,112]⟩:ByteArray)]))++s.text)++([(⟨#[36,61]⟩:ByteArray)]))++s.proof).map Zav)] | _=>[OB.row g.2 9 1 ((((((([]:List ByteArray)++([s.label]))++([(⟨#[36,112]⟩:ByteArray)]))++s.text)++([(⟨#[36,61]⟩:ByteArray)]))++s.proof).map Zav)]) (fun(k':Nat) (g:Value×Value)=>match k' with | 0=>g.1 | 1=>g.2 | 2=>g.2 | _=>undef) [2,5,6] 3 ((.slice none 0 0),(.slice none 0 0)) (fun _=>rfl) h hJ Yl rfl rfl rfl rfl rfl rfl (fun j' g hj p hp=>by rcases j' with _ | _ | _ | _ | j'<;>first | exact hp | exact List.mem_cons_of_mem _ hp | exact List.mem_cons_of_mem _ (List.mem_cons_of_mem _ hp) | (exfalso;omega)) ⟨?_,⟨?_,⟨?_,⟨?_,⟨?_,⟨?_,⟨?_,trivial⟩⟩⟩⟩⟩⟩⟩ ⟨?e7_2_0,⟨?e7_2_1,⟨?e7_2_2,trivial⟩⟩⟩ ⟨.old 0 3 _ rfl rfl,⟨.eff 2 6 4 (fun(g:Value×Value)=>g.2) rfl rfl (fun _=>rfl) (fun _ _ hx=>Xz (hx.2.1 _ (mo 0 rfl))),trivial⟩⟩ ?n7_2
   exact oX rfl fun hx hl=>YA rfl (hl.env 2 4 _ rfl rfl) hx
   exact fun _ O' _=>⟨rfl,fun _ _ hk hx _ _=>Xk Zi Zcj rfl (Rel.of_lit (Go.Value.string { data:= #[36,61] }) (lb rfl)) (Zq hS _ hk hx _ (Nat.le_refl _)) (jo hJ hx)⟩
   exact Zm rfl
   exact oX rfl fun hx hl=>ZX Zho rfl (hl.env 1 1 _ rfl rfl) hx
   exact oX rfl fun hx hl=>ZA YX rfl (hl.D 3 30 rfl rfl) hx
   exact Zm rfl
   exact Zm rfl
   case e7_2_0=>exact⟨_,rfl,rfl,rfl,rfl,fun g _ w hk hx hl _=>Zr (YS (f:=Zav) (((([]:List ByteArray)++([s.label]))++([(⟨#[36,112]⟩:ByteArray)]))++s.text) ([(⟨#[36,61]⟩:ByteArray)]) (fun _=>rfl) XV hJ hJ0 rfl hk hx (hl.D 0 27 rfl rfl).lit (hl.D 1 28 rfl rfl) (by first | omega | (simp;done) | (simp;omega)) (by first | omega | (simp;done) | (simp;omega))) fun v w' hp=>⟨(v,g.2),rfl,fun k' hk'=>absurd hk' (Nat.not_lt_zero _),fun _=>rfl,hp⟩⟩
   case e7_2_1=>exact⟨_,rfl,rfl,rfl,rfl,fun g _ w hk hx hl hs=>Zr (YS (f:=Zav) ((((([]:List ByteArray)++([s.label]))++([(⟨#[36,112]⟩:ByteArray)]))++s.text)++([(⟨#[36,61]⟩:ByteArray)])) s.proof (fun _=>rfl) XV hJ hJ0 rfl hk hx (hs 0 2 _ 29 (by omega) rfl rfl rfl) (hl.D 4 31 rfl rfl) (by first | omega | (simp;done) | (simp;omega)) (by first | omega | (simp;done) | (simp;omega))) fun v w' hp=>⟨(g.1,v),rfl,fun k' hk'=>by rcases k' with _ | _ | _ | k'<;>first | rfl | omega,fun _=>rfl,hp⟩⟩
   case e7_2_2=>exact⟨_,rfl,rfl,rfl,rfl,fun g _ w hk hx _ hs=>Zr (ZcT (.inl rfl) (hs 1 5 _ 32 (by omega) rfl rfl rfl) hk hx) fun v w' hp=>⟨g,rfl,fun _ _=>rfl,fun _=>hp.1,hp.2⟩⟩
   clear a w h
   rintro⟨v5,v6⟩
   dsimp only[List.map]
   refine nx (Zk (qso tb hJ [1,1002] [_,_,_] [_,_] ?_))
   refine cj 1 (fun hb3=>?_) fun hb3=>?_
   ·
    refine Zz (snK 1 tb rfl ?_)
    refine sq (.rd (Zb ([(⟨#[36,46]⟩:ByteArray)]))) rfl rfl (lb rfl) (fun _ _ h=>Xk Zi Zcj rfl (Rel.of_lit (Go.Value.string { data:= #[36,46] }) (lb rfl)) (Zq hS _ h.keep h.x _ (Nat.le_refl _)) (jo hJ h.x)) ?_
    refine YE (f:=Zav) (m:=1) (s:=36) (((((([]:List ByteArray)++([s.label]))++([(⟨#[36,112]⟩:ByteArray)]))++s.text)++([(⟨#[36,61]⟩:ByteArray)]))++s.proof) ([(⟨#[36,46]⟩:ByteArray)]) (fun _=>rfl) XV hJ hJ0 rfl rfl rfl (lb rfl) rfl rfl (fun a w h=>(h.get 0 rfl)) (by first | omega | (simp;done) | (simp;omega)) (by first | omega | (simp;done) | (simp;omega)) fun v7=>?_
    refine snK 1 tb rfl ?_
    refine seK [0,2] [_,_] rfl ?_
    refine nx (ln 1 fun hl2=>?_)
    refine qso tb hJ [1001] [_,_] [_] ?_
    refine tw (fun h=>Yr hS h (m:=0) (s:=2) rfl) ?_
    exact Zg (Qt (m:=0) rfl rfl (congrArg (fun z=>AV.rd (Zb z)) (show((((((([]:List ByteArray)++([s.label]))++([(⟨#[36,112]⟩:ByteArray)]))++s.text)++([(⟨#[36,61]⟩:ByteArray)]))++s.proof)++([(⟨#[36,46]⟩:ByteArray)]))=(wd7 s)from by simp[wd7])))
   ·
    exact False.elim (by simp at hb3)
  ·
   exact False.elim (by simp[h7]at hb2)
 ·
  exact False.elim (by cases hb1)
theorem Zkf (s:Sm):(wd7 s).length=s.text.length+s.proof.length+4:=by simp[wd7];omega
theorem ZqQ {J:World→Prop} (hJ:Stab J) (l:List Sm) (hG:Zab J) (h1:l.length=1) (h7:(ge l 0).kind=7) (hl:(ge l 0).text.length+(ge l 0).proof.length≤100):Fn Tryz.prog J 88 [.rd (stsC l)] (.tup [.rd (Zb (if fm7 (ge l 0)then wd7 (ge l 0)else [])),.int (if fm7 (ge l 0)then 0 else 2:Int)]):=by
 refine Zw (N:=27) Tryz.func88 rfl rfl (lb rfl) fun S w0 hS hJ0=>?_
 refine tw Yn ?_
 refine ln 0 fun hl1=>?_
 refine qso tb hJ [0] [_,_] [_] ?_
 refine Zk (ZN tb hJ [0,1002] [_,.int (l.length:Nat),_] [1] [_,_] rfl ⟨YK ZaB,trivial⟩ ?_)
 refine cj 1 (fun hb1=>?_) fun hb1=>?_
 exact False.elim (by rw[h1]at hb1;exact absurd hb1 (by decide))
 refine Zc (nx (Zk (ZN tb hJ [0,1001] [_,.bool (l.any (fun s'=>!fm7 s'))] [1] [_,_] rfl ⟨fun _ _ hk hx hl _=>Xj (Zdg hJ (xs:=l) (f:=104) (caps:=[]) (Os:=[]) (p:=(fun s'=>!fm7 s')) (fun q' hq'=>(ZnR hJ q' hG (by obtain⟨j,hj,rfl⟩:=XT hq';obtain rfl:j=0:=(by omega);exact h7)).r) (Zo0)) Zo1 rfl (Zq hS _ hk hx) (hx.1) Zs (Za (hl.D 0 10 rfl rfl) (Za (QH 104) Ze)) (jo hJ hx),trivial⟩ ?_)))
 refine cj 1 (fun hb2=>?_) fun hb2=>?_
 have e2:fm7 (ge l 0)=false:=by obtain⟨x,hx,hn⟩:=List.any_eq_true.1 hb2;obtain⟨q,hq,rfl⟩:=XT hx;obtain rfl:q=0:=(by omega);simpa using hn
 refine qso tb hJ [1000,1001] [_,_] [_,_] ?_
 refine tw (fun h=>YM h (m:=0) (s:=2) rfl) ?_
 exact Zg (fun a w h=>Zdp (m:=0) (k:=1) rfl (Xs h) rfl rfl (congrArg (fun z=>AV.rd (Zb z)) (show([]:List ByteArray)=(if fm7 (ge l 0)then wd7 (ge l 0)else [])from by first | (rw[e2];rfl) | (rw[f1_2,if_neg (by omega),e2];rfl))) (eI (by first | (rw[e2];rfl) | (rw[f1_2,if_neg (by omega),e2];rfl))))
 have e2:fm7 (ge l 0)=true:=by have:=List.any_eq_false.1 hb2 (ge l 0) (ZM (by omega));simpa using this
 refine Zc (nx (qso tb hJ [0,1000] [_] [_,_] ?_))
 refine Zk (ZN tb hJ [1,1000,1001,1002] [_,.int (l.length:Nat),_] [1] [_,_,_,_] rfl ⟨YK ZaB,trivial⟩ ?_)
 refine Zf (tw (Yy 9 1 hJ) ?_)
 refine lpo (ι:=Nat×Value×(List ByteArray)) (fun(k,_,out)=>(k≤l.length)∧(out=if k=0 then []else wd7 (ge l 0))) (fun(_,vo,out)=>[OB.row vo 9 1 (out.map Zav)]) (fun(k,vo,_)=>[(14,.int (k:Nat)),(4,.lit vo)]) (fun(k,_,_)=>l.length-k) [1,2,3,0] [_,_] (0,(.slice none 0 0),([]:List ByteArray)) ⟨Nat.zero_le _,rfl⟩ ?_
 rintro⟨k,vo,out⟩ ⟨f1_1,f1_2⟩
 refine qso tb hJ [0,1,2,3,1000] [_] [_,_,_,_,_] ?_
 refine cjS 4 (fun hb3=>?_) fun hb3=>?_
 try simp at hb3
 have e0:k=0:=by omega
 have e1:k=0→out=[]:=fun e=>by rw[f1_2,if_pos e]
 have e5:=Zkf (ge l k)
 refine Zc (nx (Zk (Zf (tsq ?_))))
 refine sq (.ptr (stC (ge l k))) rfl rfl (lb rfl) (fun _ _ h=>Yg (i:=(k:Int)) QT rfl (h.get 0 rfl) (h.get 2 rfl) (Int.natCast_nonneg _) (Yu (xs:=l) (k:=k) sfz) rfl h.x) ?_
 refine snK 1 tb rfl ?_
 refine X8 (cs:=stC (ge l k)) Zkk rfl rfl rfl (lb rfl) rfl rfl rfl (by decide) (m:=0) rfl rfl (fun a w h=>Zq hS _ h.keep h.x _ (Nat.le_refl _)) (fun a w h w' hk'=>Yq hJ _ _ hk' h.x) ?_
 refine seK [0,3,4,5,6] [_,_,_,_,_] rfl ?_
 refine nx (tsq ?_)
 refine snK 2 tb rfl ?_
 refine sq (.rd (Zb (wd7 (ge l k)))) rfl rfl (lb rfl) (fun _ _ h=>ZeN (Zk0 hJ (s:=(ge l k)) (hG) (by rw[e0];exact h7) (by rw[e0];exact hl)) ZoY rfl (Zq hS _ h.keep h.x) (h.x.1) (Za (h.get 0 rfl) Ze) (jo hJ h.x)) ?_
 refine YE (f:=Zav) (m:=2) (s:=18) out (wd7 (ge l k)) (fun _=>rfl) XV hJ hJ0 rfl rfl rfl (lb rfl) rfl rfl (fun a w h=>(h.get 0 rfl)) (by rw[e1 e0,e5,e0];simp only[List.length_nil];omega) (by rw[e1 e0,e5,e0];simp only[List.length_nil];omega) fun v1=>?_
 refine snK 1 tb rfl ?_
 refine seK [0,2,6,7,8] [_,_,_,_,_] rfl ?_
 refine nx (ln 1 fun hl2=>?_)
 refine ZpK tb hJ [0,2,3,4,1002] [_,.int ((out++(wd7 (ge l k))).length:Nat),_] [1] [_,_,_,_,_] rfl ⟨fun _ _ _ hx hl _=>ZbI Zx rfl (QJ hS hx (mo 0 rfl) (hl.D 0 22 rfl rfl)) hx,trivial⟩ ?_
 refine cj 4 (fun hb4=>?_) fun hb4=>?_
 exact False.elim (by have:=Zkf (ge l k);rw[e0]at this;simp only[List.length_append,e1 e0,e0,decide_eq_true_eq]at hb4;simp at hb4;omega)
 refine Zc (nx (Y3 tb hJ [0,1,2,1001] [.int (k+1:Nat),_] [0] [_,_,_,_] rfl ⟨Yw,trivial⟩ ?_))
 exact XB (k+1,v1,out++(wd7 (ge l k))) [1,2,3,0] ⟨by omega,by rw[e1 e0,e0];simp⟩
 try simp at hb3
 refine ZB (nx (qso tb hJ [1001,1002] [_,_,_] [_,_] ?_))
 refine tw (fun h=>Yr hS h (m:=0) (s:=2) rfl) ?_
 exact Zg (fun a w h=>Zdp (m:=0) (k:=1) rfl (Xs h) rfl rfl (congrArg (fun z=>AV.rd (Zb z)) (show out=(if fm7 (ge l 0)then wd7 (ge l 0)else [])from by first | (rw[e2];rfl) | (rw[f1_2,if_neg (by omega),e2];rfl))) (eI (by first | (rw[e2];rfl) | (rw[f1_2,if_neg (by omega),e2];rfl))))
theorem fm7_x (s:ByteArray):fm7 ⟨7,⟨#[120]⟩,[⟨#[120]⟩],[s]⟩=XR s:=by
 have h1:QN ⟨#[120]⟩=true:=by decide+kernel
 have h2:Zj7 ⟨#[120]⟩=true:=by decide+kernel
 simp[fm7,h1,h2]
theorem Zk9 {J:World→Prop} (hJ:Stab J) (s:ByteArray) (hG:Zab J):Fn Tryz.prog J 62 [.str s] (.bool (XR s)):=by
 refine Zw (N:=16) Tryz.func62 rfl rfl (lb rfl) fun S w0 hS hJ0=>?_
 refine tw Yn ?_
 refine qso tb hJ [0] [_] [_] ?_
 refine ZN tb hJ [1000,1002,1004,1007,1009,1010] [.rd (Zb ([(⟨#[120]⟩:ByteArray)])),_,.rd (Zb ([s])),.agg (stC (⟨(7:Int),(⟨#[120]⟩:ByteArray),[(⟨#[120]⟩:ByteArray)],[s]⟩:Sm)),.rd (stsC ([(⟨(7:Int),(⟨#[120]⟩:ByteArray),[(⟨#[120]⟩:ByteArray)],[s]⟩:Sm)])),.tup [.rd (Zb (if fm7 (ge ([(⟨(7:Int),(⟨#[120]⟩:ByteArray),[(⟨#[120]⟩:ByteArray)],[s]⟩:Sm)]) 0)then wd7 (ge ([(⟨(7:Int),(⟨#[120]⟩:ByteArray),[(⟨#[120]⟩:ByteArray)],[s]⟩:Sm)]) 0)else [])),.int (if fm7 (ge ([(⟨(7:Int),(⟨#[120]⟩:ByteArray),[(⟨#[120]⟩:ByteArray)],[s]⟩:Sm)]) 0)then 0 else 2:Int)],_,_,_,_,_] [0,2,3,4,5] [_,_,_,_,_,_] rfl ⟨fun _ _ hk hx _ _=>Xk Zi Zcj rfl (Rel.of_lit (Go.Value.string { data:= #[120] }) (lb rfl)) (Zq hS _ hk hx _ (Nat.le_refl _)) (jo hJ hx),fun _ _ hk hx hl _=>Xk Zi Zcj rfl (hl.D 1 7 rfl rfl) (Zq hS _ hk hx _ (Nat.le_refl _)) (jo hJ hx),fun a _ _ hx hl _=>Qd (us:=[a.eval (Go.Operand.const (Go.Value.int Go.IntKind.i64 7)),a.eval (Go.Operand.const (Go.Value.string { data:= #[120] })),a.eval (Go.Operand.tmp 6),a.eval (Go.Operand.tmp 8)]) Zhy rfl (by simp) (Zj (Rel.of_lit (Go.Value.int Go.IntKind.i64 7)) (Zj (Rel.of_lit (Go.Value.string { data:= #[120] }) (lb rfl)) (Zj (hl.D 0 6 rfl rfl) (Zj (hl.D 2 8 rfl rfl) ZI)))) rfl hx,fun _ _ hk hx hl _=>Xu QT Zm5 rfl rfl (hl.D 3 9 rfl rfl) (Zq hS _ hk hx _ (Nat.le_refl _)) (jo hJ hx),iFo hS hJ (ZqQ hJ (l:=([(⟨(7:Int),(⟨#[120]⟩:ByteArray),[(⟨#[120]⟩:ByteArray)],[s]⟩:Sm)])) (hG) (rfl) (rfl) (lb rfl)) ZrA,trivial⟩ ?_
 refine ln 0 fun hl1=>?_
 refine ln 1 fun hl2=>?_
 refine ln 2 fun hl3=>?_
 refine ln 3 fun hl4=>?_
 refine qso tb hJ [1002] [_,_,_] [_] ?_
 exact Zg (Qt (m:=0) rfl rfl (eB (by rw[←fm7_x s];simp only[ge,List.getD_cons_zero];cases fm7 ⟨7,⟨#[120]⟩,[⟨#[120]⟩],[s]⟩<;>simp)))
end Go.Proofs.YtdgbcfloaenhbaaGreatDoor
namespace Go.Proofs.YtdgbcfloaenhbaaGreatDoor
theorem Zpk {d:Db} {k:Nat} {e:Int} (hk:k<d.consts.length) (h:∀ j,j<k→ZiB d j=0) (h0:ZiB d k≠0) (he:ZiB d k=e):ZdU d=e:=by
 have:=Qq hk h h0
 rw[ZdU,this,he]
 rw[he]at h0
 simp[h0]
theorem Zpj {d:Db} {k:Nat} {e:Int} (h1:Xo d.consts.length (ZiB d)=0) (hk:k<d.vars.length) (h:∀ j,j<k→Zj6 d j=0) (h0:Zj6 d k≠0) (he:Zj6 d k=e):ZdU d=e:=by
 rw[ZdU,h1,Qq hk h h0,he];rfl
theorem Zqj {d:Db} (h1:Xo d.consts.length (ZiB d)=0) (h2:Xo d.vars.length (Zj6 d)=0):ZdU d=0:=by
 rw[ZdU,h1,h2];rfl
theorem QP {α:Type} (ls:List (List α)) (k:Nat):(ls.take k).flatten.length≤ls.flatten.length:=by
 have h:ls.flatten=(ls.take k).flatten++(ls.drop k).flatten:=by rw[←List.flatten_append,List.take_append_drop]
 rw[h,List.length_append];omega
theorem Zmf {ts:List (ByteArray×ByteArray)} {vis:List ByteArray} {k:ByteArray} (h1:vis.Nodup) (h2:∀ q∈vis,q∈ts.map (·.1)) (h3:k∉vis∧(ZD ts k).isSome=true):ts.length-(vis++[k]).length<ts.length-vis.length:=by
 have hk:k∈ts.map (·.1):=by have:=h3.2;rw[XA]at this;simpa using this
 have hn:(vis++[k]).Nodup:=by
  rw[List.nodup_append]
  exact⟨h1,by simp,fun x hx y hy e=>by rw[List.mem_singleton.1 hy]at e;subst e;exact h3.1 hx⟩
 have:=ZbN (ys:=ts.map (·.1)) hn fun x hx=>by
  rcases List.mem_append.1 hx with h | h
  · exact h2 x h
  · rw[List.mem_singleton.1 h];exact hk
 simp at this ⊢
 omega
theorem Zme {ts tm tn:List (ByteArray×ByteArray)} {vis:List ByteArray} {k:ByteArray} (h1:∀ q,ZD tn q=if q∈vis then ZD ts q else ZD tm q) (h3:k∉vis∧(ZD ts k).isSome=true):∀ q,ZD (QY tn k ((ZD ts k).getD default)) q=if q∈vis++[k]then ZD ts q else ZD tm q:=fun q=>by
 obtain⟨v,hv⟩:=Option.isSome_iff_exists.1 h3.2
 rw[Za6]
 by_cases e:q=k
 · subst e;simp[hv]
 · rw[if_neg e,h1 q]
   simp[e]
def Zil (vs:List ByteArray) (f:Fr):List ByteArray:=Zbj vs (f.text::(Qf f.hyps).map Hy.text).flatten
def ZjD (m:List ByteArray) (h:Hy):Bool:=!h.floating||decide (ge h.text 1∈m)
def Zm2 (vs:List ByteArray) (wide:List Pr) (i:Nat):Bool:=((!Op.bytesLess (ge wide i).a.toList (ge wide i).b.toList|| !decide ((ge wide i).a∈vs))|| !decide ((ge wide i).b∈vs))|| (decide ((0:Int)< ((i:Nat):Int))&&decide ((0:Int)≤Zgw (ge wide (((i:Nat):Int)-1).toNat) (ge wide i)))
def Zpn (vs:List ByteArray) (f:Fr):Bool:=
 ((f.hyps.all (ZjD (Zil vs f))&&decide ((Zfv f.hyps).length=(Zil vs f).length))&& (List.range f.wide.length).all fun i=>!Zm2 vs f.wide i)&&decide (f.apart=f.wide.filter (inV (Zil vs f)))
def ZdW (vs:List ByteArray) (f:Fr):Int:=if Zpn vs f then 0 else 70
theorem setE_h {vs:List ByteArray} {f:Fr} (h:f.hyps.all (ZjD (Zil vs f))=false):ZdW vs f=70:=by simp[ZdW,Zpn,h]
theorem setE_n {vs:List ByteArray} {f:Fr} (h:¬ (Zfv f.hyps).length=(Zil vs f).length):ZdW vs f=70:=by simp[ZdW,Zpn,h]
theorem setE_w {vs:List ByteArray} {f:Fr} {k:Nat} (hk:k<f.wide.length) (h:Zm2 vs f.wide k=true):ZdW vs f=70:=by
 have:((List.range f.wide.length).all fun i=>!Zm2 vs f.wide i)=false:=by
  rw[List.all_eq_false]
  exact⟨k,by simpa using hk,by simp[h]⟩
 simp[ZdW,Zpn,this]
theorem setE_a {vs:List ByteArray} {f:Fr} (h:¬ f.apart=f.wide.filter (inV (Zil vs f))):ZdW vs f=70:=by simp[ZdW,Zpn,h]
theorem Zqr {vs:List ByteArray} {f:Fr} (h1:f.hyps.all (ZjD (Zil vs f))=true) (h2:(Zfv f.hyps).length=(Zil vs f).length) (h3:∀ j,j<f.wide.length→Zm2 vs f.wide j=false) (h4:f.apart=f.wide.filter (inV (Zil vs f))):ZdW vs f=0:=by
 have:((List.range f.wide.length).all fun i=>!Zm2 vs f.wide i)=true:=by
  rw[List.all_eq_true]
  intro i hi
  simp[h3 i (by simpa using hi)]
 rw[ZdW,Zpn,h1,this,decide_eq_true h2,decide_eq_true h4]
 rfl
end Go.Proofs.YtdgbcfloaenhbaaGreatDoor
set_option maxHeartbeats 8000000
set_option maxRecDepth 100000
namespace Go.Proofs.YtdgbcfloaenhbaaGreatDoor
open Go.RowKit
theorem Zk5 {J:World→Prop} (hJ:Stab J) (M1:Nat) (M2:Nat) (M3:Nat) (M4:Nat) (M5:Nat) (d:Db)  :FnM (ι:= { p':List ByteArray×List ByteArray // ZdU d=0→p'=(d.consts,d.vars) }) Tryz.prog J 46 [] [.ptr (mpC [M1,M2,M3,M4,M5]),.agg (dbC d)] [OB.set keyS M1 ([]:List ByteArray),OB.set keyS M2 ([]:List ByteArray)] (fun _=>.int (ZdU d)) (fun i'=>[OB.set keyS M1 (i'.1.1),OB.set keyS M2 (i'.1.2)]):=by
 refine Ya (N:=50) Tryz.func46 rfl rfl (lb rfl) fun S w0 R hS hJ0 hH=>?_
 refine Z8 (B:=St All (SO S (OB.set keyS M1 ([]:List ByteArray)::OB.set keyS M2 ([]:List ByteArray)::R)) w0 50 [(0,.ptr (mpC [M1,M2,M3,M4,M5])),(1,.agg (dbC d))] (XO J S w0.heap.size (OB.set keyS M1 ([]:List ByteArray)::OB.set keyS M2 ([]:List ByteArray)::R))) ?_ fun a w h=>h
 refine ZN tb hJ [0,1000] [.ptr (dbC d),_] [0] [_,_] rfl ⟨fun _ _ hk hx hl _=>Xb rfl (hl.env 1 1 _ rfl rfl) (Zq hS _ hk hx _ (Nat.le_refl _)) (jo hJ hx),trivial⟩ ?_
 refine Zk (ZN tb hJ [0,1,1001,1002,1003] [_,_,.int (d.consts.length:Nat),_] [2] [_,_,_,_,_] rfl ⟨YK Zx,trivial⟩ ?_)
 refine ln 2 fun hl1=>?_
 refine Zf (lpo (ι:=Nat×(List ByteArray)) (fun(k,cs)=>(k≤d.consts.length)∧(cs=d.consts.take k)∧(∀ j,j<k→ZiB d j=0)) (fun(_,cs)=>(OB.set keyS M1 cs::OB.set keyS M2 ([]:List ByteArray)::R)) (fun(k,_)=>[(12,.int (k:Nat))]) (fun(k,_)=>d.consts.length-k) [0,1,2,3,4] [_,_,_,_] (0,([]:List ByteArray)) ⟨Nat.zero_le _,rfl,fun j hj=>by omega⟩ ?_)
 rintro⟨k,cs⟩ ⟨f1_1,f1_2,f1_3⟩
 refine qso tb hJ [0,1,2,3,4,1000] [_] [_,_,_,_,_,_] ?_
 refine cjS 5 (fun hb1=>?_) fun hb1=>?_
 try simp at hb1
 refine Zc (nx (Zk (Zf (ZN tb hJ [0,1,2,3,4,1002] [.ptr [.lit (.string (ge d.consts k))],_,_] [0] [_,_,_,_,_,_] rfl ⟨iIx Zi,trivial⟩ ?_))))
 refine Zk (ZN tb hJ [0,1,2,3,4,5,1002] [_,.bool (Zj7 (ge d.consts k)),_] [1] [_,_,_,_,_,_,_] rfl ⟨iFo hS hJ (Zcb hJ (s:=(ge d.consts k)) ) Zhv,trivial⟩ ?_)
 refine cj 6 (fun hb2=>?_) fun hb2=>?_
 try simp at hb2
 have q2:ZiB d k=2:=by simp[ZiB,hb2]
 have e9:ZdU d=2:=Zpk (by omega) f1_3 (by rw[q2];decide) q2
 refine qso tb hJ [1000] [_] [_] ?_
 exact Zg (fun a w h=>ZS  (m:=0) ⟨(cs,([]:List ByteArray)),by first | (intro h9;rw[e9]at h9;exact absurd h9 (by decide)) | (intro _;rw[e1c,f2_2,ZJ (by omega)])⟩ rfl h rfl (eI (e9.symm)))
 try simp at hb2
 refine Zc (nx (Zk (ZN tb hJ [0,1,2,3,4,5,1005] [_,_,_,_,_,.bool (decide ((ge d.consts k)∈cs))] [5] [_,_,_,_,_,_,_] rfl ⟨fun _ _ _ hx hl _=>Yj (Kd:=keyS) (xs:=cs) ZR ZY (ge d.consts k) rfl (Zd hx (mo 0 rfl)) (hl.D 3 22 rfl rfl) (hl.D 4 23 rfl rfl) hx,trivial⟩ ?_)))
 refine cj 6 (fun hb3=>?_) fun hb3=>?_
 try simp at hb3
 have q2:ZiB d k=6:=by simp[ZiB,hb2,←f1_2,hb3]
 have e9:ZdU d=6:=Zpk (by omega) f1_3 (by rw[q2];decide) q2
 refine qso tb hJ [1000] [_] [_] ?_
 exact Zg (fun a w h=>ZS  (m:=0) ⟨(cs,([]:List ByteArray)),by first | (intro h9;rw[e9]at h9;exact absurd h9 (by decide)) | (intro _;rw[e1c,f2_2,ZJ (by omega)])⟩ rfl h rfl (eI (e9.symm)))
 try simp at hb3
 refine Zc (nx (Zz (snK 5 tb rfl ?_)))
 refine Zbo ZR hJ hJ0 (ge d.consts k) rfl rfl (.inl rfl) (fun a w h=>⟨(h.get 1 rfl),(h.get 0 rfl),(Rel.of_lit (Go.Value.bool true))⟩) ?_
 refine seK [5,6,7,8,9] [_,_,_,_,_] rfl ?_
 refine nx (Y3 tb hJ [0,1,2,3,1001] [.int (k+1:Nat),_] [0] [_,_,_,_,_] rfl ⟨Yw,trivial⟩ ?_)
 exact XB (k+1,X6 cs (ge d.consts k)) [0,1,2,3,4] ⟨by omega,by rw[ZU (by omega),←f1_2];simp[X6,hb3],ZZ f1_3 (by simp[ZiB,hb2,←f1_2,hb3])⟩
 try simp at hb1
 have e1c:cs=d.consts:=by rw[f1_2,ZJ (by omega)]
 have e1:Xo d.consts.length (ZiB d)=0:=Q5 fun j hj=>f1_3 j (by omega)
 refine ZB (nx (Zk (ZN tb hJ [0,1001,1002,1003] [_,_,.int (d.vars.length:Nat),_] [2] [_,_,_,_] rfl ⟨YK Zx,trivial⟩ ?_)))
 refine ln 1 fun hl2=>?_
 refine Zf (lpo (ι:=Nat×(List ByteArray)) (fun(k,vs)=>(k≤d.vars.length)∧(vs=d.vars.take k)∧(∀ j,j<k→Zj6 d j=0)) (fun(_,vs)=>(OB.set keyS M1 cs::OB.set keyS M2 vs::R)) (fun(k,_)=>[(34,.int (k:Nat))]) (fun(k,_)=>d.vars.length-k) [0,1,2,3] [_,_,_] (0,([]:List ByteArray)) ⟨Nat.zero_le _,rfl,fun j hj=>by omega⟩ ?_)
 rintro⟨k,vs⟩ ⟨f2_1,f2_2,f2_3⟩
 refine qso tb hJ [0,1,2,3,1000] [_] [_,_,_,_,_] ?_
 refine cjS 4 (fun hb4=>?_) fun hb4=>?_
 try simp at hb4
 refine Zc (nx (Zk (Zf (ZN tb hJ [0,1,2,3,1002] [.ptr [.lit (.string (ge d.vars k))],_,_] [0] [_,_,_,_,_] rfl ⟨iIx Zi,trivial⟩ ?_))))
 refine Zk (ZN tb hJ [0,1,2,3,4,1002] [_,.bool (Zj7 (ge d.vars k)),_] [1] [_,_,_,_,_,_] rfl ⟨iFo hS hJ (Zcb hJ (s:=(ge d.vars k)) ) Zhv,trivial⟩ ?_)
 refine cj 5 (fun hb5=>?_) fun hb5=>?_
 try simp at hb5
 have q5:Zj6 d k=2:=by simp[Zj6,hb5]
 have e9:ZdU d=2:=Zpj e1 (by omega) f2_3 (by rw[q5];decide) q5
 refine qso tb hJ [1000] [_] [_] ?_
 exact Zg (fun a w h=>ZS  (m:=0) ⟨(cs,vs),by first | (intro h9;rw[e9]at h9;exact absurd h9 (by decide)) | (intro _;rw[e1c,f2_2,ZJ (by omega)])⟩ rfl h rfl (eI (e9.symm)))
 try simp at hb5
 refine Zc (nx (Zk (ZN tb hJ [0,1,2,3,4,1002] [_,_,.bool (decide ((ge d.vars k)∈cs)||decide ((ge d.vars k)∈vs))] [2] [_,_,_,_,_,_] rfl ⟨fun _ _ hk hx hl _=>Xj (Za2 hJ (M1:=M1) (M2:=M2) (M3:=M3) (M4:=M4) (M5:=M5) (cs:=cs) (vs:=vs) (s:=(ge d.vars k)) ) Ze8 rfl (Zq hS _ hk hx) (hx.1) (ZH (Zd hx (mo 0 rfl)) (ZH (Zd hx (mo 1 rfl)) Zs)) (Za (hl.D 0 41 rfl rfl) (Za (hl.D 1 42 rfl rfl) Ze)) (jo hJ hx),trivial⟩ ?_)))
 refine cj 5 (fun hb6=>?_) fun hb6=>?_
 try simp at hb6
 have q5:Zj6 d k=6:=by rw[Zj6,if_neg (by simp[hb5]),if_pos (by rw[←f2_2,←e1c];simpa using hb6)]
 have e9:ZdU d=6:=Zpj e1 (by omega) f2_3 (by rw[q5];decide) q5
 refine qso tb hJ [1000] [_] [_] ?_
 exact Zg (fun a w h=>ZS  (m:=0) ⟨(cs,vs),by first | (intro h9;rw[e9]at h9;exact absurd h9 (by decide)) | (intro _;rw[e1c,f2_2,ZJ (by omega)])⟩ rfl h rfl (eI (e9.symm)))
 try simp at hb6
 refine Zc (nx (Zz (snK 5 tb rfl ?_)))
 refine kw pm1 ?_
 refine Zbo ZR hJ hJ0 (ge d.vars k) rfl rfl (.inl rfl) (fun a w h=>⟨(h.get 1 rfl),(h.get 0 rfl),(Rel.of_lit (Go.Value.bool true))⟩) ?_
 refine seK [5,6,7,8] [_,_,_,_] rfl ?_
 refine nx (Y3 tb hJ [0,1,2,1001] [.int (k+1:Nat),_] [0] [_,_,_,_] rfl ⟨Yw,trivial⟩ ?_)
 refine kw pm1 ?_
 exact XB (k+1,X6 vs (ge d.vars k)) [0,1,2,3] ⟨by omega,by rw[ZU (by omega),←f2_2];simp only[X6];rw[if_neg hb6.2],ZZ f2_3 (by rw[Zj6,if_neg (by simp[hb5]),if_neg (by rw[←f2_2,←e1c];simpa using hb6)])⟩
 try simp at hb4
 have e9:ZdU d=0:=Zqj e1 (Q5 fun j hj=>f2_3 j (by omega))
 refine ZB (nx (qso tb hJ [1000] [_] [_] ?_))
 exact Zg (fun a w h=>ZS  (m:=0) ⟨(cs,vs),by first | (intro h9;rw[e9]at h9;exact absurd h9 (by decide)) | (intro _;rw[e1c,f2_2,ZJ (by omega)])⟩ rfl h rfl (eI (e9.symm)))
theorem p_hyp {J:World→Prop} (hJ:Stab J) (M1:Nat) (M2:Nat) (M3:Nat) (M4:Nat) (M5:Nat) (L1:Nat) (T1:Nat) (cs:List ByteArray) (vs:List ByteArray) (fs:List ByteArray) (hm:List (ByteArray×Hy)) (tm:List (ByteArray×ByteArray)) (ls:List ByteArray) (ts:List (ByteArray×ByteArray)) (y:Hy) (dm:Bool)  :FnR Tryz.prog J 58 [OB.set keyS M1 cs,OB.set keyS M2 vs,OB.set keyS M3 fs,OB.mH M4 hm,OB.mT M5 tm,OB.set keyS L1 ls,OB.mT T1 ts] [.ptr (mpC [M1,M2,M3,M4,M5]),.agg [.lit (.map (some L1)),.lit (.map (some T1))],.agg (hyC y),.bool dm] (.int (ZeZ cs vs fs hm tm ls ts y dm)):=by
 refine Yc (N:=166) Tryz.func58 rfl rfl (lb rfl) fun S w0 hS hJ0 hH=>?_
 refine tw Yn ?_
 refine ZN tb hJ [0,3,1000,1001] [.ptr (mpC [L1,T1]),.ptr (hyC y),_] [0,1] [_,_,_,_] rfl ⟨fun _ _ hk hx hl _=>Xb rfl (hl.env 1 1 _ rfl rfl) (Zq hS _ hk hx _ (Nat.le_refl _)) (jo hJ hx),fun _ _ hk hx hl _=>Xb rfl (hl.env 2 2 _ rfl rfl) (Zq hS _ hk hx _ (Nat.le_refl _)) (jo hJ hx),trivial⟩ ?_
 refine Zk (ZN tb hJ [0,2,3,1038] [_,_,.bool (QN y.label),_,_,_,_,_,_,_,_,_,_,_,_,_,_,_,.int (y.text.length:Nat),_,_,_,_,_,_,_,_,_,_,.int (y.text.length:Nat),_,_,_,_,.int (y.text.length:Nat),_,_,_,_] [2,18,29,34] [_,_,_,_] rfl ⟨iFo hS hJ (ZbM hJ (s:=y.label) ) Ze9,YK Zx,YK Zx,YK Zx,trivial⟩ ?_)
 refine cj 3 (fun hb1=>?_) fun hb1=>?_
 ·
  replace hb1:Q1 y dm=true:=hb1
  refine qso tb hJ [1000] [_] [_] ?_
  exact Zg (Qt (m:=0) rfl rfl (eI (by grind[ZeZ])))
 ·
  replace hb1:Q1 y dm=false:=hb1
  have hy1:=ZlW hb1
  refine Zc (nx (Zk (ZN tb hJ [0,1,2,1019] [_,_,_,.bool (decide (y.label∈cs)||decide (y.label∈vs)),_,_,_,_,_,_,_,.bool (decide (y.label∈fs)),_,_,_,_,_,_,.bool (decide (y.label∈ls)),_] [3,11,18] [_,_,_,_] rfl ⟨fun _ _ hk hx hl _=>Xj (Za2 hJ (M1:=M1) (M2:=M2) (M3:=M3) (M4:=M4) (M5:=M5) (cs:=cs) (vs:=vs) (s:=y.label) ) Ze8 rfl (Zq hS _ hk hx) (hx.1) (ZH (Ye hH hk hx (mo 0 rfl)) (ZH (Ye hH hk hx (mo 1 rfl)) Zs)) (Za (hl.D 0 55 rfl rfl) (Za (hl.D 2 57 rfl rfl) Ze)) (jo hJ hx),fun _ _ hk hx hl hc=>Yj (Kd:=keyS) (xs:=fs) ZR ZY y.label rfl (Ye hH hk hx (mo 2 rfl)) (hl.D 8 63 rfl hc) (hl.D 10 65 rfl hc) hx,fun _ _ hk hx hl hc=>Yj (Kd:=keyS) (xs:=ls) ZR ZY y.label rfl (Ye hH hk hx (mo 5 rfl)) (hl.D 15 70 rfl hc) (hl.D 17 72 rfl hc) hx,trivial⟩ ?_)))
  refine cj 3 (fun hb2=>?_) fun hb2=>?_
  ·
   refine qso tb hJ [1000] [_] [_] ?_
   exact Zg (Qt (m:=0) rfl rfl (eI (by grind[ZeZ])))
  ·
   refine Zc (nx (Zk (qso tb hJ [0,1,2,1001] [_,_] [_,_,_,_] ?_)))
   refine cj 3 (fun hb3=>?_) fun hb3=>?_
   ·
    refine Zk (ZN tb hJ [0,1,2,1005,1021] [_,_,_,_,_,_,.ptr [.lit (.string (ge y.text 0))],_,.bool (decide ((ge y.text 0)∈cs)),_,_,_,_,_,_,_,_,.ptr [.lit (.string (ge y.text 1))],_,.bool (decide ((ge y.text 1)∈vs)),_,_] [6,8,17,19] [_,_,_,_,_] rfl ⟨iIx (k:=0) Zi (hk:=by have:=Yv hb1 hb3;omega),fun _ _ hk hx hl _=>Yj (Kd:=keyS) (xs:=cs) ZR ZY (ge y.text 0) rfl (Ye hH hk hx (mo 0 rfl)) (hl.D 3 80 rfl rfl) (hl.D 7 84 rfl rfl) hx,gIx (k:=1) Zi (hk:=fun(hc':((!(decide ((ge y.text 0)∈cs)))==false)=true)=>by(try simp at hc');have:=Yv hb1 hb3;omega),fun _ _ hk hx hl hc=>Yj (Kd:=keyS) (xs:=vs) ZR ZY (ge y.text 1) rfl (Ye hH hk hx (mo 1 rfl)) (hl.D 14 91 rfl hc) (hl.D 18 95 rfl hc) hx,trivial⟩ ?_)
    refine ln 3 fun hl1=>?_
    refine cj 4 (fun hb4=>?_) fun hb4=>?_
    ·
     refine qso tb hJ [1000] [_] [_] ?_
     exact Zg (Qt (m:=0) rfl rfl (eI (by grind[ZeZ])))
    ·
     refine Zc (nx (ZN tb hJ [0,2,1010,1011] [_,_,_,_,.ptr [.lit (.string (ge y.text 1))],_,.tup [.str ((ZD ts (ge y.text 1)).getD default),.bool ((ZD ts (ge y.text 1)).isSome)],_,_,_,_,_] [4,6] [_,_,_,_] rfl ⟨iIx (k:=1) Zi (hk:=by have:=Yv hb1 hb3;omega),fun _ _ hk hx hl _=>XQ (Kd:=keyS) (f:=(fun z':ByteArray=>AV.str z')) (L:=ts) Zal ZcZ (ge y.text 1) rfl (Ye hH hk hx (mo 6 rfl)) (hl.D 1 101 rfl rfl) (hl.D 5 105 rfl rfl) hx,trivial⟩ ?_))
     refine Zk (ZN tb hJ [0,1,2,3,1012,1013] [_,_,_,_,_,_,.ptr [.lit (.string (ge y.text 1))],_,.tup [.str ((ZD tm (ge y.text 1)).getD default),.bool ((ZD tm (ge y.text 1)).isSome)],_,_,_,_,_] [6,8] [_,_,_,_,_,_] rfl ⟨iIx (k:=1) Zi (hk:=by have:=Yv hb1 hb3;omega),fun _ _ hk hx hl _=>XQ (Kd:=keyS) (f:=(fun z':ByteArray=>AV.str z')) (L:=tm) Zal ZcZ (ge y.text 1) rfl (Ye hH hk hx (mo 4 rfl)) (hl.D 3 113 rfl rfl) (hl.D 7 117 rfl rfl) hx,trivial⟩ ?_)
     refine ZN tb hJ [0,1,3,1019] [_,_,_,_,_,.ptr [.lit (.string (ge y.text 0))],_,_,_,_,_,_,_,_,_,.ptr [.lit (.string (ge y.text 0))],_,_,_,_] [5,15] [_,_,_,_] rfl ⟨gIx (k:=0) Zi (hk:=fun(hc':(((ZD tm (ge y.text 1)).isSome)==true)=true)=>by(try simp at hc');have:=Yv hb1 hb3;omega),gIx (k:=0) Zi (hk:=fun(hc':(((((ZD tm (ge y.text 1)).isSome)&& (!decide (((ZD tm (ge y.text 1)).getD default)=(ge y.text 0))))==false)&& (((ZD ts (ge y.text 1)).isSome)==true))=true)=>by(try simp at hc');have:=Yv hb1 hb3;omega),trivial⟩ ?_
     refine cj 3 (fun hb5=>?_) fun hb5=>?_
     ·
      refine qso tb hJ [1000] [_] [_] ?_
      exact Zg (Qt (m:=0) rfl rfl (eI (by grind[ZeZ])))
     ·
      refine Zc (nx (qso tb hJ [0,1,1000] [_] [_,_,_] ?_))
      refine cj 2 (fun hb6=>?_) fun hb6=>?_
      ·
       refine qso tb hJ [1000] [_] [_] ?_
       exact Zg (Qt (m:=0) rfl rfl (eI (by grind[ZeZ])))
      ·
       refine Zc (nx (Zk (Zk (fun a w h=>YG (γ:=Nat) (fun ix'=>([.ptr (mpC [M1,M2,M3,M4,M5]),.ptr (mpC [M1,M2,M3,M4,M5]),.ptr (mpC [M4,M5]),.lit (.map (some M4)),.ptr (hyC y),.str y.label,.tup [.agg (hyC ((ZD hm y.label).getD default)),.bool ((ZD hm y.label).isSome)],.tup [.agg (hyC ((ZD hm y.label).getD default)),.bool ((ZD hm y.label).isSome)],.agg (hyC ((ZD hm y.label).getD default)),.bool ((ZD hm y.label).isSome),.any,.any,.bool ((ZD hm y.label).isSome)]:List AV).getD ix' .any) (fun ix'=>([true,true,true,true,true,true,true,true,true,true,true,true,true]:List Bool).getD ix' true) [(6,fun(g:Nat)=>.ptr (hyC y)),(14,fun(g:Nat)=>.at g 0),(15,fun(g:Nat)=>.bool ((ZD hm y.label).isSome))] (fun(j':Nat) (g:Nat)=>match j' with | 0=>[] | 1=>[OB.var g [.lit (.string (⟨#[]⟩:ByteArray)),.lit (.bool false),Zb ([]:List ByteArray)]] | _=>[OB.var g [.lit (.string (((ZD hm y.label).getD default).label)),.lit (.bool (((ZD hm y.label).getD default).floating)),Zb (((ZD hm y.label).getD default).text)]]) (fun(k':Nat) (g:Nat)=>match k' with | 0=>(.pointer (some ⟨g,0,none⟩)) | 1=>undef | _=>undef) [10,11] 2 0 (fun _=>rfl) h hJ Yl rfl rfl rfl rfl rfl rfl (fun j' g hj p hp=>by rcases j' with _ | _ | _ | j'<;>first | exact hp | exact List.mem_cons_of_mem _ hp | exact List.mem_cons_of_mem _ (List.mem_cons_of_mem _ hp) | (exfalso;omega)) ⟨?o17_1_0,⟨?o17_1_1,⟨?o17_1_2,⟨?o17_1_3,⟨?o17_1_4,⟨?o17_1_5,⟨?o17_1_6,⟨?o17_1_7,⟨?o17_1_8,⟨?o17_1_9,⟨?o17_1_10,⟨?o17_1_11,⟨?o17_1_12,trivial⟩⟩⟩⟩⟩⟩⟩⟩⟩⟩⟩⟩⟩ ⟨?e17_1_0,⟨?e17_1_1,trivial⟩⟩ ⟨.old 1 6 _ rfl rfl,⟨.eff 0 10 14 (fun g=>(.pointer (some ⟨g,0,none⟩))) rfl rfl (fun _=>rfl) (fun _=>True.intro),⟨.new 12 15 _ rfl rfl rfl,trivial⟩⟩⟩ ?n17_1))))
       exact oX rfl fun hx hl=>YA rfl (hl.env 0 0 _ rfl rfl) hx
       exact oX rfl fun hx hl=>Y2 rfl (hl.D 0 150 rfl rfl) hx
       exact oX rfl fun hx hl=>ZX Q3 rfl (hl.D 1 151 rfl rfl) hx
       exact oX rfl fun hx hl=>ZA ZfY rfl (hl.D 2 152 rfl rfl) hx
       exact oX rfl fun hx hl=>ZX Za8 rfl (hl.env 1 6 _ rfl rfl) hx
       exact oX rfl fun hx hl=>ZA QX rfl (hl.D 4 154 rfl rfl) hx
       exact oY rfl fun hk hx hl=>XQ (Kd:=keyS) (f:=(fun z':Hy=>AV.agg (hyC z'))) (L:=hm) X9 Zac y.label rfl (Ye hH hk hx (mo 3 rfl)) (hl.D 3 153 rfl rfl) (hl.D 5 155 rfl rfl) hx
       exact oX rfl fun hx hl=>YA rfl (hl.D 6 156 rfl rfl) hx
       exact oX rfl fun hx hl=>YW rfl (hl.D 7 149 rfl rfl) rfl hx
       exact oX rfl fun hx hl=>YW rfl (hl.D 7 149 rfl rfl) rfl hx
       exact Zm rfl
       exact Zm rfl
       exact oX rfl fun hx hl=>Xy rfl (hl.D 9 158 rfl rfl) hx
       case e17_1_0=>exact⟨_,rfl,rfl,rfl,rfl,fun g _ w hk hx _ _=>Zr (Zbw Yz hJ rfl hk hx) fun v w' ⟨g',hv,hp⟩=>⟨g',rfl,fun k' hk'=>absurd hk' (Nat.not_lt_zero _),fun _=>hv,hp⟩⟩
       case e17_1_1=>exact⟨_,rfl,rfl,rfl,rfl,fun g _ w hk hx hl hs=>(by obtain⟨us2,hv2,hr3⟩:=Zai (cs:=[.lit (.string (((ZD hm y.label).getD default).label)),.lit (.bool (((ZD hm y.label).getD default).floating)),Zb (((ZD hm y.label).getD default).text)]) (hl.D 8 157 rfl rfl);exact Zr (Xn (S':=S) (off:=0) (cs:=[.lit (.string (⟨#[]⟩:ByteArray)),.lit (.bool false),Zb ([]:List ByteArray)]) (news:=[.lit (.string (((ZD hm y.label).getD default).label)),.lit (.bool (((ZD hm y.label).getD default).floating)),Zb (((ZD hm y.label).getD default).text)]) (es:=[.lit (.string (((ZD hm y.label).getD default).label)),.lit (.bool (((ZD hm y.label).getD default).floating)),Zb (((ZD hm y.label).getD default).text)]) (us:=us2) hJ hJ0 YO rfl hk hx (Zdc (hs 0 10 _ 14 (by omega) rfl rfl rfl)) (by rw[hv2];rfl) hr3 (lb rfl) rfl) fun v w' hp=>⟨g,rfl,fun _ _=>rfl,fun e=>(by cases e),hp⟩)⟩
       clear a w h
       intro b1
       dsimp only[List.map]
       refine kw (fun h=>Ys hS h (m:=1) (s:=14) rfl) ?_
       refine nx (ZN tb hJ [1006] [_,_,_,_,.bool (ZpJ ((ZD hm y.label).getD default) y),_,_] [4] [_] rfl ⟨iFo hS hJ (ZfM hJ (x:=((ZD hm y.label).getD default)) (y:=y) ) Zmu,trivial⟩ ?_)
       refine cj 0 (fun hb8=>?_) fun hb8=>?_
       ·
        refine qso tb hJ [1000] [_] [_] ?_
        exact Zg (Qt (m:=0) rfl rfl (eI (by grind[ZeZ])))
       ·
        refine Zc (nx (qso tb hJ [1000] [_] [_] ?_))
        exact Zg (Qt (m:=0) rfl rfl (eI (by grind[ZeZ])))
   ·
    refine ZN tb hJ [0,2,1002,1004] [_,_,_,.int (Zi5 cs vs y.text),_] [3] [_,_,_,_] rfl ⟨fun _ _ hk hx hl _=>Xj (Zpv hJ (M1:=M1) (M2:=M2) (M3:=M3) (M4:=M4) (M5:=M5) (cs:=cs) (vs:=vs) (l:=y.text) ) Zmx rfl (Zq hS _ hk hx) (hx.1) (ZH (Ye hH hk hx (mo 0 rfl)) (ZH (Ye hH hk hx (mo 1 rfl)) Zs)) (Za (hl.D 0 142 rfl rfl) (Za (hl.D 2 144 rfl rfl) Ze)) (jo hJ hx),trivial⟩ ?_
    refine ln 2 fun hl2=>?_
    refine qso tb hJ [0,1,3,1001] [_,_] [_,_,_,_] ?_
    refine cj 3 (fun hb7=>?_) fun hb7=>?_
    ·
     refine qso tb hJ [1001] [_,_] [_] ?_
     exact Zg (Qt (m:=0) rfl rfl (eI (by grind[ZeZ])))
    ·
     refine Zc (nx (Zk (Zk (fun a w h=>YG (γ:=Nat) (fun ix'=>([.ptr (mpC [M1,M2,M3,M4,M5]),.ptr (mpC [M1,M2,M3,M4,M5]),.ptr (mpC [M4,M5]),.lit (.map (some M4)),.ptr (hyC y),.str y.label,.tup [.agg (hyC ((ZD hm y.label).getD default)),.bool ((ZD hm y.label).isSome)],.tup [.agg (hyC ((ZD hm y.label).getD default)),.bool ((ZD hm y.label).isSome)],.agg (hyC ((ZD hm y.label).getD default)),.bool ((ZD hm y.label).isSome),.any,.any,.bool ((ZD hm y.label).isSome)]:List AV).getD ix' .any) (fun ix'=>([true,true,true,true,true,true,true,true,true,true,true,true,true]:List Bool).getD ix' true) [(6,fun(g:Nat)=>.ptr (hyC y)),(14,fun(g:Nat)=>.at g 0),(15,fun(g:Nat)=>.bool ((ZD hm y.label).isSome))] (fun(j':Nat) (g:Nat)=>match j' with | 0=>[] | 1=>[OB.var g [.lit (.string (⟨#[]⟩:ByteArray)),.lit (.bool false),Zb ([]:List ByteArray)]] | _=>[OB.var g [.lit (.string (((ZD hm y.label).getD default).label)),.lit (.bool (((ZD hm y.label).getD default).floating)),Zb (((ZD hm y.label).getD default).text)]]) (fun(k':Nat) (g:Nat)=>match k' with | 0=>(.pointer (some ⟨g,0,none⟩)) | 1=>undef | _=>undef) [10,11] 2 0 (fun _=>rfl) h hJ Yl rfl rfl rfl rfl rfl rfl (fun j' g hj p hp=>by rcases j' with _ | _ | _ | j'<;>first | exact hp | exact List.mem_cons_of_mem _ hp | exact List.mem_cons_of_mem _ (List.mem_cons_of_mem _ hp) | (exfalso;omega)) ⟨?o17_2_0,⟨?o17_2_1,⟨?o17_2_2,⟨?o17_2_3,⟨?o17_2_4,⟨?o17_2_5,⟨?o17_2_6,⟨?o17_2_7,⟨?o17_2_8,⟨?o17_2_9,⟨?o17_2_10,⟨?o17_2_11,⟨?o17_2_12,trivial⟩⟩⟩⟩⟩⟩⟩⟩⟩⟩⟩⟩⟩ ⟨?e17_2_0,⟨?e17_2_1,trivial⟩⟩ ⟨.old 1 6 _ rfl rfl,⟨.eff 0 10 14 (fun g=>(.pointer (some ⟨g,0,none⟩))) rfl rfl (fun _=>rfl) (fun _=>True.intro),⟨.new 12 15 _ rfl rfl rfl,trivial⟩⟩⟩ ?n17_2))))
     exact oX rfl fun hx hl=>YA rfl (hl.env 0 0 _ rfl rfl) hx
     exact oX rfl fun hx hl=>Y2 rfl (hl.D 0 150 rfl rfl) hx
     exact oX rfl fun hx hl=>ZX Q3 rfl (hl.D 1 151 rfl rfl) hx
     exact oX rfl fun hx hl=>ZA ZfY rfl (hl.D 2 152 rfl rfl) hx
     exact oX rfl fun hx hl=>ZX Za8 rfl (hl.env 1 6 _ rfl rfl) hx
     exact oX rfl fun hx hl=>ZA QX rfl (hl.D 4 154 rfl rfl) hx
     exact oY rfl fun hk hx hl=>XQ (Kd:=keyS) (f:=(fun z':Hy=>AV.agg (hyC z'))) (L:=hm) X9 Zac y.label rfl (Ye hH hk hx (mo 3 rfl)) (hl.D 3 153 rfl rfl) (hl.D 5 155 rfl rfl) hx
     exact oX rfl fun hx hl=>YA rfl (hl.D 6 156 rfl rfl) hx
     exact oX rfl fun hx hl=>YW rfl (hl.D 7 149 rfl rfl) rfl hx
     exact oX rfl fun hx hl=>YW rfl (hl.D 7 149 rfl rfl) rfl hx
     exact Zm rfl
     exact Zm rfl
     exact oX rfl fun hx hl=>Xy rfl (hl.D 9 158 rfl rfl) hx
     case e17_2_0=>exact⟨_,rfl,rfl,rfl,rfl,fun g _ w hk hx _ _=>Zr (Zbw Yz hJ rfl hk hx) fun v w' ⟨g',hv,hp⟩=>⟨g',rfl,fun k' hk'=>absurd hk' (Nat.not_lt_zero _),fun _=>hv,hp⟩⟩
     case e17_2_1=>exact⟨_,rfl,rfl,rfl,rfl,fun g _ w hk hx hl hs=>(by obtain⟨us2,hv2,hr3⟩:=Zai (cs:=[.lit (.string (((ZD hm y.label).getD default).label)),.lit (.bool (((ZD hm y.label).getD default).floating)),Zb (((ZD hm y.label).getD default).text)]) (hl.D 8 157 rfl rfl);exact Zr (Xn (S':=S) (off:=0) (cs:=[.lit (.string (⟨#[]⟩:ByteArray)),.lit (.bool false),Zb ([]:List ByteArray)]) (news:=[.lit (.string (((ZD hm y.label).getD default).label)),.lit (.bool (((ZD hm y.label).getD default).floating)),Zb (((ZD hm y.label).getD default).text)]) (es:=[.lit (.string (((ZD hm y.label).getD default).label)),.lit (.bool (((ZD hm y.label).getD default).floating)),Zb (((ZD hm y.label).getD default).text)]) (us:=us2) hJ hJ0 YO rfl hk hx (Zdc (hs 0 10 _ 14 (by omega) rfl rfl rfl)) (by rw[hv2];rfl) hr3 (lb rfl) rfl) fun v w' hp=>⟨g,rfl,fun _ _=>rfl,fun e=>(by cases e),hp⟩)⟩
     clear a w h
     intro b2
     dsimp only[List.map]
     refine kw (fun h=>Ys hS h (m:=1) (s:=14) rfl) ?_
     refine nx (ZN tb hJ [1006] [_,_,_,_,.bool (ZpJ ((ZD hm y.label).getD default) y),_,_] [4] [_] rfl ⟨iFo hS hJ (ZfM hJ (x:=((ZD hm y.label).getD default)) (y:=y) ) Zmu,trivial⟩ ?_)
     refine cj 0 (fun hb8=>?_) fun hb8=>?_
     ·
      refine qso tb hJ [1000] [_] [_] ?_
      exact Zg (Qt (m:=0) rfl rfl (eI (by grind[ZeZ])))
     ·
      refine Zc (nx (qso tb hJ [1000] [_] [_] ?_))
      exact Zg (Qt (m:=0) rfl rfl (eI (by grind[ZeZ])))
theorem ZnV {J:World→Prop} (hJ:Stab J) (xs:List Pr) (ys:List Pr)  :Fn Tryz.prog J 86 [.rd (QI xs),.rd (QI ys)] (.bool (decide (xs=ys))):=by
 refine Zw (N:=26) Tryz.func86 rfl rfl (lb rfl) fun S w0 hS hJ0=>?_
 clear hJ0
 refine ln 0 fun hl1=>?_
 refine ln 1 fun hl2=>?_
 refine qs tb hJ [0,1] [_] [_,_] ?_
 refine Zk (hqs tb hJ [0,1,1004] [_,.int (xs.length:Nat),_,.int (ys.length:Nat),_] [1,3] [_,_,_] rfl ⟨YK Z6,YK Z6,trivial⟩ ?_)
 refine cj 2 (fun hb1=>?_) fun hb1=>?_
 try simp at hb1
 refine qs tb hJ [1000] [_] [_] ?_
 exact Zg (rtn (m:=0) rfl rfl (eB (by first | (have:=Zdz (xs:=xs) (ys:=ys) (by omega) (fun j hj=>prEq_iff.1 (f1_2 j (by omega)));simp[this];done) | (symm;rw[decide_eq_false_iff_not];intro e;subst e;simp at hb3;done) | (symm;rw[decide_eq_false_iff_not];intro e;subst e;exact hb1 rfl))))
 try simp at hb1
 refine Zc (nx (Zk (hqs tb hJ [0,1,1001,1002] [_,.int (xs.length:Nat),_] [1] [_,_,_,_] rfl ⟨YK Z6,trivial⟩ ?_)))
 refine Zf (lp (ι:=Nat) (fun k=>(k≤xs.length)∧(∀ j,j<k→ZmY (ge xs j) (ge ys j)=true)) (fun k=>[(13,.int (k:Nat))]) (fun k=>xs.length-k) [0,1,2,3] [_,_,_] 0 ⟨Nat.zero_le _,fun j hj=>by omega⟩ ?_)
 rintro k ⟨f1_1,f1_2⟩
 refine qs tb hJ [0,1,2,3,1000] [_] [_,_,_,_,_] ?_
 refine cjS 4 (fun hb2=>?_) fun hb2=>?_
 try simp at hb2
 refine Zc (nx (Zk (Zf (qs tb hJ [0,1,2,3,1001] [_,_] [_,_,_,_,_] ?_))))
 refine hqs tb hJ [0,1,2,3,1008] [_,_,.ptr (prC (ge xs k)),_,_,_,.ptr (prC (ge ys k)),_,.bool (!(decide ((ge xs k).a=(ge ys k).a)&&decide ((ge xs k).b=(ge ys k).b)))] [2,6,8] [_,_,_,_,_] rfl ⟨iIx ZC,iIx ZC,fun _ _ _ hx hl _=>Zpt Zl6 rfl (hl.D 3 19 rfl rfl) (hl.D 7 23 rfl rfl) hx,trivial⟩ ?_
 refine cj 4 (fun hb3=>?_) fun hb3=>?_
 try simp at hb3
 refine qs tb hJ [1000] [_] [_] ?_
 exact Zg (rtn (m:=0) rfl rfl (eB (by first | (have:=Zdz (xs:=xs) (ys:=ys) (by omega) (fun j hj=>prEq_iff.1 (f1_2 j (by omega)));simp[this];done) | (symm;rw[decide_eq_false_iff_not];intro e;subst e;simp at hb3;done) | (symm;rw[decide_eq_false_iff_not];intro e;subst e;exact hb1 rfl))))
 try simp at hb3
 refine Zc (nx (hqp tb hJ [0,1,2,1001] [.int (k+1:Nat),_] [0] [_,_,_,_] rfl ⟨Yw,trivial⟩ ?_))
 exact lpE (k+1) [0,1,2,3] ⟨by omega,ZZ f1_2 (by simp[ZmY,hb3])⟩
 try simp at hb2
 refine ZB (nx (qs tb hJ [1000] [_] [_] ?_))
 exact Zg (rtn (m:=0) rfl rfl (eB (by first | (have:=Zdz (xs:=xs) (ys:=ys) (by omega) (fun j hj=>prEq_iff.1 (f1_2 j (by omega)));simp[this];done) | (symm;rw[decide_eq_false_iff_not];intro e;subst e;simp at hb3;done) | (symm;rw[decide_eq_false_iff_not];intro e;subst e;exact hb1 rfl))))
theorem p_sets {J:World→Prop} (hJ:Stab J) (M1:Nat) (M2:Nat) (M3:Nat) (M4:Nat) (M5:Nat) (vs:List ByteArray) (f:Fr) (h2:f.hyps.length≤40) (h3:f.wide.length*32≤140737488351232) (h4:∀ x∈f.hyps,x.floating=true→x.text.length=2):FnR Tryz.prog J 60 [OB.set keyS M2 vs] [.ptr (mpC [M1,M2,M3,M4,M5]),.agg (frC f)] (.int (ZdW vs f)):=by
 refine Yc (N:=101) Tryz.func60 rfl rfl (lb rfl) fun S w0 hS hJ0 hH=>?_
 refine tw Yn ?_
 refine ZN tb hJ [0,1000] [.ptr (frC f),_] [0] [_,_] rfl ⟨fun _ _ hk hx hl _=>Xb rfl (hl.env 1 1 _ rfl rfl) (Zq hS _ hk hx _ (Nat.le_refl _)) (jo hJ hx),trivial⟩ ?_
 refine Zk (fun a w h=>YG (γ:=Nat) (fun ix'=>([.ptr (mpC [M1,M2,M3,M4,M5]),.ptr (mpC [M1,M2,M3,M4,M5]),.ptr (mpC [M2,M3,M4,M5]),.lit (.map (some M2)),.ptr [XW f.hyps,QI f.apart,Zb f.text,XW f.dummies,QI f.wide,Zb f.proof],.rd (XW f.hyps),.ptr [Zb f.text,XW f.dummies,QI f.wide,Zb f.proof],.rd (Zb f.text),.rd (ZbE (f.text::(Qf f.hyps).map Hy.text)),.any,.any]:List AV).getD ix' .any) (fun ix'=>([true,true,true,true,true,true,true,true,true,true,true]:List Bool).getD ix' true) [(0,fun(g:Nat)=>.ptr (mpC [M1,M2,M3,M4,M5])),(3,fun(g:Nat)=>.ptr (frC f)),(5,fun(g:Nat)=>.lit (.map (some g)))] (fun(j':Nat) (g:Nat)=>match j' with | 0=>[] | 1=>[OB.set keyS g (Zbj vs (f.text::(Qf f.hyps).map Hy.text).flatten)] | _=>[OB.set keyS g (Zbj vs (f.text::(Qf f.hyps).map Hy.text).flatten)]) (fun(k':Nat) (g:Nat)=>match k' with | 0=>(.map (some g)) | 1=>(.map (some g)) | _=>undef) [9,10] 2 0 (fun _=>rfl) h hJ Yl rfl rfl rfl rfl rfl rfl (fun j' g hj p hp=>by rcases j' with _ | _ | _ | j'<;>first | exact hp | exact List.mem_cons_of_mem _ hp | exact List.mem_cons_of_mem _ (List.mem_cons_of_mem _ hp) | (exfalso;omega)) ⟨?o1_1_0,⟨?o1_1_1,⟨?o1_1_2,⟨?o1_1_3,⟨?o1_1_4,⟨?o1_1_5,⟨?o1_1_6,⟨?o1_1_7,⟨?o1_1_8,⟨?o1_1_9,⟨?o1_1_10,trivial⟩⟩⟩⟩⟩⟩⟩⟩⟩⟩⟩ ⟨?e1_1_0,⟨?e1_1_1,trivial⟩⟩ ⟨.old 0 0 _ rfl rfl,⟨.old 1 3 _ rfl rfl,⟨.eff 1 10 5 (fun g=>(.map (some g))) rfl rfl (fun _=>rfl) (fun _=>True.intro),trivial⟩⟩⟩ ?n1_1)
 exact oX rfl fun hx hl=>YA rfl (hl.env 0 0 _ rfl rfl) hx
 exact oX rfl fun hx hl=>Y2 rfl (hl.D 0 11 rfl rfl) hx
 exact oX rfl fun hx hl=>ZX ZjK rfl (hl.D 1 12 rfl rfl) hx
 exact oX rfl fun hx hl=>ZA ZpA rfl (hl.D 2 13 rfl rfl) hx
 exact oX rfl fun hx hl=>ZX Za7 rfl (hl.env 1 3 _ rfl rfl) hx
 exact oX rfl fun hx hl=>ZA Zf0 rfl (hl.D 4 15 rfl rfl) hx
 exact oX rfl fun hx hl=>ZX Zeq rfl (hl.env 1 3 _ rfl rfl) hx
 exact oX rfl fun hx hl=>ZA YX rfl (hl.D 6 17 rfl rfl) hx
 exact oY rfl fun hk hx hl=>ZeN (Zju hJ (hs:=f.hyps) (t:=f.text) (h2)) ZrE rfl (Zq hS _ hk hx) (hx.1) (Za (hl.D 5 16 rfl rfl) (Za (hl.D 7 18 rfl rfl) Ze)) (jo hJ hx)
 exact Zm rfl
 exact Zm rfl
 case e1_1_0=>exact⟨_,rfl,rfl,rfl,rfl,fun _ _ w hk hx hl _=>Zr (d_fn (O:=[]) (R:=[]) (Zha hJ (M:=M2) (vs:=vs) (l:=(f.text::(Qf f.hyps).map Hy.text)) ) ZrF rfl hS hJ0 (ZH (hH _ (mo 0 rfl)) Zs) hk hx (Za (hl.D 3 14 rfl rfl) (Za (hl.D 8 19 rfl rfl) Ze))) fun v w' ⟨i,hp,hv⟩=>⟨i,rfl,fun k' hk'=>absurd hk' (Nat.not_lt_zero _),fun _=>hv.lit,hp⟩⟩
 case e1_1_1=>exact⟨_,rfl,rfl,rfl,rfl,fun g _ w hk hx _ hs=>Zr (ZcT (.inl rfl) (hs 0 9 _ 20 (by omega) rfl rfl rfl) hk hx) fun v w' hp=>⟨g,rfl,fun _ _=>rfl,fun _=>hp.1,hp.2⟩⟩
 clear a w h
 intro z1
 dsimp only[List.map]
 refine nx (qso tb hJ [0,1,2,1000] [_] [_,_,_,_] ?_)
 refine Zk (ZN tb hJ [0,1,2,3,1001,1002,1003] [_,_,.int (f.hyps.length:Nat),_] [2] [_,_,_,_,_,_,_] rfl ⟨YK ZO,trivial⟩ ?_)
 refine ln 4 fun hl1=>?_
 refine Zf (lpo (ι:=Nat×Nat) (fun(k,n)=>(k≤f.hyps.length)∧(n=(Zfv (f.hyps.take k)).length)∧((f.hyps.take k).all (ZjD (Zil vs f))=true)∧(n≤k)) (fun(_,_)=>[OB.set keyS z1 (Zbj vs (f.text::(Qf f.hyps).map Hy.text).flatten)]) (fun(k,n)=>[(24,.int (k:Nat)),(6,.int (n:Nat))]) (fun(k,_)=>f.hyps.length-k) [0,1,2,4,5,6,3] [_,_,_,_,_] (0,0) ⟨Nat.zero_le _,rfl,rfl,Nat.zero_le _⟩ ?_)
 rintro⟨k,n⟩ ⟨f1_1,f1_2,f1_3,f1_4⟩
 refine qso tb hJ [0,1,2,3,4,5,6,1000] [_] [_,_,_,_,_,_,_,_] ?_
 refine cjS 7 (fun hb1=>?_) fun hb1=>?_
 ·
  try simp at hb1
  refine Zc (nx (Zk (Zf (tsq ?_))))
  refine sq (.ptr (hyC (ge f.hyps k))) rfl rfl (lb rfl) (fun _ _ h=>Yg (i:=(k:Int)) ZK rfl (h.get 3 rfl) (h.get 5 rfl) (Int.natCast_nonneg _) (Yu (xs:=f.hyps) (k:=k) sfz) rfl h.x) ?_
  refine snK 1 tb rfl ?_
  refine X8 (cs:=hyC (ge f.hyps k)) ZaY rfl rfl rfl (lb rfl) rfl rfl rfl (by decide) (m:=0) rfl rfl (fun a w h=>Zq hS _ h.keep h.x _ (Nat.le_refl _)) (fun a w h w' hk'=>Yq hJ _ _ hk' h.x) ?_
  refine seK [0,3,4,5,6,7,8,9] [_,_,_,_,_,_,_,_] rfl ?_
  refine nx (qso tb hJ [0,1,2,3,4,5,6,7,1001] [_,_] [_,_,_,_,_,_,_,_,_] ?_)
  refine cj 8 (fun hb2=>?_) fun hb2=>?_
  ·
   try simp at hb2
   refine Zk (ZN tb hJ [1,2,3,4,5,6,7,1002,1006] [_,_,_,.ptr [.lit (.string (ge ((ge f.hyps k).text) 1))],_,.bool (decide ((ge ((ge f.hyps k).text) 1)∈(Zbj vs (f.text::(Qf f.hyps).map Hy.text).flatten))),_] [3,5] [_,_,_,_,_,_,_,_,_] rfl ⟨iIx (k:=1) Zi (hk:=by have:=h4 _ (ZM (by omega)) hb2;omega),fun _ _ _ hx hl _=>Yj (Kd:=keyS) (xs:=(Zbj vs (f.text::(Qf f.hyps).map Hy.text).flatten)) ZR ZY (ge ((ge f.hyps k).text) 1) rfl (Zd hx (mo 0 rfl)) (hl.D 0 30 rfl rfl) (hl.D 4 34 rfl rfl) hx,trivial⟩ ?_)
   refine ln 7 fun hl2=>?_
   refine cj 8 (fun hb3=>?_) fun hb3=>?_
   ·
    have q3:ZdW vs f=70:=setE_h (Za3 hb1 (by simp only[ZjD,hb2,Bool.not_true,Bool.false_or];exact decide_eq_false (ZqZ hb3)))
    refine qso tb hJ [1000] [_] [_] ?_
    exact Zg (Qt (m:=0) rfl rfl (eI (q3.symm)))
   ·
    refine Zc (nx (Y3 tb hJ [0,1,2,3,4,5,1002] [_,.int (n+1:Nat),_] [1] [_,_,_,_,_,_,_] rfl ⟨Yw (h0:=by omega),trivial⟩ ?_))
    refine nx (Y3 tb hJ [0,1,2,3,4,6,1001] [.int (k+1:Nat),_] [0] [_,_,_,_,_,_,_] rfl ⟨Yw,trivial⟩ ?_)
    exact XB (k+1,n+1) [0,1,2,3,4,6,5] ⟨by omega,by rw[Zfv,YY (by omega),f1_2];simp[Zfv,hb2],by rw[ZbX (by omega),f1_3];simp only[ZjD,hb2,Bool.not_true,Bool.false_or,Bool.true_and];exact decide_eq_true (Zq0 hb3),by omega⟩
  ·
   try simp at hb2
   refine Zc (nx (Y3 tb hJ [1,2,3,4,5,7,1001] [.int (k+1:Nat),_] [0] [_,_,_,_,_,_,_] rfl ⟨Yw,trivial⟩ ?_))
   exact XB (k+1,n) [0,1,2,3,4,6,5] ⟨by omega,by rw[Zfv,YY (by omega),f1_2];simp[Zfv,hb2],by rw[ZbX (by omega),f1_3];simp[ZjD,hb2],by omega⟩
 ·
  try simp at hb1
  have e1:f.hyps.all (ZjD (Zil vs f))=true:=by rw[←ZJ (xs:=f.hyps) (by omega)];exact f1_3
  have f1_2':n=(Zfv f.hyps).length:=by rw[f1_2,ZJ (by omega)]
  refine ZB (nx (Zk (ZN tb hJ [0,1,2,1003] [_,_,.int ((Zbj vs (f.text::(Qf f.hyps).map Hy.text).flatten).length:Nat),_] [2] [_,_,_,_] rfl ⟨fun _ _ _ hx hl _=>ZnB ZgV rfl (Zd hx (mo 0 rfl)) (hl.D 1 41 rfl rfl) hx,trivial⟩ ?_)))
  refine cj 3 (fun hb4=>?_) fun hb4=>?_
  ·
   have hb4a:¬ n=(Zil vs f).length:=fun e=>ZqZ hb4 (congrArg Int.ofNat e)
   have q3:ZdW vs f=70:=setE_n (by rw[←f1_2'];exact hb4a)
   refine qso tb hJ [1000] [_] [_] ?_
   exact Zg (Qt (m:=0) rfl rfl (eI (q3.symm)))
  ·
   have hb4a:n=(Zil vs f).length:=Int.ofNat.inj (Zq0 hb4)
   refine Zc (nx (Zk (ZN tb hJ [0,1,2,1001,1002,1003] [_,_,.int (f.wide.length:Nat),_] [2] [_,_,_,_,_,_] rfl ⟨YK Z6,trivial⟩ ?_)))
   refine ln 3 fun hl3=>?_
   refine Zf (lpo (ι:=Nat) (fun k=>(k≤f.wide.length)∧(∀ j,j<k→Zm2 vs f.wide j=false)) (fun _=>[OB.set keyS z1 (Zbj vs (f.text::(Qf f.hyps).map Hy.text).flatten)]) (fun k=>[(47,.int (k:Nat))]) (fun k=>f.wide.length-k) [0,1,2,3,4,5] [_,_,_,_,_] 0 ⟨Nat.zero_le _,fun j hj=>by omega⟩ ?_)
   rintro k ⟨f2_1,f2_2⟩
   refine qso tb hJ [0,1,2,3,4,5,1000] [_] [_,_,_,_,_,_,_] ?_
   refine cjS 6 (fun hb5=>?_) fun hb5=>?_
   ·
    try simp at hb5
    refine Zc (nx (Zk (Zf (tsq ?_))))
    refine snK 1 tb rfl ?_
    refine sq (.ptr (prC (ge f.wide k))) rfl rfl (lb rfl) (fun _ _ h=>Yg (i:=(k:Int)) ZC rfl (h.get 4 rfl) (h.get 6 rfl) (Int.natCast_nonneg _) (Yu (xs:=f.wide) (k:=k) sfz) rfl h.x) ?_
    refine snK 1 tb rfl ?_
    refine ZV Qr hJ rfl rfl rfl (lb rfl) fun b2=>?_
    refine snK 1 tb rfl ?_
    refine ZF (b:=b2) (off:=0) (cs:=[.lit (.string (⟨#[]⟩:ByteArray)),.lit (.string (⟨#[]⟩:ByteArray))]) (es:=[.lit (.string ((ge f.wide k).a)),.lit (.string ((ge f.wide k).b))]) (news:=[.lit (.string ((ge f.wide k).a)),.lit (.string ((ge f.wide k).b))]) hJ hJ0 Y0 rfl rfl rfl (lb rfl) rfl (fun a w h=>⟨(h.get 1 rfl),(h.get 2 rfl)⟩) ?_
    refine kw (fun h=>Ys hS h (m:=1) (s:=10) rfl) ?_
    refine seK [0,1,5,6,7,8,9,10] [_,_,_,_,_,_,_,_] rfl ?_
    refine nx (ZN tb hJ [2,3,4,5,6,7,1039] [_,_,_,_,_,_,_,_,_,_,_,_,.bool (decide ((ge f.wide k).a∈vs)),_,_,_,_,_,_,_,_,_,.bool (decide ((ge f.wide k).b∈vs)),_,_,_,_,_,_,_,_,_,.int ((k:Int)-(1:Int)),.ptr (prC (ge f.wide ((k:Int)-(1:Int)).toNat)),_,_,.int (Zgw (ge f.wide ((k:Int)-(1:Int)).toNat) (ge f.wide k)),_,_,_] [12,22,32,33,36] [_,_,_,_,_,_,_] rfl ⟨fun a _ hk hx hl hc=>Yj (Kd:=keyS) (xs:=vs) ZR ZY ((ge f.wide k).a) rfl (Ye hH hk hx (mo 0 rfl)) (hl.D 9 61 rfl hc) (hl.D 11 63 rfl hc) hx,fun _ _ hk hx hl hc=>Yj (Kd:=keyS) (xs:=vs) ZR ZY ((ge f.wide k).b) rfl (Ye hH hk hx (mo 0 rfl)) (hl.D 19 71 rfl hc) (hl.D 21 73 rfl hc) hx,fun a _ _ hx hl hc=>ZdX (i:=(k:Int)) (j:=(1:Int)) rfl (hl.D 31 83 rfl hc) (Rel.of_lit (Go.Value.int Go.IntKind.i64 1)) (by have hc':(((((!Op.bytesLess ((ge f.wide k).a).toList ((ge f.wide k).b).toList)|| (!(decide ((ge f.wide k).a∈vs))))|| (!(decide ((ge f.wide k).b∈vs))))==false)&& ((decide ((0:Int)< (k:Int)))==true))=true:=hc;(try simp at hc');(first | omega | (simp;omega) | grind[ZM])) (by have hc':(((((!Op.bytesLess ((ge f.wide k).a).toList ((ge f.wide k).b).toList)|| (!(decide ((ge f.wide k).a∈vs))))|| (!(decide ((ge f.wide k).b∈vs))))==false)&& ((decide ((0:Int)< (k:Int)))==true))=true:=hc;(try simp at hc');(first | omega | (simp;omega) | grind[ZM])) hx,fun a _ _ hx hl hc=>Yg (i:=(k:Int)-(1:Int)) ZC rfl (hl.D 30 82 rfl hc) (hl.D 32 84 rfl hc) (by have hc':(((((!Op.bytesLess ((ge f.wide k).a).toList ((ge f.wide k).b).toList)|| (!(decide ((ge f.wide k).a∈vs))))|| (!(decide ((ge f.wide k).b∈vs))))==false)&& ((decide ((0:Int)< (k:Int)))==true))=true:=hc;(try simp at hc');(first | omega | (simp;omega) | grind[ZM])) (ZeH (xs:=f.wide) (i:=(k:Int)-(1:Int)) (by have hc':(((((!Op.bytesLess ((ge f.wide k).a).toList ((ge f.wide k).b).toList)|| (!(decide ((ge f.wide k).a∈vs))))|| (!(decide ((ge f.wide k).b∈vs))))==false)&& ((decide ((0:Int)< (k:Int)))==true))=true:=hc;(try simp at hc');(first | omega | (simp;omega) | grind[ZM])) (by have hc':(((((!Op.bytesLess ((ge f.wide k).a).toList ((ge f.wide k).b).toList)|| (!(decide ((ge f.wide k).a∈vs))))|| (!(decide ((ge f.wide k).b∈vs))))==false)&& ((decide ((0:Int)< (k:Int)))==true))=true:=hc;(try simp at hc');(first | omega | (simp;omega) | grind[ZM]))) rfl hx,iFo hS hJ (ZdZ hJ (x:=(ge f.wide ((k:Int)-(1:Int)).toNat)) (y:=(ge f.wide k)) ) ZrD,trivial⟩ ?_)
    refine cj 6 (fun hb6=>?_) fun hb6=>?_
    ·
     have q3:ZdW vs f=70:=setE_w hb5 hb6
     refine qso tb hJ [1000] [_] [_] ?_
     exact Zg (Qt (m:=0) rfl rfl (eI (q3.symm)))
    ·
     refine Zc (nx (Y3 tb hJ [0,1,2,3,4,1001] [.int (k+1:Nat),_] [0] [_,_,_,_,_,_] rfl ⟨Yw,trivial⟩ ?_))
     exact XB (k+1) [0,1,2,3,4,5] ⟨by omega,ZZ f2_2 hb6⟩
   ·
    try simp at hb5
    refine ZB (nx (Zk (ZN tb hJ [1001,1005,1007] [_,_,_,_,_,.rd (QI (f.wide.filter (inV (Zbj vs (f.text::(Qf f.hyps).map Hy.text).flatten)))),.bool (decide (f.apart=(f.wide.filter (inV (Zbj vs (f.text::(Qf f.hyps).map Hy.text).flatten))))),_] [5,6] [_,_,_] rfl ⟨fun _ _ hk hx hl _=>Xj (ZnI hJ (M:=z1) (ms:=(Zbj vs (f.text::(Qf f.hyps).map Hy.text).flatten)) (l:=f.wide) (h3)) ZrB rfl (Zq hS _ hk hx) (hx.1) (ZH (Zd hx (mo 0 rfl)) Zs) (Za (hl.D 2 95 rfl rfl) (Za (hl.D 4 97 rfl rfl) Ze)) (jo hJ hx),iFo hS hJ (ZnV hJ (xs:=f.apart) (ys:=(f.wide.filter (inV (Zbj vs (f.text::(Qf f.hyps).map Hy.text).flatten)))) ) ZrC,trivial⟩ ?_)))
    refine ln 0 fun hl4=>?_
    refine ln 1 fun hl5=>?_
    refine cj 2 (fun hb7=>?_) fun hb7=>?_
    ·
     have q3:ZdW vs f=70:=setE_a (ZqZ hb7)
     refine qso tb hJ [1000] [_] [_] ?_
     exact Zg (Qt (m:=0) rfl rfl (eI (q3.symm)))
    ·
     have q3:ZdW vs f=0:=Zqr e1 (by rw[←f1_2'];exact hb4a) (fun j hj=>f2_2 j (by omega)) (Zq0 hb7)
     refine Zc (nx (qso tb hJ [1000] [_] [_] ?_))
     exact Zg (Qt (m:=0) rfl rfl (eI (q3.symm)))
theorem ZnO {J:World→Prop} (hJ:Stab J) (s:ByteArray) (hG:Zab J):Fn Tryz.prog J 61 [.str s] (.bool (!XR s)):=by
 refine Zw (N:=6) Tryz.func61 rfl rfl (lb rfl) fun S w0 hS hJ0=>?_
 clear hJ0
 refine qs tb hJ [0] [_] [_] ?_
 refine hqs tb hJ [1003] [_,.bool (XR s),_,_] [1] [_] rfl ⟨iFn hS hJ (Zk9 hJ (s:=s) (hG)) ZrR,trivial⟩ ?_
 exact Zg (rtn (m:=0) rfl rfl (eB (by first | rfl | grind[ZM])))
theorem ZnN {J:World→Prop} (hJ:Stab J) (M1:Nat) (M2:Nat) (M3:Nat) (M4:Nat) (M5:Nat) (hm:List (ByteArray×Hy)) (y:Hy)  :FnR Tryz.prog J 65 [OB.mH M4 hm] [.agg (hyC y),.ptr [.ptr (mpC [M1,M2,M3,M4,M5])]] (.bool ((ZD hm y.label).isSome)):=by
 refine Yc (N:=17) Tryz.func65 rfl rfl (lb rfl) fun S w0 hS hJ0 hH=>?_
 refine tw Yn ?_
 refine ZN tb hJ [1,1000] [.ptr (hyC y),_] [0] [_,_] rfl ⟨fun _ _ hk hx hl _=>Xb rfl (hl.env 0 0 _ rfl rfl) (Zq hS _ hk hx _ (Nat.le_refl _)) (jo hJ hx),trivial⟩ ?_
 refine Zk (fun a w h=>YG (γ:=Nat) (fun ix'=>([.ptr (mpC [M1,M2,M3,M4,M5]),.ptr (mpC [M1,M2,M3,M4,M5]),.ptr (mpC [M4,M5]),.lit (.map (some M4)),.ptr (hyC y),.str y.label,.tup [.agg (hyC ((ZD hm y.label).getD default)),.bool ((ZD hm y.label).isSome)],.tup [.agg (hyC ((ZD hm y.label).getD default)),.bool ((ZD hm y.label).isSome)],.agg (hyC ((ZD hm y.label).getD default)),.bool ((ZD hm y.label).isSome),.any,.any,.bool ((ZD hm y.label).isSome)]:List AV).getD ix' .any) (fun ix'=>([true,true,true,true,true,true,true,true,true,true,true,true,true]:List Bool).getD ix' true) [(5,fun(g:Nat)=>.bool ((ZD hm y.label).isSome))] (fun(j':Nat) (g:Nat)=>match j' with | 0=>[] | 1=>[OB.var g [.lit (.string (⟨#[]⟩:ByteArray)),.lit (.bool false),Zb ([]:List ByteArray)]] | _=>[OB.var g [.lit (.string (((ZD hm y.label).getD default).label)),.lit (.bool (((ZD hm y.label).getD default).floating)),Zb (((ZD hm y.label).getD default).text)]]) (fun(k':Nat) (g:Nat)=>match k' with | 0=>(.pointer (some ⟨g,0,none⟩)) | 1=>undef | _=>undef) [10,11] 2 0 (fun _=>rfl) h hJ Yl rfl rfl rfl rfl rfl rfl (fun j' g hj p hp=>by rcases j' with _ | _ | _ | j'<;>first | exact hp | exact List.mem_cons_of_mem _ hp | exact List.mem_cons_of_mem _ (List.mem_cons_of_mem _ hp) | (exfalso;omega)) ⟨?o1_1_0,⟨?o1_1_1,⟨?o1_1_2,⟨?o1_1_3,⟨?o1_1_4,⟨?o1_1_5,⟨?o1_1_6,⟨?o1_1_7,⟨?o1_1_8,⟨?o1_1_9,⟨?o1_1_10,⟨?o1_1_11,⟨?o1_1_12,trivial⟩⟩⟩⟩⟩⟩⟩⟩⟩⟩⟩⟩⟩ ⟨?e1_1_0,⟨?e1_1_1,trivial⟩⟩ ⟨.new 12 5 _ rfl rfl rfl,trivial⟩ ?n1_1)
 exact oX rfl fun hx hl=>ZbH ZfZ rfl (hl.env 0 1 _ rfl rfl) hx
 exact oX rfl fun hx hl=>Y2 rfl (hl.D 0 7 rfl rfl) hx
 exact oX rfl fun hx hl=>ZX Q3 rfl (hl.D 1 8 rfl rfl) hx
 exact oX rfl fun hx hl=>ZA ZfY rfl (hl.D 2 9 rfl rfl) hx
 exact oX rfl fun hx hl=>ZX Za8 rfl (hl.env 1 2 _ rfl rfl) hx
 exact oX rfl fun hx hl=>ZA QX rfl (hl.D 4 11 rfl rfl) hx
 exact oY rfl fun hk hx hl=>XQ (Kd:=keyS) (f:=(fun z':Hy=>AV.agg (hyC z'))) (L:=hm) X9 Zac y.label rfl (Ye hH hk hx (mo 0 rfl)) (hl.D 3 10 rfl rfl) (hl.D 5 12 rfl rfl) hx
 exact oX rfl fun hx hl=>YA rfl (hl.D 6 13 rfl rfl) hx
 exact oX rfl fun hx hl=>YW rfl (hl.D 7 6 rfl rfl) rfl hx
 exact oX rfl fun hx hl=>YW rfl (hl.D 7 6 rfl rfl) rfl hx
 exact Zm rfl
 exact Zm rfl
 exact oX rfl fun hx hl=>Xy rfl (hl.D 9 15 rfl rfl) hx
 case e1_1_0=>exact⟨_,rfl,rfl,rfl,rfl,fun g _ w hk hx _ _=>Zr (Zbw Yz hJ rfl hk hx) fun v w' ⟨g',hv,hp⟩=>⟨g',rfl,fun k' hk'=>absurd hk' (Nat.not_lt_zero _),fun _=>hv,hp⟩⟩
 case e1_1_1=>exact⟨_,rfl,rfl,rfl,rfl,fun g _ w hk hx hl hs=>(by obtain⟨us2,hv2,hr3⟩:=Zai (cs:=[.lit (.string (((ZD hm y.label).getD default).label)),.lit (.bool (((ZD hm y.label).getD default).floating)),Zb (((ZD hm y.label).getD default).text)]) (hl.D 8 14 rfl rfl);exact Zr (Xn (S':=S) (off:=0) (cs:=[.lit (.string (⟨#[]⟩:ByteArray)),.lit (.bool false),Zb ([]:List ByteArray)]) (news:=[.lit (.string (((ZD hm y.label).getD default).label)),.lit (.bool (((ZD hm y.label).getD default).floating)),Zb (((ZD hm y.label).getD default).text)]) (es:=[.lit (.string (((ZD hm y.label).getD default).label)),.lit (.bool (((ZD hm y.label).getD default).floating)),Zb (((ZD hm y.label).getD default).text)]) (us:=us2) hJ hJ0 YO rfl hk hx (Zdc (hs 0 10 _ 4 (by omega) rfl rfl rfl)) (by rw[hv2];rfl) hr3 (lb rfl) rfl) fun v w' hp=>⟨g,rfl,fun _ _=>rfl,fun e=>(by cases e),hp⟩)⟩
 clear a w h
 intro b1
 dsimp only[List.map]
 refine kw Zy ?_
 refine nx (qso tb hJ [1001] [_,_] [_] ?_)
 exact Zg (Qt (m:=0) rfl rfl rfl)
theorem ZqS {J:World→Prop} (hJ:Stab J) (n:Nat) (b:n*48≤140737488351232):FnM (ι:=Value) Tryz.prog J 80 [] [.lit (.slice none 0 0),.int (n:Nat)] [] (fun i'=>.lit (i')) (fun i'=>[OB.row i' 66 3 (([]:List Hy).map hyC)]):=by
 refine Ya (N:=27) Tryz.func80 rfl rfl (lb rfl) fun S w0 R hS hJ0 hH=>?_
 refine Z8 (B:=St All (SO S (R)) w0 27 [(0,.lit (.slice none 0 0)),(1,.int (n:Nat))] (XO J S w0.heap.size (R))) ?_ fun a w h=>h
 refine qso tb hJ [0,1] [_] [_,_] ?_
 refine Zk (qso tb hJ [0,1,1001] [_,_] [_,_,_] ?_)
 refine cj 2 (fun hb1=>?_) fun hb1=>?_
 try simp at hb1
 exact False.elim (by omega)
 try simp at hb1
 refine Zc (nx (Zk (ZN tb hJ [0,1007] [_,_,.int (0:Nat),_,.int (0:Nat),.int (((0:Nat):Int)-((0:Nat):Int)),.int ((n:Int)-((0:Nat):Int)-((0:Nat):Int)),_] [2,4,5,6] [_,_] rfl ⟨fun _ _ _ hx hl _=>Zh8 ZO rfl (hl.D 1 9 rfl rfl) hx,fun _ _ _ hx hl _=>Zh6 ZO rfl (hl.D 3 11 rfl rfl) hx,iSub,iSub,trivial⟩ ?_)))
 refine tw (sa 1 rfl (congrArg AV.int (show(n:Int)-((0:Nat):Int)-((0:Nat):Int)=(n:Int)from by omega))) ?_
 refine qso tb hJ [0,1,1001] [_,_] [_,_,_] ?_
 refine cj 2 (fun hb2=>?_) fun hb2=>?_
 try simp at hb2
 refine Zz (snK 2 tb rfl ?_)
 refine sq (.int (0:Nat)) rfl rfl (lb rfl) (fun _ _ h=>Zh8 ZO rfl (h.get 0 rfl) h.x) ?_
 refine sq (.lit (.slice none 0 0)) rfl rfl (lb rfl) (fun _ _ h=>ZnD ZK rfl (h.get 2 rfl) (h.get 0 rfl) h.x) ?_
 refine snK 1 tb rfl ?_
 refine Zqm (m:=n) ZdM XH hJ rfl rfl rfl (lb rfl) (by omega) (by omega) (by omega) (fun a w h=>⟨(h.get 1 rfl),(h.get 0 rfl)⟩) fun v1=>?_
 refine snK 1 tb rfl ?_
 refine sq (.int (0:Nat)) rfl rfl (lb rfl) (fun _ _ h=>Zh6 ZO rfl (h.get 0 rfl) h.x) ?_
 refine sq (.lit (ZaU v1 0)) rfl rfl (lb rfl) (fun _ _ h=>ZfK (m:=0) ZK rfl (Zd h.x (mo 0 rfl)) (by first | rfl | (rw[List.length_map];exact(rfl))) (h.get 2 rfl) (h.get 0 rfl) h.x) ?_
 refine snK 1 tb rfl ?_
 refine seK [0] [_] rfl ?_
 refine nx (qso tb hJ [1001] [_,_] [_] ?_)
 exact Zg (fun a w h=>ZS  (m:=0) (ZaU v1 0) rfl h rfl rfl)
 try simp at hb2
 refine Zc (nx (qso tb hJ [1001] [_,_] [_] ?_))
 refine tw (Yy 66 3 hJ) ?_
 exact Zg (fun a w h=>ZS  (m:=0) (.slice none 0 0) rfl h rfl rfl)
theorem ZfV {J:World→Prop} (hJ:Stab J) (ls:List (List Hy)) (b:ls.flatten.length*48≤140737488351232):Fn Tryz.prog J 57 [.rd (Zrf ls)] (.rd (XW ls.flatten)):=by
 refine Zw (N:=36) Tryz.func57 rfl rfl (lb rfl) fun S w0 hS hJ0=>?_
 refine tw Yn ?_
 refine ln 0 fun hl1=>?_
 refine qso tb hJ [0] [_] [_] ?_
 refine qso tb hJ [0,1000] [_] [_,_] ?_
 refine Zk (ZN tb hJ [0,1,1000,1001,1002] [_,.int (ls.length:Nat),_] [1] [_,_,_,_,_] rfl ⟨YK Zc3,trivial⟩ ?_)
 refine Zf (lpo (ι:=Nat×Nat) (fun(k,z)=>(k≤ls.length)∧(z=(ls.take k).flatten.length)) (fun(_,_)=>[]) (fun(k,z)=>[(11,.int (k:Nat)),(3,.int (z:Nat))]) (fun(k,_)=>ls.length-k) [0,2,3,4,1] [_,_,_] (0,0) ⟨Nat.zero_le _,by simp⟩ ?_)
 rintro⟨k,z⟩ ⟨f1_1,f1_2⟩
 refine qso tb hJ [0,1,2,3,4,1000] [_] [_,_,_,_,_,_] ?_
 refine cjS 5 (fun hb1=>?_) fun hb1=>?_
 try simp at hb1
 refine Zc (nx (Zk (Zf (ZN tb hJ [0,1,2,3,4,1001,1002] [.ptr [XW (ge ls k)],_,_] [0] [_,_,_,_,_,_,_] rfl ⟨iIx Qm,trivial⟩ ?_))))
 refine ln 5 fun hl2=>?_
 refine ZN tb hJ [0,1,2,3,1004] [_,_,.int ((ge ls k).length:Nat),.int (z+(ge ls k).length:Nat),_] [2,3] [_,_,_,_,_] rfl ⟨YK ZO,Yw (h0:=by have:=QP ls (k+1);rw[ZU (by omega)]at this;simp only[List.flatten_append,List.length_append,List.flatten_cons,List.flatten_nil,List.append_nil]at this;omega),trivial⟩ ?_
 refine qso tb hJ [0,1,2,3,4,1001] [_,_] [_,_,_,_,_,_] ?_
 refine cj 5 (fun hb2=>?_) fun hb2=>?_
 try simp at hb2
 exact False.elim (by omega)
 try simp at hb2
 refine Zc (nx (Y3 tb hJ [0,1,2,4,1001] [.int (k+1:Nat),_] [0] [_,_,_,_,_] rfl ⟨Yw,trivial⟩ ?_))
 exact XB (k+1,z+(ge ls k).length) [0,1,2,4,3] ⟨by omega,by rw[f1_2,ZU (by omega)];simp⟩
 try simp at hb1
 refine ZB (nx (tsq ?_))
 refine snK 1 tb rfl ?_
 refine Xt (O:=[]) (R:=[]) (ZqS hJ (n:=z) (by rw[f1_2];exact Nat.le_trans (Nat.mul_le_mul_right 48 (QP ls k)) b)) ZrH rfl rfl rfl (lb rfl) hS hJ0 Zs (fun a w h=>(Za (Rel.of_lit (Go.Value.slice none 0 0)) (Za (h.get 0 rfl) Ze))) fun z1=>?_
 refine snK 1 tb rfl ?_
 refine seK [0,3] [_,_] rfl ?_
 refine nx (Zk (ZN tb hJ [0,1000,1001,1002] [_,.int (ls.length:Nat),_] [1] [_,_,_,_] rfl ⟨YK Zc3,trivial⟩ ?_))
 refine Zf (lpo (ι:=Nat×Value×(List Hy)) (fun(k,_,out)=>(k≤ls.length)∧(out=(ls.take k).flatten)) (fun(_,vo,out)=>[OB.row vo 66 3 (out.map hyC)]) (fun(k,vo,_)=>[(27,.int (k:Nat)),(6,.lit vo)]) (fun(k,_,_)=>ls.length-k) [1,2,3,0] [_,_] (0,z1,([]:List Hy)) ⟨Nat.zero_le _,by simp⟩ ?_)
 rintro⟨k,vo,out⟩ ⟨f2_1,f2_2⟩
 refine qso tb hJ [0,1,2,3,1000] [_] [_,_,_,_,_] ?_
 refine cjS 4 (fun hb3=>?_) fun hb3=>?_
 try simp at hb3
 refine Zc (nx (Zk (Zf (ZN tb hJ [0,1,2,3,1001,1002] [.ptr [XW (ge ls k)],_,_] [0] [_,_,_,_,_,_] rfl ⟨iIx Qm,trivial⟩ ?_))))
 refine ln 4 fun hl3=>?_
 refine Zz (snK 2 tb rfl ?_)
 refine YE (f:=hyC) (m:=1) (s:=31) out (ge ls k) (fun _=>rfl) ZdM hJ hJ0 rfl rfl rfl (lb rfl) rfl rfl (fun a w h=>(h.get 0 rfl)) (by have:=QP ls (k+1);rw[ZU (by omega)]at this;simp only[List.flatten_append,List.length_append,List.flatten_cons,List.flatten_nil,List.append_nil]at this;rw[f2_2];omega) (by have:=QP ls (k+1);rw[ZU (by omega)]at this;simp only[List.flatten_append,List.length_append,List.flatten_cons,List.flatten_nil,List.append_nil]at this;rw[f2_2];omega) fun v2=>?_
 refine snK 1 tb rfl ?_
 refine seK [0,4,5,6] [_,_,_,_] rfl ?_
 refine nx (Y3 tb hJ [0,1,2,1001] [.int (k+1:Nat),_] [0] [_,_,_,_] rfl ⟨Yw,trivial⟩ ?_)
 exact XB (k+1,v2,out++(ge ls k)) [1,2,3,0] ⟨by omega,by rw[f2_2,ZU (by omega)];simp⟩
 try simp at hb3
 refine ZB (nx (qso tb hJ [1001] [_,_] [_] ?_))
 refine tw (fun h=>Yr hS h (m:=0) (s:=2) rfl) ?_
 exact Zg (Qt (m:=0) rfl rfl (congrArg (fun z=>AV.rd (XW z)) (show out=ls.flatten from by rw[f2_2,ZJ (by omega)])))
theorem ZnW {J:World→Prop} (hJ:Stab J) (M5:Nat) (T1:Nat) (tm:List (ByteArray×ByteArray)) (ts:List (ByteArray×ByteArray)) (hq:∀ q'∈ts.map (·.1),q'.size≤9223372036854775807):FnM (ι:= { q':List (ByteArray×ByteArray) // ∀ k',ZD q' k'=if(ZD ts k').isSome then ZD ts k' else ZD tm k' }) Tryz.prog J 67 [] [.lit (.map (some M5)),.lit (.map (some T1))] [OB.mT M5 tm,OB.mT T1 ts] (fun _=>.tup []) (fun i'=>[OB.mT M5 (i'.1),OB.mT T1 ts]):=by
 refine Ya (N:=16) Tryz.func67 rfl rfl (lb rfl) fun S w0 R hS hJ0 hH=>?_
 refine Z8 (B:=St All (SO S (OB.mT M5 tm::OB.mT T1 ts::R)) w0 16 [(0,.lit (.map (some M5))),(1,.lit (.map (some T1)))] (XO J S w0.heap.size (OB.mT M5 tm::OB.mT T1 ts::R))) ?_ fun a w h=>h
 refine tsq ?_
 refine snK 1 tb rfl ?_
 refine kw pm1 ?_
 refine Znm (Kd:=keyS) (f:=(fun z':ByteArray=>AV.str z')) (L:=ts) ZgU hJ hJ0 rfl rfl rfl (lb rfl) (fun a w h=>(h.get 0 rfl)) fun b1=>?_
 refine seK [0,2] [_,_] rfl ?_
 refine nx (Zf (lpo (ι:=(List ByteArray)×(List (ByteArray×ByteArray))) (fun(vis,tn)=>(∀ q',ZD tn q'=if q'∈vis then ZD ts q' else ZD tm q')∧(vis.Nodup)∧(∀ q'∈vis,q'∈ts.map (·.1))) (fun(vis,tn)=>(OB.iter b1 keyS (fun z':ByteArray=>AV.str z') T1 ts vis::OB.mT M5 tn::R)) (fun(_,_)=>[]) (fun(vis,_)=>ts.length-vis.length) [0,1] [_,_] (([]:List ByteArray),tm) ⟨fun q'=>by simp,by simp,fun q' h=>by simp at h⟩ ?_))
 rintro⟨vis,tn⟩ ⟨f1_1,f1_2,f1_3⟩
 refine tsq ?_
 refine Zqo (Kd:=keyS) (f:=(fun z':ByteArray=>AV.str z')) (L:=ts) (vis:=vis) (fun k' hk'=>hq k' hk') hJ hJ0 rfl rfl rfl (lb rfl) (fun a w h=>(h.get 0 rfl)) fun z2 h0z2 h1z2=>?_
 refine sq (.bool z2.1) rfl rfl (lb rfl) (fun _ _ h=>YW rfl (h.get 0 rfl) rfl h.x) ?_
 refine seK [0,2,3] [_,_,_] rfl ?_
 refine nx (cjS 0 (fun hb1=>?_) fun hb1=>?_)
 refine tw (ob0 (congrArg (fun z'=>OB.iter b1 keyS (fun z':ByteArray=>AV.str z') T1 ts (z')) (show(if z2.1 then vis++[z2.2]else vis)=(vis++[z2.2])from by rw[hb1];rfl))) ?_
 refine Zc (nx (Zf (ZN tb hJ [1,2,1003,1004] [.tup [.str z2.2,.str ((ZD ts z2.2).getD default)],_,_,_,_] [0] [_,_,_,_] rfl ⟨fun _ _ _ hx hl _=>ZqA (Kd:=keyS) (f:=(fun z':ByteArray=>AV.str z')) (L:=ts) (k:=z2.2) rfl (Zd hx (mo 0 rfl)) (hq z2.2 (by have:=(h1z2 hb1).2;rw[XA]at this;simpa using this)) (hl.env 1 7 _ rfl rfl) hx,trivial⟩ ?_)))
 refine Zz (snK 3 tb rfl ?_)
 refine kw pm1 ?_
 refine ZkA (f:=(fun z':ByteArray=>AV.str z')) Zal hJ hJ0 z2.2 ((ZD ts z2.2).getD default) rfl rfl (.inl rfl) (fun a w h=>⟨(h.get 2 rfl),(h.get 1 rfl),(h.get 0 rfl)⟩) ?_
 refine seK [3,4] [_,_] rfl ?_
 refine kw pm1 ?_
 exact XB (vis++[z2.2],QY tn z2.2 ((ZD ts z2.2).getD default)) [0,1] ⟨Zme f1_1 (h1z2 hb1),by rw[List.nodup_append];exact⟨f1_2,by simp,fun x hx y hy e=>by rw[List.mem_singleton.1 hy]at e;subst e;exact(h1z2 hb1).1 hx⟩,fun q' hq'=>by rcases List.mem_append.1 hq' with h | h;exact f1_3 q' h;rw[List.mem_singleton.1 h];have:=(h1z2 hb1).2;rw[XA]at this;simpa using this⟩ (hm:=(show ts.length-(vis++[z2.2]).length<ts.length-vis.length from Zmf f1_2 f1_3 (h1z2 hb1)))
 refine tw (ob0 (congrArg (fun z'=>OB.iter b1 keyS (fun z':ByteArray=>AV.str z') T1 ts (z')) (show(if z2.1 then vis++[z2.2]else vis)=vis from by rw[hb1];rfl))) ?_
 refine ZB (kw Zja ?_)
 refine kw pm1 ?_
 exact fun a w h=>XC  ⟨tn,by intro k';rw[f1_1];by_cases hk9:(ZD ts k').isSome=true;(rw[if_pos hk9,if_pos (h0z2 hb1 k' hk9)]);(rw[if_neg hk9];by_cases hv9:k'∈vis;(exact absurd (by rw[XA];simpa using f1_3 k' hv9) hk9);rw[if_neg hv9])⟩ rfl h rfl
end Go.Proofs.YtdgbcfloaenhbaaGreatDoor
namespace Go.Proofs.YtdgbcfloaenhbaaGreatDoor
abbrev alH (f:Fr):List Hy:=f.hyps++f.dummies
def lsK (l:List Hy):List ByteArray:=l.foldl (fun s h=>X6 s h.label) []
def tsK (l:List Hy):List (ByteArray×ByteArray):=l.foldl (fun t h=>if h.floating then QY t (ge h.text 1) (ge h.text 0)else t) []
def hmK (hm:List (ByteArray×Hy)) (l:List Hy):List (ByteArray×Hy):=l.foldl (fun m h=>QY m h.label h) hm
def hyK (cs vs fs:List ByteArray) (hm:List (ByteArray×Hy)) (tm:List (ByteArray×ByteArray)) (f:Fr) (i:Nat):Int:=
 ZeZ cs vs (X6 fs f.label) hm tm (lsK ((alH f).take i)) (tsK ((alH f).take i)) (ge (alH f) i) (decide (((f.hyps.length:Nat):Int)≤((i:Nat):Int)))
def Zsy (f:Fr):Bool:=decide ((0:Int)< ((f.proof.length:Nat):Int))&& ((!f.thm||decide ((8000:Int)< ((f.proof.length:Nat):Int)))||f.proof.any fun s=>!XR s)
def Zdt (cs vs fs:List ByteArray) (hm:List (ByteArray×Hy)) (tm:List (ByteArray×ByteArray)) (f:Fr) (bf:List Hy):Int:=
 if !QN f.label then 2 else if((ZD hm f.label).isSome|| (decide (f.label∈cs)||decide (f.label∈vs)))||decide (f.label∈fs)then 6
 else if decide ((40:Int)< ((f.hyps.length:Nat):Int))||decide ((40:Int)< ((f.dummies.length:Nat):Int))then 4
 else if !decide (Xo (alH f).length (hyK cs vs fs hm tm f)=0)then Xo (alH f).length (hyK cs vs fs hm tm f)
 else if !decide (Zi5 cs vs f.text=0)then Zi5 cs vs f.text
 else if !decide (ZdW vs f=0)then ZdW vs f
 else if Zsy f then 2
 else if((Qf f.hyps).drop (Ze4 (bf.map Hy.label) ((Qf f.hyps).map Hy.label))).any fun y=>(ZD hm y.label).isSome then 7 else 0
theorem Zgi {cs vs fs:List ByteArray} {hm:List (ByteArray×Hy)} {tm:List (ByteArray×ByteArray)} {ls:List ByteArray} {ts:List (ByteArray×ByteArray)} {y:Hy} {dm:Bool} (h:ZeZ cs vs fs hm tm ls ts y dm=0):Q1 y dm=false:=by
 cases hf:Q1 y dm with
 | false=>rfl
 | true=>simp[ZeZ,hf]at h
theorem ZlX {y:Hy} {dm:Bool} (h:Q1 y dm=false):y.text.length≤200:=by
 cases hf:y.floating with
 | true=>have:=Yv h hf;omega
 | false=>simp[Q1,hf]at h;omega
theorem ZeU (l:List Hy) (y:Hy):lsK (l++[y])=X6 (lsK l) y.label:=by simp[lsK]
theorem ZbC (l:List Hy) (y:Hy):tsK (l++[y])=if y.floating then QY (tsK l) (ge y.text 1) (ge y.text 0)else tsK l:=by simp[tsK]
theorem Zoq (hm:List (ByteArray×Hy)) (l:List Hy) (y:Hy):hmK hm (l++[y])=QY (hmK hm l) y.label y:=by simp[hmK]
theorem Zng:∀(l:List Hy),(∀ y∈l,y.floating=true→y.text.length=2)→(∀ y∈l,∀ s∈y.text,s.size≤9223372036854775807)→∀ q∈(tsK l).map (·.1),q.size≤9223372036854775807:=by
 intro l
 rw[←List.reverse_reverse l]
 induction l.reverse with
 | nil=>simp[tsK]
 | cons y m ih=>
  intro h1 h2 q hq
  rw[List.reverse_cons]at h1 h2 hq
  rw[ZbC]at hq
  have ih':=ih (fun z hz=>h1 z (by simp at hz ⊢;exact .inl hz)) (fun z hz=>h2 z (by simp at hz ⊢;exact .inl hz))
  by_cases hf:y.floating=true
  · rw[if_pos hf,Zlv]at hq
    split at hq
    · exact ih' q hq
    · rcases List.mem_append.1 hq with h | h
      · exact ih' q h
      · rw[List.mem_singleton.1 h]
        exact h2 y (by simp) _ (ZM (by have:=h1 y (by simp) hf;omega))
  · rw[if_neg hf]at hq;exact ih' q hq
def ZoB (tm ts:List (ByteArray×ByteArray)):List (ByteArray×ByteArray):=ts.foldr (fun p m=>QY m p.1 p.2) tm
theorem Zgv (tm:List (ByteArray×ByteArray)):∀(ts:List (ByteArray×ByteArray)) (k:ByteArray),ZD (ZoB tm ts) k=if(ZD ts k).isSome then ZD ts k else ZD tm k
 | [],k=>by simp[ZoB,Qk]
 | p::ts,k=>by
  have ih:=Zgv tm ts k
  simp only[ZoB,List.foldr_cons,Za6,Xv]at ih ⊢
  by_cases h:k=p.1
  · simp[h]
  · simp only[if_neg h];exact ih
end Go.Proofs.YtdgbcfloaenhbaaGreatDoor
set_option maxHeartbeats 8000000
set_option maxRecDepth 100000
namespace Go.Proofs.YtdgbcfloaenhbaaGreatDoor
open Go.RowKit
theorem ZqN {J:World→Prop} (hJ:Stab J) (M1:Nat) (M2:Nat) (M3:Nat) (M4:Nat) (M5:Nat) (cs:List ByteArray) (vs:List ByteArray) (fs:List ByteArray) (hm:List (ByteArray×Hy)) (tm:List (ByteArray×ByteArray)) (f:Fr) (bf:List Hy) (hw:f.wide.length*32≤140737488351232) (hG:Zab J):FnM (ι:= { q':List ByteArray×List (ByteArray×Hy)×List (ByteArray×ByteArray) // Zdt cs vs fs hm tm f bf=0→q'.1=X6 fs f.label∧q'.2.1=hmK hm (alH f)∧∀ k',ZD q'.2.2 k'=if(ZD (tsK (alH f)) k').isSome then ZD (tsK (alH f)) k' else ZD tm k' }) Tryz.prog J 47 [] [.ptr (mpC [M1,M2,M3,M4,M5]),.agg (frC f),.rd (XW bf)] [OB.set keyS M1 cs,OB.set keyS M2 vs,OB.set keyS M3 fs,OB.mH M4 hm,OB.mT M5 tm] (fun _=>.int (Zdt cs vs fs hm tm f bf)) (fun i'=>[OB.set keyS M1 cs,OB.set keyS M2 vs,OB.set keyS M3 (i'.1.1),OB.mH M4 (i'.1.2.1),OB.mT M5 (i'.1.2.2)]):=by
 refine Ya (N:=183) Tryz.func47 rfl rfl (lb rfl) fun S w0 R hS hJ0 hH=>?_
 refine Z8 (B:=St All (SO S (OB.set keyS M1 cs::OB.set keyS M2 vs::OB.set keyS M3 fs::OB.mH M4 hm::OB.mT M5 tm::R)) w0 183 [(0,.ptr (mpC [M1,M2,M3,M4,M5])),(1,.agg (frC f)),(2,.rd (XW bf))] (XO J S w0.heap.size (OB.set keyS M1 cs::OB.set keyS M2 vs::OB.set keyS M3 fs::OB.mH M4 hm::OB.mT M5 tm::R))) ?_ fun a w h=>h
 refine ln 2 fun hl1=>?_
 refine ZgW (fun a w h=>Zor (h.get 1 rfl)) fun hsm=>?_
 refine ZN tb hJ [2,1000,1001] [.ptr [.ptr (mpC [M1,M2,M3,M4,M5])],.ptr (frC f),_] [0,1] [_,_,_] rfl ⟨fun _ _ hk hx hl _=>ZkS rfl (hl.env 0 0 _ rfl rfl) (Zq hS _ hk hx _ (Nat.le_refl _)) (jo hJ hx),fun _ _ hk hx hl _=>Xb rfl (hl.env 1 1 _ rfl rfl) (Zq hS _ hk hx _ (Nat.le_refl _)) (jo hJ hx),trivial⟩ ?_
 refine Zk (ZN tb hJ [0,1,2,1003] [_,_,.bool (QN f.label),_] [2] [_,_,_,_] rfl ⟨iFo hS hJ (ZbM hJ (s:=f.label) ) Ze9,trivial⟩ ?_)
 refine cj 3 (fun hb1=>?_) fun hb1=>?_
 ·
  have e9:Zdt cs vs fs hm tm f bf=2:=by rw[Zdt,if_pos hb1]
  refine qso tb hJ [1000] [_] [_] ?_
  exact Zg (fun a w h=>ZS  (m:=0) ⟨(fs,hm,tm),by first | (intro h9;rw[e9]at h9;exact absurd h9 (by first | decide | exact nz)) | (intro _;exact⟨rfl,by rw[f2_2,ZJ (by omega)],fun k'=>by rw[NOGHOST.2 k',e3]⟩)⟩ rfl h rfl (eI (e9.symm)))
 ·
  refine Zc (nx (Zk (Zk (fun a w h=>YG (γ:=Nat) (fun ix'=>([.ptr (mpC [M1,M2,M3,M4,M5]),.ptr (mpC [M1,M2,M3,M4,M5]),.ptr (mpC [M4,M5]),.lit (.map (some M4)),.ptr (frC f),.str f.label,.tup [.agg (hyC ((ZD hm f.label).getD default)),.bool ((ZD hm f.label).isSome)],.tup [.agg (hyC ((ZD hm f.label).getD default)),.bool ((ZD hm f.label).isSome)],.agg (hyC ((ZD hm f.label).getD default)),.bool ((ZD hm f.label).isSome),.any,.any,.bool ((ZD hm f.label).isSome)]:List AV).getD ix' .any) (fun ix'=>([true,true,true,true,true,true,true,true,true,true,true,true,true]:List Bool).getD ix' true) [(2,fun(g:Nat)=>.rd (XW bf)),(3,fun(g:Nat)=>.ptr [.ptr (mpC [M1,M2,M3,M4,M5])]),(4,fun(g:Nat)=>.ptr (frC f)),(8,fun(g:Nat)=>.bool ((ZD hm f.label).isSome))] (fun(j':Nat) (g:Nat)=>match j' with | 0=>(OB.set keyS M1 cs::OB.set keyS M2 vs::OB.set keyS M3 fs::OB.mH M4 hm::OB.mT M5 tm::R) | 1=>(OB.var g [.lit (.string (⟨#[]⟩:ByteArray)),.lit (.bool false),Zb ([]:List ByteArray)]::OB.set keyS M1 cs::OB.set keyS M2 vs::OB.set keyS M3 fs::OB.mH M4 hm::OB.mT M5 tm::R) | _=>(OB.var g [.lit (.string (((ZD hm f.label).getD default).label)),.lit (.bool (((ZD hm f.label).getD default).floating)),Zb (((ZD hm f.label).getD default).text)]::OB.set keyS M1 cs::OB.set keyS M2 vs::OB.set keyS M3 fs::OB.mH M4 hm::OB.mT M5 tm::R)) (fun(k':Nat) (g:Nat)=>match k' with | 0=>(.pointer (some ⟨g,0,none⟩)) | 1=>undef | _=>undef) [10,11] 2 0 (fun _=>rfl) h hJ Yl rfl rfl rfl rfl rfl rfl (fun j' g hj p hp=>by rcases j' with _ | _ | _ | j'<;>first | exact hp | exact List.mem_cons_of_mem _ hp | exact List.mem_cons_of_mem _ (List.mem_cons_of_mem _ hp) | (exfalso;omega)) ⟨?o3_1_0,⟨?o3_1_1,⟨?o3_1_2,⟨?o3_1_3,⟨?o3_1_4,⟨?o3_1_5,⟨?o3_1_6,⟨?o3_1_7,⟨?o3_1_8,⟨?o3_1_9,⟨?o3_1_10,⟨?o3_1_11,⟨?o3_1_12,trivial⟩⟩⟩⟩⟩⟩⟩⟩⟩⟩⟩⟩⟩ ⟨?e3_1_0,⟨?e3_1_1,trivial⟩⟩ ⟨.old 0 2 _ rfl rfl,⟨.old 1 3 _ rfl rfl,⟨.old 2 4 _ rfl rfl,⟨.new 12 8 _ rfl rfl rfl,trivial⟩⟩⟩⟩ ?n3_1))))
  exact oX rfl fun hx hl=>ZbH ZfZ rfl (hl.env 1 3 _ rfl rfl) hx
  exact oX rfl fun hx hl=>Y2 rfl (hl.D 0 24 rfl rfl) hx
  exact oX rfl fun hx hl=>ZX Q3 rfl (hl.D 1 25 rfl rfl) hx
  exact oX rfl fun hx hl=>ZA ZfY rfl (hl.D 2 26 rfl rfl) hx
  exact oX rfl fun hx hl=>ZX Zcf rfl (hl.env 2 4 _ rfl rfl) hx
  exact oX rfl fun hx hl=>ZA QX rfl (hl.D 4 28 rfl rfl) hx
  exact fun _ O' hO'=>⟨rfl,fun _ _ _ hx hl _=>XQ (Kd:=keyS) (f:=(fun z':Hy=>AV.agg (hyC z'))) (L:=hm) X9 Zac f.label rfl (Zd hx (hO' _ (mo 3 rfl))) (hl.D 3 27 rfl rfl) (hl.D 5 29 rfl rfl) hx⟩
  exact oX rfl fun hx hl=>YA rfl (hl.D 6 30 rfl rfl) hx
  exact oX rfl fun hx hl=>YW rfl (hl.D 7 23 rfl rfl) rfl hx
  exact oX rfl fun hx hl=>YW rfl (hl.D 7 23 rfl rfl) rfl hx
  exact Zm rfl
  exact Zm rfl
  exact oX rfl fun hx hl=>Xy rfl (hl.D 9 32 rfl rfl) hx
  case e3_1_0=>exact⟨_,rfl,rfl,rfl,rfl,fun g _ w hk hx _ _=>Zr (Zbw Yz hJ rfl hk hx) fun v w' ⟨g',hv,hp⟩=>⟨g',rfl,fun k' hk'=>absurd hk' (Nat.not_lt_zero _),fun _=>hv,hp⟩⟩
  case e3_1_1=>exact⟨_,rfl,rfl,rfl,rfl,fun g _ w hk hx hl hs=>(by obtain⟨us2,hv2,hr3⟩:=Zai (cs:=[.lit (.string (((ZD hm f.label).getD default).label)),.lit (.bool (((ZD hm f.label).getD default).floating)),Zb (((ZD hm f.label).getD default).text)]) (hl.D 8 31 rfl rfl);exact Zr (Xn (S':=S) (off:=0) (cs:=[.lit (.string (⟨#[]⟩:ByteArray)),.lit (.bool false),Zb ([]:List ByteArray)]) (news:=[.lit (.string (((ZD hm f.label).getD default).label)),.lit (.bool (((ZD hm f.label).getD default).floating)),Zb (((ZD hm f.label).getD default).text)]) (es:=[.lit (.string (((ZD hm f.label).getD default).label)),.lit (.bool (((ZD hm f.label).getD default).floating)),Zb (((ZD hm f.label).getD default).text)]) (us:=us2) hJ hJ0 YO rfl hk hx (Zdc (hs 0 10 _ 7 (by omega) rfl rfl rfl)) (by rw[hv2];rfl) hr3 (lb rfl) rfl) fun v w' hp=>⟨g,rfl,fun _ _=>rfl,fun e=>(by cases e),hp⟩)⟩
  clear a w h
  intro b1
  dsimp only[List.map]
  refine kw Zy ?_
  refine nx (ZN tb hJ [0,1,2,1015] [_,_,_,_,_,.bool (decide (f.label∈cs)||decide (f.label∈vs)),_,_,_,_,_,_,_,_,.bool (decide (f.label∈fs)),_] [5,14] [_,_,_,_] rfl ⟨fun _ _ hk hx hl hc=>Xj (Za2 hJ (M1:=M1) (M2:=M2) (M3:=M3) (M4:=M4) (M5:=M5) (cs:=cs) (vs:=vs) (s:=f.label) ) Ze8 rfl (Zq hS _ hk hx) (hx.1) (ZH (Zd hx (mo 0 rfl)) (ZH (Zd hx (mo 1 rfl)) Zs)) (Za (hl.D 2 35 rfl hc) (Za (hl.D 4 37 rfl hc) Ze)) (jo hJ hx),fun _ _ _ hx hl hc=>Yj (Kd:=keyS) (xs:=fs) ZR ZY f.label rfl (Zd hx (mo 2 rfl)) (hl.D 11 44 rfl hc) (hl.D 13 46 rfl hc) hx,trivial⟩ ?_)
  refine cj 3 (fun hb2=>?_) fun hb2=>?_
  ·
   have e9:Zdt cs vs fs hm tm f bf=6:=by rw[Zdt,if_neg (by rw[hb1];decide),if_pos hb2]
   refine qso tb hJ [1000] [_] [_] ?_
   exact Zg (fun a w h=>ZS  (m:=0) ⟨(fs,hm,tm),by first | (intro h9;rw[e9]at h9;exact absurd h9 (by first | decide | exact nz)) | (intro _;exact⟨rfl,by rw[f2_2,ZJ (by omega)],fun k'=>by rw[NOGHOST.2 k',e3]⟩)⟩ rfl h rfl (eI (e9.symm)))
  ·
   refine Zc (nx (Zk (ZN tb hJ [0,1,2,1001,1009] [_,_,.int (f.hyps.length:Nat),_,_,_,_,.int (f.dummies.length:Nat),_,_] [2,7] [_,_,_,_,_] rfl ⟨YK ZO,YK ZO,trivial⟩ ?_)))
   refine ln 3 fun hl2=>?_
   refine cj 4 (fun hb3=>?_) fun hb3=>?_
   ·
    have e9:Zdt cs vs fs hm tm f bf=4:=by rw[Zdt,if_neg (by rw[hb1];decide),if_neg (by rw[hb2];decide),if_pos hb3]
    refine qso tb hJ [1000] [_] [_] ?_
    exact Zg (fun a w h=>ZS  (m:=0) ⟨(fs,hm,tm),by first | (intro h9;rw[e9]at h9;exact absurd h9 (by first | decide | exact nz)) | (intro _;exact⟨rfl,by rw[f2_2,ZJ (by omega)],fun k'=>by rw[NOGHOST.2 k',e3]⟩)⟩ rfl h rfl (eI (e9.symm)))
   ·
    have hb3a:f.hyps.length≤40∧f.dummies.length≤40:=by simp at hb3;omega
    refine Zc (nx (tw pm2 ?_))
    refine Zk (fun a w h=>YG (γ:=Unit) (fun ix'=>([.ptr (mpC [M1,M2,M3,M4,M5]),.ptr (mpC [M1,M2,M3,M4,M5]),.ptr (mpC [M3,M4,M5]),.lit (.map (some M3)),.ptr (frC f),.str f.label,.any]:List AV).getD ix' .any) (fun ix'=>([true,true,true,true,true,true,true]:List Bool).getD ix' true) [(2,fun(g:Unit)=>.rd (XW bf)),(3,fun(g:Unit)=>.ptr [.ptr (mpC [M1,M2,M3,M4,M5])]),(4,fun(g:Unit)=>.ptr (frC f))] (fun(j':Nat) (g:Unit)=>match j' with | 0=>(OB.set keyS M3 fs::OB.set keyS M1 cs::OB.set keyS M2 vs::OB.mH M4 hm::OB.mT M5 tm::R) | _=>(OB.set keyS M3 (X6 fs f.label)::OB.set keyS M1 cs::OB.set keyS M2 vs::OB.mH M4 hm::OB.mT M5 tm::R)) (fun(k':Nat) (g:Unit)=>match k' with | 0=>undef | _=>undef) [6] 0 () (fun _=>rfl) h hJ Yl rfl rfl rfl rfl rfl rfl (fun j' g hj p hp=>by rcases j' with _ | _ | _ | j'<;>first | exact hp | exact List.mem_cons_of_mem _ hp | exact List.mem_cons_of_mem _ (List.mem_cons_of_mem _ hp) | (exfalso;omega)) ⟨?o8_2_0,⟨?o8_2_1,⟨?o8_2_2,⟨?o8_2_3,⟨?o8_2_4,⟨?o8_2_5,⟨?o8_2_6,trivial⟩⟩⟩⟩⟩⟩⟩ ⟨?e8_2_0,trivial⟩ ⟨.old 0 2 _ rfl rfl,⟨.old 1 3 _ rfl rfl,⟨.old 2 4 _ rfl rfl,trivial⟩⟩⟩ ?n8_2)
    exact oX rfl fun hx hl=>ZbH ZfZ rfl (hl.env 1 3 _ rfl rfl) hx
    exact oX rfl fun hx hl=>Y2 rfl (hl.D 0 59 rfl rfl) hx
    exact oX rfl fun hx hl=>ZX ZjJ rfl (hl.D 1 60 rfl rfl) hx
    exact oX rfl fun hx hl=>ZA ZpA rfl (hl.D 2 61 rfl rfl) hx
    exact oX rfl fun hx hl=>ZX Zcf rfl (hl.env 2 4 _ rfl rfl) hx
    exact oX rfl fun hx hl=>ZA QX rfl (hl.D 4 63 rfl rfl) hx
    exact Zm rfl
    case e8_2_0=>exact⟨_,rfl,rfl,rfl,rfl,fun g _ w hk hx hl _=>Zr (d_putS ZR hJ hJ0 f.label (.inl rfl) hk hx (hl.D 3 62 rfl rfl) (hl.D 5 64 rfl rfl) (Rel.of_lit (Go.Value.bool true))) fun v w' ⟨_,hp⟩=>⟨g,rfl,fun _ _=>rfl,fun e=>(by cases e),hp⟩⟩
    clear a w h
    intro _
    dsimp only[List.map]
    refine nx (tsq ?_)
    refine ZaE keyS hJ rfl rfl rfl (lb rfl) fun m2=>?_
    refine Zfz keyS (fun z':ByteArray=>AV.str z') hJ rfl rfl rfl (lb rfl) fun m3=>?_
    refine sq (.agg [.lit (.map (some m2)),.lit (.map (some m3))]) rfl rfl (lb rfl) (fun a _ h=>Qd (us:=[a.eval (Go.Operand.tmp 65),a.eval (Go.Operand.tmp 66)]) ZhA rfl (by simp) (Zj (h.get 1 rfl) (Zj (h.get 0 rfl) ZI)) rfl h.x) ?_
    refine ZV ZgT hJ rfl rfl rfl (lb rfl) fun b4=>?_
    refine ZF (b:=b4) (off:=0) (cs:=[.lit (.map none),.lit (.map none)]) (es:=[.lit (.map (some m2)),.lit (.map (some m3))]) (news:=[.lit (.map (some m2)),.lit (.map (some m3))]) hJ hJ0 Zje rfl rfl rfl (lb rfl) rfl (fun a w h=>⟨(h.get 0 rfl),(h.get 1 rfl)⟩) ?_
    refine kw (fun h=>Ys hS h (m:=0) (s:=9) rfl) ?_
    refine seK [0,4,5,6] [_,_,_,_] rfl ?_
    refine nx (Zk (Zk (Y3 tb hJ [0,1,2,3,1003,1004,1005,1006,1007] [_,_,_,_,.rd (Zrf ([f.hyps,f.dummies]:List (List Hy))),.rd (XW (([f.hyps,f.dummies]:List (List Hy)).flatten)),.int ((([f.hyps,f.dummies]:List (List Hy)).flatten).length:Nat),_] [4,5,6] [_,_,_,_,_,_,_,_,_] rfl ⟨fun a _ hk hx hl _=>Y8 (k:=2) (us:=[a.eval (Go.Operand.tmp 69),a.eval (Go.Operand.tmp 71)]) Qm Zd6 rfl (by simp) (Zj (hl.D 1 69 rfl rfl) (Zj (hl.D 3 71 rfl rfl) ZI)) rfl (by decide) (by decide) (Zq hS _ hk hx _ (Nat.le_refl _)) (jo hJ hx),iFo hS hJ (ZfV hJ (ls:=([f.hyps,f.dummies]:List (List Hy))) (by refine ZgY ?_;simp;omega)) Zmy,YK ZO,trivial⟩ ?_)))
    refine kw (sa 6 rfl (congrArg (fun z'=>AV.rd (XW z')) (show(([f.hyps,f.dummies]:List (List Hy)).flatten)=(alH f)from by simp))) ?_
    refine kw (sa 7 rfl (congrArg AV.int (show(((([f.hyps,f.dummies]:List (List Hy)).flatten).length:Nat):Int)=(((alH f).length:Nat):Int)from by simp))) ?_
    refine nx (ln 4 fun hl3=>?_)
    refine ln 5 fun hl4=>?_
    refine ln 6 fun hl5=>?_
    refine Zf (lpo (ι:=Nat×(List ByteArray)×(List (ByteArray×ByteArray))) (fun(k,ls,ts)=>(k≤(alH f).length)∧(ls=lsK ((alH f).take k))∧(ts=tsK ((alH f).take k))∧(∀ j,j<k→hyK cs vs fs hm tm f j=0)) (fun(_,ls,ts)=>(OB.mT m3 ts::OB.set keyS m2 ls::OB.set keyS M3 (X6 fs f.label)::OB.set keyS M1 cs::OB.set keyS M2 vs::OB.mH M4 hm::OB.mT M5 tm::R)) (fun(k,_,_)=>[(75,.int (k:Nat))]) (fun(k,_,_)=>(alH f).length-k) [0,1,2,3,6,7,8] [_,_,_,_,_,_] (0,([]:List ByteArray),([]:List (ByteArray×ByteArray))) ⟨Nat.zero_le _,rfl,rfl,fun j hj=>by omega⟩ ?_)
    rintro⟨k,ls,ts⟩ ⟨f1_1,f1_2,f1_3,f1_4⟩
    refine qso tb hJ [0,1,2,3,4,5,6,1000] [_] [_,_,_,_,_,_,_,_] ?_
    refine cjS 7 (fun hb4=>?_) fun hb4=>?_
    ·
     have hk4:k< (alH f).length:=Int.ofNat_lt.1 (of_decide_eq_true hb4)
     refine Zc (nx (Zk (Zf (tsq ?_))))
     refine snK 1 tb rfl ?_
     refine sq (.ptr (hyC (ge (alH f) k))) rfl rfl (lb rfl) (fun _ _ h=>Yg (i:=(k:Int)) ZK rfl (h.get 5 rfl) (h.get 7 rfl) (Int.natCast_nonneg _) (Yu (xs:=alH f) (k:=k) sfz) rfl h.x) ?_
     refine snK 1 tb rfl ?_
     refine ZV Yz hJ rfl rfl rfl (lb rfl) fun b5=>?_
     refine snK 1 tb rfl ?_
     refine ZF (b:=b5) (off:=0) (cs:=[.lit (.string (⟨#[]⟩:ByteArray)),.lit (.bool false),Zb ([]:List ByteArray)]) (es:=[.lit (.string ((ge (alH f) k).label)),.lit (.bool ((ge (alH f) k).floating)),Zb ((ge (alH f) k).text)]) (news:=[.lit (.string ((ge (alH f) k).label)),.lit (.bool ((ge (alH f) k).floating)),Zb ((ge (alH f) k).text)]) hJ hJ0 YO rfl rfl rfl (lb rfl) rfl (fun a w h=>⟨(h.get 1 rfl),(h.get 2 rfl)⟩) ?_
     refine kw (fun h=>Ys hS h (m:=1) (s:=11) rfl) ?_
     refine seK [0,1,5,6,7,8,9,10,11] [_,_,_,_,_,_,_,_,_] rfl ?_
     refine nx (Zk (ZN tb hJ [0,2,3,4,5,6,7,8,1009] [_,_,_,_,_,_,.int (f.hyps.length:Nat),_,.int (ZeZ cs vs (X6 fs f.label) hm tm ls ts (ge (alH f) k) (decide ((f.hyps.length:Int)≤(k:Int)))),_] [6,8] [_,_,_,_,_,_,_,_,_] rfl ⟨YK ZO,fun _ _ hk hx hl _=>Xj (p_hyp hJ (M1:=M1) (M2:=M2) (M3:=M3) (M4:=M4) (M5:=M5) (L1:=m2) (T1:=m3) (cs:=cs) (vs:=vs) (fs:=(X6 fs f.label)) (hm:=hm) (tm:=tm) (ls:=ls) (ts:=ts) (y:=(ge (alH f) k)) (dm:=(decide ((f.hyps.length:Int)≤(k:Int)))) ) ZrU rfl (Zq hS _ hk hx) (hx.1) (ZH (Zd hx (mo 3 rfl)) (ZH (Zd hx (mo 4 rfl)) (ZH (Zd hx (mo 2 rfl)) (ZH (Zd hx (mo 5 rfl)) (ZH (Zd hx (mo 6 rfl)) (ZH (Zd hx (mo 1 rfl)) (ZH (Zd hx (mo 0 rfl)) Zs))))))) (Za (hl.D 0 80 rfl rfl) (Za (hl.D 1 81 rfl rfl) (Za (hl.D 2 82 rfl rfl) (Za (hl.D 7 87 rfl rfl) Ze)))) (jo hJ hx),trivial⟩ ?_))
     refine qso tb hJ [0,1,2,3,4,5,6,7,8,1001] [_,_] [_,_,_,_,_,_,_,_,_,_] ?_
     refine cj 9 (fun hb5=>?_) fun hb5=>?_
     ·
      have nz:=ZqZ hb5
      have e0:hyK cs vs fs hm tm f k=ZeZ cs vs (X6 fs f.label) hm tm ls ts (ge (alH f) k) (decide ((f.hyps.length:Int)≤(k:Int))):=by rw[hyK,←f1_2,←f1_3]
      have e5:Xo (alH f).length (hyK cs vs fs hm tm f)=hyK cs vs fs hm tm f k:=Qq (by omega) f1_4 (by rw[e0];exact nz)
      have e9:Zdt cs vs fs hm tm f bf=ZeZ cs vs (X6 fs f.label) hm tm ls ts (ge (alH f) k) (decide ((f.hyps.length:Int)≤(k:Int))):=by rw[Zdt,if_neg (by rw[hb1];decide),if_neg (by rw[hb2];decide),if_neg (by rw[hb3];decide),if_pos (by rw[e5,e0];exact hb5),e5,e0]
      refine qso tb hJ [1001] [_,_] [_] ?_
      refine tw Zy ?_
      refine tw Zy ?_
      refine tw pm4 ?_
      refine tw pm4 ?_
      refine tw pm2 ?_
      refine tw pm4 ?_
      refine tw pm4 ?_
      exact Zg (fun a w h=>ZS  (m:=0) ⟨((X6 fs f.label),hm,tm),by first | (intro h9;rw[e9]at h9;exact absurd h9 (by first | decide | exact nz)) | (intro _;exact⟨rfl,by rw[f2_2,ZJ (by omega)],fun k'=>by rw[NOGHOST.2 k',e3]⟩)⟩ rfl h rfl (eI (e9.symm)))
     ·
      have q5:=Zq0 hb5
      have hf5:=Zgi q5
      refine Zc (nx (tsq ?_))
      refine snK 4 tb rfl ?_
      refine kw pm1 ?_
      refine Zbo ZR hJ hJ0 ((ge (alH f) k).label) rfl rfl (.inl rfl) (fun a w h=>⟨(h.get 2 rfl),(h.get 0 rfl),(Rel.of_lit (Go.Value.bool true))⟩) ?_
      refine seK [4,5,6,7,8,9,10,11] [_,_,_,_,_,_,_,_] rfl ?_
      refine nx (qso tb hJ [0,1,2,3,4,5,6,7,1001] [_,_] [_,_,_,_,_,_,_,_,_] ?_)
      refine cj 8 (fun hb6=>?_) fun hb6=>?_
      ·
       try simp at hb6
       refine tw pm1 ?_
       refine fun a w h=>YG (γ:=Unit) (fun ix'=>([.ptr [.lit (.map (some m3))],.lit (.map (some m3)),.ptr [Zb ((ge (alH f) k).text)],.rd (Zb ((ge (alH f) k).text)),.ptr [.lit (.string (ge ((ge (alH f) k).text) 1))],.str (ge ((ge (alH f) k).text) 1),.ptr [Zb ((ge (alH f) k).text)],.rd (Zb ((ge (alH f) k).text)),.ptr [.lit (.string (ge ((ge (alH f) k).text) 0))],.str (ge ((ge (alH f) k).text) 0),.any]:List AV).getD ix' .any) (fun _=>true) [(9,fun(g:Unit)=>.ptr (mpC [m2,m3])),(2,fun(g:Unit)=>.rd (XW bf)),(3,fun(g:Unit)=>.ptr [.ptr (mpC [M1,M2,M3,M4,M5])]),(4,fun(g:Unit)=>.ptr (frC f)),(73,fun(g:Unit)=>.rd (XW (alH f))),(74,fun(g:Unit)=>.int ((alH f).length:Nat)),(75,fun(g:Unit)=>.int (k:Nat))] (fun(j':Nat) (g:Unit)=>match j' with | 0=>(OB.mT m3 ts::OB.set keyS m2 (X6 ls ((ge (alH f) k).label))::OB.set keyS M3 (X6 fs f.label)::OB.set keyS M1 cs::OB.set keyS M2 vs::OB.mH M4 hm::OB.mT M5 tm::R) | _=>(OB.mT m3 (QY ts (ge ((ge (alH f) k).text) 1) (ge ((ge (alH f) k).text) 0))::OB.set keyS m2 (X6 ls ((ge (alH f) k).label))::OB.set keyS M3 (X6 fs f.label)::OB.set keyS M1 cs::OB.set keyS M2 vs::OB.mH M4 hm::OB.mT M5 tm::R)) (fun(k':Nat) (g:Unit)=>match k' with | 0=>undef | _=>undef) [10] 0 () (fun _=>rfl) h hJ Yl rfl rfl rfl rfl rfl rfl (fun j' g hj p hp=>by rcases j' with _ | _ | _ | j'<;>first | exact hp | exact List.mem_cons_of_mem _ hp | exact List.mem_cons_of_mem _ (List.mem_cons_of_mem _ hp) | (exfalso;omega)) ⟨?_,⟨?_,⟨?_,⟨?_,⟨?_,⟨?_,⟨?_,⟨?_,⟨?_,⟨?_,⟨?_,trivial⟩⟩⟩⟩⟩⟩⟩⟩⟩⟩⟩ ⟨?e18_3_0,trivial⟩ ⟨.old 1 9 _ rfl rfl,⟨.old 2 2 _ rfl rfl,⟨.old 3 3 _ rfl rfl,⟨.old 4 4 _ rfl rfl,⟨.old 5 73 _ rfl rfl,⟨.old 6 74 _ rfl rfl,⟨.old 7 75 _ rfl rfl,trivial⟩⟩⟩⟩⟩⟩⟩ ?n18_3
       exact oX rfl fun hx hl=>ZX Zdv rfl (hl.env 1 9 _ rfl rfl) hx
       exact oX rfl fun hx hl=>ZA Zln rfl (hl.D 0 98 rfl rfl) hx
       exact oX rfl fun hx hl=>ZX Q4 rfl (hl.env 0 11 _ rfl rfl) hx
       exact oX rfl fun hx hl=>ZA YX rfl (hl.D 2 100 rfl rfl) hx
       exact oX rfl fun hx hl=>Yg (i:=((1:Nat):Int)) Zi rfl (hl.D 3 101 rfl rfl) (Rel.of_lit (Go.Value.int Go.IntKind.i64 1)) (Int.natCast_nonneg _) (Yu (xs:=(ge (alH f) k).text) (k:=1) (by have:=Yv hf5 hb6;omega)) rfl hx
       exact oX rfl fun hx hl=>ZA QX rfl (hl.D 4 102 rfl rfl) hx
       exact oX rfl fun hx hl=>ZX Q4 rfl (hl.env 0 11 _ rfl rfl) hx
       exact oX rfl fun hx hl=>ZA YX rfl (hl.D 6 104 rfl rfl) hx
       exact oX rfl fun hx hl=>Yg (i:=((0:Nat):Int)) Zi rfl (hl.D 7 105 rfl rfl) (Rel.of_lit (Go.Value.int Go.IntKind.i64 0)) (Int.natCast_nonneg _) (Yu (xs:=(ge (alH f) k).text) (k:=0) (by have:=Yv hf5 hb6;omega)) rfl hx
       exact oX rfl fun hx hl=>ZA QX rfl (hl.D 8 106 rfl rfl) hx
       exact Zm rfl
       case e18_3_0=>exact⟨_,rfl,rfl,rfl,rfl,fun g _ w hk hx hl _=>Zr (Zmc (f:=(fun z':ByteArray=>AV.str z')) Zal hJ hJ0 (ge ((ge (alH f) k).text) 1) (ge ((ge (alH f) k).text) 0) (.inl rfl) hk hx (hl.D 1 99 rfl rfl) (hl.D 5 103 rfl rfl) (hl.D 9 107 rfl rfl)) fun v w' ⟨_,hp⟩=>⟨g,rfl,fun _ _=>rfl,fun e=>(by cases e),hp⟩⟩
       clear a w h
       intro _
       dsimp only[List.map]
       refine nx (Y3 tb hJ [0,1,2,3,4,5,1001] [.int (k+1:Nat),_] [0] [_,_,_,_,_,_,_] rfl ⟨Yw,trivial⟩ ?_)
       exact XB (k+1,X6 ls ((ge (alH f) k).label),QY ts (ge ((ge (alH f) k).text) 1) (ge ((ge (alH f) k).text) 0)) [0,1,2,3,4,5,6] ⟨by omega,by rw[ZU (by omega),ZeU,←f1_2],by rw[ZU (by omega),ZbC,←f1_3,if_pos hb6],ZZ f1_4 (by rw[hyK,←f1_2,←f1_3];exact q5)⟩
      ·
       try simp at hb6
       refine Zc (nx (Y3 tb hJ [1,2,3,4,5,6,1001] [.int (k+1:Nat),_] [0] [_,_,_,_,_,_,_] rfl ⟨Yw,trivial⟩ ?_))
       refine kw pm6 ?_
       refine kw pm6 ?_
       refine kw pm6 ?_
       refine kw pm6 ?_
       refine kw pm6 ?_
       refine kw pm5 ?_
       refine kw pm6 ?_
       exact XB (k+1,X6 ls ((ge (alH f) k).label),ts) [0,1,2,3,4,5,6] ⟨by omega,by rw[ZU (by omega),ZeU,←f1_2],by rw[ZU (by omega),ZbC,←f1_3,if_neg (by simp[hb6])],ZZ f1_4 (by rw[hyK,←f1_2,←f1_3];exact q5)⟩
    ·
     have hk4:(alH f).length≤k:=by have:=of_decide_eq_false hb4;omega
     have e4:Xo (alH f).length (hyK cs vs fs hm tm f)=0:=Q5 fun j hj=>f1_4 j (by omega)
     have e3:ts=tsK (alH f):=by rw[f1_3,ZJ (by omega)]
     have hfm:∀ y∈alH f,∃ dm,Q1 y dm=false:=fun y hy=>by obtain⟨j,hj,rfl⟩:=XT hy;exact⟨_,Zgi (f1_4 j (by omega))⟩
     have h2t:∀ y∈alH f,y.floating=true→y.text.length=2:=fun y hy hf=>by obtain⟨dm,hd⟩:=hfm y hy;exact Yv hd hf
     refine ZB (nx (Zk (ZN tb hJ [0,1,2,3,1002,1004] [_,_,_,.int (Zi5 cs vs f.text),_] [3] [_,_,_,_,_,_] rfl ⟨fun _ _ hk hx hl _=>Xj (Zpv hJ (M1:=M1) (M2:=M2) (M3:=M3) (M4:=M4) (M5:=M5) (cs:=cs) (vs:=vs) (l:=f.text) ) Zmx rfl (Zq hS _ hk hx) (hx.1) (ZH (Zd hx (mo 3 rfl)) (ZH (Zd hx (mo 4 rfl)) Zs)) (Za (hl.D 0 109 rfl rfl) (Za (hl.D 2 111 rfl rfl) Ze)) (jo hJ hx),trivial⟩ ?_)))
     refine ln 4 fun hl6=>?_
     refine qso tb hJ [0,1,2,3,5,1001] [_,_] [_,_,_,_,_,_] ?_
     refine cj 5 (fun hb7=>?_) fun hb7=>?_
     ·
      have nz:=ZqZ hb7
      have e9:Zdt cs vs fs hm tm f bf=Zi5 cs vs f.text:=by rw[Zdt,if_neg (by rw[hb1];decide),if_neg (by rw[hb2];decide),if_neg (by rw[hb3];decide),if_neg (by rw[e4];decide),if_pos hb7]
      refine qso tb hJ [1001] [_,_] [_] ?_
      refine tw Zy ?_
      refine tw Zy ?_
      refine tw pm4 ?_
      refine tw pm4 ?_
      refine tw pm2 ?_
      refine tw pm4 ?_
      refine tw pm4 ?_
      exact Zg (fun a w h=>ZS  (m:=0) ⟨((X6 fs f.label),hm,tm),by first | (intro h9;rw[e9]at h9;exact absurd h9 (by first | decide | exact nz)) | (intro _;exact⟨rfl,by rw[f2_2,ZJ (by omega)],fun k'=>by rw[NOGHOST.2 k',e3]⟩)⟩ rfl h rfl (eI (e9.symm)))
     ·
      refine Zc (nx (Zk (ZN tb hJ [0,1,2,3,1003] [_,_,.int (ZdW vs f),_] [2] [_,_,_,_,_] rfl ⟨fun _ _ hk hx hl _=>Xj (p_sets hJ (M1:=M1) (M2:=M2) (M3:=M3) (M4:=M4) (M5:=M5) (vs:=vs) (f:=f) (hb3a.1) (hw) (fun x hx=>h2t x (List.mem_append_left _ hx))) ZrT rfl (Zq hS _ hk hx) (hx.1) (ZH (Zd hx (mo 4 rfl)) Zs) (Za (hl.D 0 116 rfl rfl) (Za (hl.D 1 117 rfl rfl) Ze)) (jo hJ hx),trivial⟩ ?_)))
      refine qso tb hJ [0,1,2,3,4,1001] [_,_] [_,_,_,_,_,_] ?_
      refine cj 5 (fun hb8=>?_) fun hb8=>?_
      ·
       have nz:=ZqZ hb8
       have e9:Zdt cs vs fs hm tm f bf=ZdW vs f:=by rw[Zdt,if_neg (by rw[hb1];decide),if_neg (by rw[hb2];decide),if_neg (by rw[hb3];decide),if_neg (by rw[e4];decide),if_neg (by rw[hb7];decide),if_pos hb8]
       refine qso tb hJ [1001] [_,_] [_] ?_
       refine tw Zy ?_
       refine tw Zy ?_
       refine tw pm4 ?_
       refine tw pm4 ?_
       refine tw pm2 ?_
       refine tw pm4 ?_
       refine tw pm4 ?_
       exact Zg (fun a w h=>ZS  (m:=0) ⟨((X6 fs f.label),hm,tm),by first | (intro h9;rw[e9]at h9;exact absurd h9 (by first | decide | exact nz)) | (intro _;exact⟨rfl,by rw[f2_2,ZJ (by omega)],fun k'=>by rw[NOGHOST.2 k',e3]⟩)⟩ rfl h rfl (eI (e9.symm)))
      ·
       refine Zc (nx (Zk (ZN tb hJ [0,1,2,3,1001,1019] [_,_,.int (f.proof.length:Nat),_,_,_,_,_,_,_,_,.int (f.proof.length:Nat),_,_,_,_,_,.bool (f.proof.any (fun s=>!XR s)),_,_] [2,11,17] [_,_,_,_,_,_] rfl ⟨YK Zx,YK Zx,fun _ _ hk hx hl hc=>Xj (YB hJ (xs:=f.proof) (f:=61) (caps:=[]) (Os:=[]) (p:=(fun s=>!XR s)) (fun q'=>(ZnO hJ q' hG).r) (ZrS)) ZdL rfl (Zq hS _ hk hx) (hx.1) Zs (Za (hl.D 16 138 rfl hc) (Za (QH 61) Ze)) (jo hJ hx),trivial⟩ ?_)))
       refine ln 4 fun hl7=>?_
       refine cj 5 (fun hb9=>?_) fun hb9=>?_
       ·
        have e9:Zdt cs vs fs hm tm f bf=2:=by rw[Zdt,if_neg (by rw[hb1];decide),if_neg (by rw[hb2];decide),if_neg (by rw[hb3];decide),if_neg (by rw[e4];decide),if_neg (by rw[hb7];decide),if_neg (by rw[hb8];decide),if_pos (show Zsy f=true from hb9)]
        refine qso tb hJ [1000] [_] [_] ?_
        refine tw Zy ?_
        refine tw Zy ?_
        refine tw pm4 ?_
        refine tw pm4 ?_
        refine tw pm2 ?_
        refine tw pm4 ?_
        refine tw pm4 ?_
        exact Zg (fun a w h=>ZS  (m:=0) ⟨((X6 fs f.label),hm,tm),by first | (intro h9;rw[e9]at h9;exact absurd h9 (by first | decide | exact nz)) | (intro _;exact⟨rfl,by rw[f2_2,ZJ (by omega)],fun k'=>by rw[NOGHOST.2 k',e3]⟩)⟩ rfl h rfl (eI (e9.symm)))
       ·
        refine Zc (nx (ZN tb hJ [0,1,2,3,1001,1002] [_,.rd (XW (Qf f.hyps)),_] [1] [_,_,_,_,_,_] rfl ⟨iFo hS hJ (Zcp hJ (f:=f) (by refine ZgY ?_;omega)) Zmz,trivial⟩ ?_))
        refine ln 4 fun hl8=>?_
        refine ZN tb hJ [0,2,3,1008,1009] [_,_,_,.int (Ze4 (bf.map Hy.label) ((Qf f.hyps).map Hy.label):Nat),_,.int ((Qf f.hyps).length:Nat),_,.int ((Qf f.hyps).length:Nat),.rd (XW ((Qf f.hyps).drop (Ze4 (bf.map Hy.label) ((Qf f.hyps).map Hy.label)))),_] [3,5,7,8] [_,_,_,_,_] rfl ⟨iFo hS hJ (ZnQ hJ (xs:=bf) (ys:=(Qf f.hyps)) ) ZrQ,YK ZO,YK ZO,fun _ _ _ hx hl _=>Zny (ys:=(Qf f.hyps).drop (Ze4 (bf.map Hy.label) ((Qf f.hyps).map Hy.label))) (lo:=Ze4 (bf.map Hy.label) ((Qf f.hyps).map Hy.label)) rfl ZK (fun _=>rfl) rfl (hl.D 0 144 rfl rfl) (hl.D 3 147 rfl rfl) (hl.D 5 149 rfl rfl) (hl.D 7 151 rfl rfl) (by have:=Zmh (bf.map Hy.label) ((Qf f.hyps).map Hy.label);simpa using this) hx,trivial⟩ ?_
        refine ln 3 fun hl9=>?_
        refine Zk (ZN tb hJ [0,1,2,1002] [_,.fn 65 [.ptr [.ptr (mpC [M1,M2,M3,M4,M5])]],.bool (((Qf f.hyps).drop (Ze4 (bf.map Hy.label) ((Qf f.hyps).map Hy.label))).any (fun y=>(ZD hm y.label).isSome))] [1,2] [_,_,_,_] rfl ⟨fun _ _ _ hx hl _=>XK (caps:=[(Go.Operand.tmp 3)]) rfl (Za (hl.env 1 3 _ rfl rfl) Ze) hx,fun _ _ hk hx hl _=>Xj (ZaK hJ (xs:=((Qf f.hyps).drop (Ze4 (bf.map Hy.label) ((Qf f.hyps).map Hy.label)))) (f:=65) (caps:=[.ptr [.ptr (mpC [M1,M2,M3,M4,M5])]]) (Os:=[OB.mH M4 hm]) (p:=(fun y=>(ZD hm y.label).isSome)) (fun q'=>ZnN hJ M1 M2 M3 M4 M5 hm q') (ZrP)) Zmw rfl (Zq hS _ hk hx) (hx.1) (ZH (Zd hx (mo 5 rfl)) Zs) (Za (hl.D 0 153 rfl rfl) (Za (hl.D 1 154 rfl rfl) Ze)) (jo hJ hx),trivial⟩ ?_)
        refine cj 3 (fun hb10=>?_) fun hb10=>?_
        ·
         have e9:Zdt cs vs fs hm tm f bf=7:=by rw[Zdt,if_neg (by rw[hb1];decide),if_neg (by rw[hb2];decide),if_neg (by rw[hb3];decide),if_neg (by rw[e4];decide),if_neg (by rw[hb7];decide),if_neg (by rw[hb8];decide),if_neg (by rw[show Zsy f=_ from hb9];decide),if_pos hb10]
         refine qso tb hJ [1000] [_] [_] ?_
         refine tw Zy ?_
         refine tw Zy ?_
         refine tw pm4 ?_
         refine tw pm4 ?_
         refine tw pm2 ?_
         refine tw pm4 ?_
         refine tw pm4 ?_
         exact Zg (fun a w h=>ZS  (m:=0) ⟨((X6 fs f.label),hm,tm),by first | (intro h9;rw[e9]at h9;exact absurd h9 (by first | decide | exact nz)) | (intro _;exact⟨rfl,by rw[f2_2,ZJ (by omega)],fun k'=>by rw[NOGHOST.2 k',e3]⟩)⟩ rfl h rfl (eI (e9.symm)))
        ·
         have e9:Zdt cs vs fs hm tm f bf=0:=by rw[Zdt,if_neg (by rw[hb1];decide),if_neg (by rw[hb2];decide),if_neg (by rw[hb3];decide),if_neg (by rw[e4];decide),if_neg (by rw[hb7];decide),if_neg (by rw[hb8];decide),if_neg (by rw[show Zsy f=_ from hb9];decide),if_neg (by rw[hb10];decide)]
         refine Zc (nx (Zk (Zk (Y3 tb hJ [0,1,1005,1006,1007] [_,_,_,_,.rd (Zrf ([f.hyps,f.dummies]:List (List Hy))),.rd (XW (([f.hyps,f.dummies]:List (List Hy)).flatten)),.int ((([f.hyps,f.dummies]:List (List Hy)).flatten).length:Nat),_] [4,5,6] [_,_,_,_,_] rfl ⟨fun a _ hk hx hl _=>Y8 (k:=2) (us:=[a.eval (Go.Operand.tmp 157),a.eval (Go.Operand.tmp 159)]) Qm Zd6 rfl (by simp) (Zj (hl.D 1 157 rfl rfl) (Zj (hl.D 3 159 rfl rfl) ZI)) rfl (by decide) (by decide) (Zq hS _ hk hx _ (Nat.le_refl _)) (jo hJ hx),iFo hS hJ (ZfV hJ (ls:=([f.hyps,f.dummies]:List (List Hy))) (by refine ZgY ?_;simp;omega)) Zmy,YK ZO,trivial⟩ ?_))))
         refine kw (sa 2 rfl (congrArg (fun z'=>AV.rd (XW z')) (show(([f.hyps,f.dummies]:List (List Hy)).flatten)=(alH f)from by simp))) ?_
         refine kw (sa 3 rfl (congrArg AV.int (show(((([f.hyps,f.dummies]:List (List Hy)).flatten).length:Nat):Int)=(((alH f).length:Nat):Int)from by simp))) ?_
         refine nx (Zf (lpo (ι:=Nat×(List (ByteArray×Hy))) (fun(k,hn)=>(k≤(alH f).length)∧(hn=hmK hm ((alH f).take k))) (fun(_,hn)=>(OB.mT m3 ts::OB.set keyS m2 ls::OB.set keyS M3 (X6 fs f.label)::OB.set keyS M1 cs::OB.set keyS M2 vs::OB.mH M4 hn::OB.mT M5 tm::R)) (fun(k,_)=>[(163,.int (k:Nat))]) (fun(k,_)=>(alH f).length-k) [0,1,2,3,4] [_,_,_,_] (0,hm) ⟨Nat.zero_le _,rfl⟩ ?_))
         rintro⟨k,hn⟩ ⟨f2_1,f2_2⟩
         refine qso tb hJ [0,1,2,3,4,1000] [_] [_,_,_,_,_,_] ?_
         refine cjS 5 (fun hb11=>?_) fun hb11=>?_
         ·
          have hk4:k< (alH f).length:=Int.ofNat_lt.1 (of_decide_eq_true hb11)
          refine Zc (nx (Zk (Zf (tsq ?_))))
          refine sq (.ptr (hyC (ge (alH f) k))) rfl rfl (lb rfl) (fun _ _ h=>Yg (i:=(k:Int)) ZK rfl (h.get 2 rfl) (h.get 4 rfl) (Int.natCast_nonneg _) (Yu (xs:=alH f) (k:=k) sfz) rfl h.x) ?_
          refine snK 1 tb rfl ?_
          refine X8 (cs:=hyC (ge (alH f) k)) ZaY rfl rfl rfl (lb rfl) rfl rfl rfl (by decide) (m:=0) rfl rfl (fun a w h=>Zq hS _ h.keep h.x _ (Nat.le_refl _)) (fun a w h w' hk'=>Yq hJ _ _ hk' h.x) ?_
          refine seK [0,3,4,5,6,7] [_,_,_,_,_,_] rfl ?_
          refine nx (tw pm5 ?_)
          refine fun a w h=>YG (γ:=Unit) (fun ix'=>([.ptr (mpC [M1,M2,M3,M4,M5]),.ptr (mpC [M1,M2,M3,M4,M5]),.ptr (mpC [M4,M5]),.lit (.map (some M4)),.ptr (hyC (ge (alH f) k)),.str ((ge (alH f) k).label),.agg (hyC (ge (alH f) k)),.agg (hyC (ge (alH f) k)),.any]:List AV).getD ix' .any) (fun _=>true) [(9,fun(g:Unit)=>.ptr (mpC [m2,m3])),(3,fun(g:Unit)=>.ptr [.ptr (mpC [M1,M2,M3,M4,M5])]),(161,fun(g:Unit)=>.rd (XW (alH f))),(162,fun(g:Unit)=>.int ((alH f).length:Nat)),(163,fun(g:Unit)=>.int (k:Nat))] (fun(j':Nat) (g:Unit)=>match j' with | 0=>(OB.mH M4 hn::OB.mT m3 ts::OB.set keyS m2 ls::OB.set keyS M3 (X6 fs f.label)::OB.set keyS M1 cs::OB.set keyS M2 vs::OB.mT M5 tm::R) | _=>(OB.mH M4 (QY hn ((ge (alH f) k).label) (ge (alH f) k))::OB.mT m3 ts::OB.set keyS m2 ls::OB.set keyS M3 (X6 fs f.label)::OB.set keyS M1 cs::OB.set keyS M2 vs::OB.mT M5 tm::R)) (fun(k':Nat) (g:Unit)=>match k' with | 0=>undef | _=>undef) [8] 0 () (fun _=>rfl) h hJ Yl rfl rfl rfl rfl rfl rfl (fun j' g hj p hp=>by rcases j' with _ | _ | _ | j'<;>first | exact hp | exact List.mem_cons_of_mem _ hp | exact List.mem_cons_of_mem _ (List.mem_cons_of_mem _ hp) | (exfalso;omega)) ⟨?_,⟨?_,⟨?_,⟨?_,⟨?_,⟨?_,⟨?_,⟨?_,⟨?_,trivial⟩⟩⟩⟩⟩⟩⟩⟩⟩ ⟨?e35_4_0,trivial⟩ ⟨.old 1 9 _ rfl rfl,⟨.old 2 3 _ rfl rfl,⟨.old 3 161 _ rfl rfl,⟨.old 4 162 _ rfl rfl,⟨.old 5 163 _ rfl rfl,trivial⟩⟩⟩⟩⟩ ?n35_4
          exact oX rfl fun hx hl=>ZbH ZfZ rfl (hl.env 2 3 _ rfl rfl) hx
          exact oX rfl fun hx hl=>Y2 rfl (hl.D 0 167 rfl rfl) hx
          exact oX rfl fun hx hl=>ZX Q3 rfl (hl.D 1 168 rfl rfl) hx
          exact oX rfl fun hx hl=>ZA ZfY rfl (hl.D 2 169 rfl rfl) hx
          exact oX rfl fun hx hl=>ZX Za8 rfl (hl.env 0 18 _ rfl rfl) hx
          exact oX rfl fun hx hl=>ZA QX rfl (hl.D 4 171 rfl rfl) hx
          exact oX rfl fun hx hl=>Zbp X7 rfl (hl.env 0 18 _ rfl rfl) (Nat.le_refl _) hx
          exact oY rfl fun hk hx hl=>ZeN (Zie hJ (y:=(ge (alH f) k)) (by refine Zqp ?_;obtain⟨dm,hd⟩:=hfm _ (ZM (by omega:k< (alH f).length));have:=ZlX hd;omega)) Zmv rfl (Zq hS _ hk hx) (hx.1) (Za (hl.D 6 173 rfl rfl) Ze) (jo hJ hx)
          exact Zm rfl
          case e35_4_0=>exact⟨_,rfl,rfl,rfl,rfl,fun g _ w hk hx hl _=>Zr (Zmc (f:=(fun z':Hy=>AV.agg (hyC z'))) X9 hJ hJ0 ((ge (alH f) k).label) (ge (alH f) k) (.inl rfl) hk hx (hl.D 3 170 rfl rfl) (hl.D 5 172 rfl rfl) (hl.D 7 174 rfl rfl)) fun v w' ⟨_,hp⟩=>⟨g,rfl,fun _ _=>rfl,fun e=>(by cases e),hp⟩⟩
          clear a w h
          intro _
          dsimp only[List.map]
          refine nx (Y3 tb hJ [0,1,2,3,1001] [.int (k+1:Nat),_] [0] [_,_,_,_,_] rfl ⟨Yw,trivial⟩ ?_)
          refine kw pm6 ?_
          refine kw pm1 ?_
          refine kw pm6 ?_
          refine kw pm6 ?_
          refine kw pm6 ?_
          refine kw pm6 ?_
          refine kw pm6 ?_
          exact XB (k+1,QY hn ((ge (alH f) k).label) (ge (alH f) k)) [0,1,2,3,4] ⟨by omega,by rw[ZU (by omega),Zoq,←f2_2]⟩
         ·
          have hk4:(alH f).length≤k:=by have:=of_decide_eq_false hb11;omega
          refine ZB (nx (tw pm6 ?_))
          refine Zk (fun a w h=>YG (γ:= { q':List (ByteArray×ByteArray) // ∀ k',ZD q' k'=if(ZD ts k').isSome then ZD ts k' else ZD tm k' }) (fun ix'=>([.ptr (mpC [M1,M2,M3,M4,M5]),.ptr (mpC [M1,M2,M3,M4,M5]),.ptr [.lit (.map (some M5))],.lit (.map (some M5)),.ptr [.lit (.map (some m3))],.lit (.map (some m3)),.any]:List AV).getD ix' .any) (fun ix'=>([true,true,true,true,true,true,true]:List Bool).getD ix' true) [] (fun(j':Nat) (g: { q':List (ByteArray×ByteArray) // ∀ k',ZD q' k'=if(ZD ts k').isSome then ZD ts k' else ZD tm k' })=>match j' with | 0=>(OB.mT M5 tm::OB.mT m3 ts::OB.set keyS m2 ls::OB.set keyS M3 (X6 fs f.label)::OB.set keyS M1 cs::OB.set keyS M2 vs::OB.mH M4 hn::R) | _=>(OB.mT M5 g.1::OB.mT m3 ts::OB.set keyS m2 ls::OB.set keyS M3 (X6 fs f.label)::OB.set keyS M1 cs::OB.set keyS M2 vs::OB.mH M4 hn::R)) (fun(k':Nat) (g: { q':List (ByteArray×ByteArray) // ∀ k',ZD q' k'=if(ZD ts k').isSome then ZD ts k' else ZD tm k' })=>match k' with | 0=>(.tuple #[]) | _=>undef) [6] 0 ⟨ZoB tm ts,Zgv tm ts⟩ (fun _=>rfl) h hJ Yl rfl rfl rfl rfl rfl rfl (fun j' g hj p hp=>by rcases j' with _ | _ | _ | j'<;>first | exact hp | exact List.mem_cons_of_mem _ hp | exact List.mem_cons_of_mem _ (List.mem_cons_of_mem _ hp) | (exfalso;omega)) ⟨?o37_5_0,⟨?o37_5_1,⟨?o37_5_2,⟨?o37_5_3,⟨?o37_5_4,⟨?o37_5_5,⟨?o37_5_6,trivial⟩⟩⟩⟩⟩⟩⟩ ⟨?e37_5_0,trivial⟩ trivial ?n37_5)
          exact oX rfl fun hx hl=>ZbH ZfZ rfl (hl.env 1 3 _ rfl rfl) hx
          exact oX rfl fun hx hl=>Y2 rfl (hl.D 0 176 rfl rfl) hx
          exact oX rfl fun hx hl=>ZX ZjI rfl (hl.D 1 177 rfl rfl) hx
          exact oX rfl fun hx hl=>ZA Zln rfl (hl.D 2 178 rfl rfl) hx
          exact oX rfl fun hx hl=>ZX Zdv rfl (hl.env 0 9 _ rfl rfl) hx
          exact oX rfl fun hx hl=>ZA Zln rfl (hl.D 4 180 rfl rfl) hx
          exact Zm rfl
          case e37_5_0=>exact⟨_,rfl,rfl,rfl,rfl,fun _ _ w hk hx hl _=>Zr (d_fn (O:=[OB.mT M5 tm,OB.mT m3 ts]) (R:=(OB.set keyS m2 ls::OB.set keyS M3 (X6 fs f.label)::OB.set keyS M1 cs::OB.set keyS M2 vs::OB.mH M4 hn::R)) (ZnW hJ (M5:=M5) (T1:=m3) (tm:=tm) (ts:=ts) (by rw[e3];exact Zng _ h2t hsm)) ZrO rfl hS hJ0 Zs hk hx (Za (hl.D 3 179 rfl rfl) (Za (hl.D 5 181 rfl rfl) Ze))) fun v w' ⟨i,hp,hv⟩=>⟨i,rfl,fun k' hk'=>absurd hk' (Nat.not_lt_zero _),fun _=>ZeI hv,hp⟩⟩
          clear a w h
          intro z6
          dsimp only[List.map]
          refine nx (qso tb hJ [1000] [_] [_] ?_)
          refine tw pm1 ?_
          refine tw Zy ?_
          refine tw pm1 ?_
          refine tw Zy ?_
          refine tw pm4 ?_
          refine tw pm2 ?_
          refine tw pm4 ?_
          refine tw pm4 ?_
          exact Zg (fun a w h=>ZS  (m:=0) ⟨((X6 fs f.label),hn,z6.1),by first | (intro h9;rw[e9]at h9;exact absurd h9 (by first | decide | exact nz)) | (intro _;exact⟨rfl,by rw[f2_2,ZJ (by omega)],fun k'=>by rw[z6.2 k',e3]⟩)⟩ rfl h rfl (eI (e9.symm)))
end Go.Proofs.YtdgbcfloaenhbaaGreatDoor
namespace Go.Proofs.YtdgbcfloaenhbaaGreatDoor

theorem ZbW:∀ x:List UInt8,Op.bytesLess x x=false
 | []=>rfl
 | a::x=>by simp[Op.bytesLess,ZbW x]
theorem Zfg:∀ x y z:List UInt8,Op.bytesLess x y=true→Op.bytesLess y z=true→Op.bytesLess x z=true
 | _,_,[],_,h=>by cases ‹List UInt8› <;>simp[Op.bytesLess]at h
 | x,[],_::_,h,_=>by cases x<;>simp[Op.bytesLess]at h
 | [],_::_,_::_,_,_=>rfl
 | a::x,b::y,c::z,h1,h2=>by
  simp only[Op.bytesLess,Bool.or_eq_true,Bool.and_eq_true,decide_eq_true_eq,beq_iff_eq]at h1 h2 ⊢
  rcases h1 with h1 | ⟨rfl,h1⟩
  · rcases h2 with h2 | ⟨rfl,h2⟩
    · exact Or.inl (UInt8.lt_trans h1 h2)
    · exact Or.inl h1
  · rcases h2 with h2 | ⟨rfl,h2⟩
    · exact Or.inl h2
    · exact Or.inr ⟨rfl,Zfg x y z h1 h2⟩
theorem Zfh:∀ x y:List UInt8,Op.bytesLess x y=false→Op.bytesLess y x=false→x=y
 | [],[],_,_=>rfl
 | [],_::_,h,_=>by simp[Op.bytesLess]at h
 | _::_,[],_,h=>by simp[Op.bytesLess]at h
 | a::x,b::y,h1,h2=>by
  simp only[Op.bytesLess,Bool.or_eq_false_iff,Bool.and_eq_false_iff,decide_eq_false_iff_not]at h1 h2
  have hab:a=b:=by
   have h3:=h1.1
   have h4:=h2.1
   rw[UInt8.lt_iff_toNat_lt]at h3 h4
   exact UInt8.toNat_inj.1 (by omega)
  subst hab
  have h3:=h1.2
  have h4:=h2.2
  simp at h3 h4
  rw[Zfh x y h3 h4]
theorem toList_inj {a b:ByteArray} (h:a.toList=b.toList):a=b:=by
 rw[ByteArray.toList_eq,ByteArray.toList_eq]at h
 exact ByteArray.ext (Array.toList_inj.1 h)
theorem QZ {x y z:Pr} (h1:ltP x y=true) (h2:ltP y z=true):ltP x z=true:=by
 simp only[ltP,Bool.or_eq_true,Bool.and_eq_true,decide_eq_true_eq]at h1 h2 ⊢
 rcases h1 with h1 | ⟨e1,h1⟩
 · rcases h2 with h2 | ⟨e2,h2⟩
   · exact .inl (Zfg _ _ _ h1 h2)
   · exact .inl (e2▸h1)
 · rcases h2 with h2 | ⟨e2,h2⟩
   · exact .inl (e1▸h2)
   · exact .inr ⟨e1.trans e2,Zfg _ _ _ h1 h2⟩
theorem Zf8 {x y:Pr} (h1:ltP x y=false) (h2:ZmY x y=false):ltP y x=true:=by
 simp only[ltP,Bool.or_eq_false_iff,Bool.and_eq_false_iff,decide_eq_false_iff_not]at h1
 simp only[ltP,Bool.or_eq_true,Bool.and_eq_true,decide_eq_true_eq]
 by_cases ha:x.a=y.a
 · right
   refine⟨ha.symm,?_⟩
   have h3:=h1.2.resolve_left (fun h=>h ha)
   cases hb:Op.bytesLess y.b.toList x.b.toList with
   | true=>rfl
   | false=>simp[ZmY,ha,toList_inj (Zfh _ _ h3 hb)]at h2
 · left
   cases hb:Op.bytesLess y.a.toList x.a.toList with
   | true=>rfl
   | false=>exact absurd (toList_inj (Zfh _ _ h1.1 hb)) ha
def SrtP (l:List Pr):Prop:=l.Pairwise fun x y=>ltP x y=true
theorem Zia:∀ {l:List Pr} {p x:Pr},x∈Zjp l p→x∈l∨x=p
 | [],p,x,h=>by simpa [Zjp]using h
 | y::l,p,x,h=>by
  simp only[Zjp]at h
  split at h
  · rcases List.mem_cons.1 h with rfl | h
    · exact .inl (by simp)
    · rcases Zia h with h | h
      · exact .inl (by simp[h])
      · exact .inr h
  · split at h
    · exact .inl h
    · rcases List.mem_cons.1 h with rfl | h
      · exact .inr rfl
      · exact .inl h
theorem Zh9:∀ {l:List Pr} {p:Pr},SrtP l→SrtP (Zjp l p)
 | [],_,_=>by simp[Zjp,SrtP]
 | y::l,p,h=>by
  have h':=List.pairwise_cons.1 h
  simp only[Zjp]
  by_cases h1:ltP y p=true
  · rw[if_pos h1]
    refine List.pairwise_cons.2 ⟨fun x hx=>?_,Zh9 h'.2⟩
    rcases Zia hx with hx | rfl
    · exact h'.1 x hx
    · exact h1
  · rw[if_neg h1]
    by_cases h2:ZmY y p=true
    · rw[if_pos h2];exact h
    · rw[if_neg h2]
      have h3:=Zf8 (by simpa using h1) (by simpa using h2)
      refine List.pairwise_cons.2 ⟨fun x hx=>?_,h⟩
      rcases List.mem_cons.1 hx with rfl | hx
      · exact h3
      · exact QZ h3 (h'.1 x hx)
theorem ZbQ:∀(w:List Pr) {a:List Pr},SrtP a→SrtP (w.foldl Zjp a)
 | [],_,h=>h
 | _::w,_,h=>ZbQ w (Zh9 h)
theorem Zib:∀ {l:List Pr} {p:Pr},(∀ x∈l,ltP x p=true)→Zjp l p=l++[p]
 | [],_,_=>rfl
 | y::l,p,h=>by
  have ih:Zjp l p=l++[p]:=Zib fun x hx=>h x (List.mem_cons_of_mem _ hx)
  simp only[Zjp,h y (by simp),if_true,ih,List.cons_append]
theorem Zcu:∀(w a:List Pr),SrtP (a++w)→w.foldl Zjp a=a++w
 | [],a,_=>by simp
 | p::w,a,h=>by
  have h1:∀ x∈a,ltP x p=true:=fun x hx=>(List.pairwise_append.1 h).2.2 x hx p (by simp)
  rw[List.foldl_cons,Zib h1,Zcu w (a++[p]) (by simpa using h)]
  simp
theorem ZlM (w:List Pr):w=Zok w []↔SrtP w:=by
 unfold Zok
 rw[List.append_nil]
 constructor
 · intro h
   rw[h]
   exact ZbQ w .nil
 · intro h
   rw[Zcu w [] (by simpa using h)]
   simp
theorem Zkz {w:List Pr} (h:∀ i,0<i→i<w.length→ltP (ge w (i-1)) (ge w i)=true):SrtP w:=by
 have key:∀ d i,i+1+d<w.length→ltP (ge w i) (ge w (i+1+d))=true:=by
  intro d
  induction d with
  | zero=>intro i hi;simpa using h (i+1) (by omega) (by omega)
  | succ d ih=>
   intro i hi
   refine QZ (ih i (by omega)) ?_
   have:=h (i+1+d+1) (by omega) (by omega)
   rw[show i+1+d+1-1=i+1+d by omega]at this
   exact this
 rw[SrtP,List.pairwise_iff_getElem]
 intro i j hi hj hij
 have:=key (j-i-1) i (by omega)
 rw[show i+1+(j-i-1)=j by omega]at this
 rwa [Y6 hi,Y6 hj]at this
theorem ZmP {vs:List ByteArray} {d:Db} (hv:vs=d.vars) (w:List Pr):((List.range w.length).all fun i=>!Zm2 vs w i)=(!w.any (badW d)&&decide (w=Zok w [])):=by
 subst hv
 have hk:∀ i,0<i→(0≤Zgw (ge w (((i:Nat):Int)-1).toNat) (ge w i)↔ltP (ge w (i-1)) (ge w i)=false):=fun i h=>by
  rw[show(((i:Nat):Int)-1).toNat=i-1 by omega,←ZoF,decide_eq_false_iff_not];omega
 rw[Bool.eq_iff_iff]
 simp only[List.all_eq_true,List.mem_range,Bool.not_eq_true',Bool.and_eq_true,List.any_eq_false,decide_eq_true_eq,ZlM]
 constructor
 · intro h
   refine⟨fun p hp=>?_,Zkz fun i h1 h2=>?_⟩
   · obtain⟨i,hi,rfl⟩:=XT hp
     have:=h i hi
     simp only[Zm2,Bool.or_eq_false_iff]at this
     simp only[badW,Bool.or_eq_true,not_or,Bool.not_eq_true]
     exact this.1
   · have:=h i h2
     simp only[Zm2,Bool.or_eq_false_iff,Bool.and_eq_false_iff,decide_eq_false_iff_not]at this
     have h3:=this.2.resolve_left (by omega)
     rw[hk i h1]at h3
     simpa using h3
 · rintro⟨h1,h2⟩ i hi
   have h3:=h1 _ (ZM hi)
   simp only[badW,Bool.or_eq_true,not_or,Bool.not_eq_true]at h3
   simp only[Zm2,Bool.or_eq_false_iff,Bool.and_eq_false_iff,decide_eq_false_iff_not]
   refine⟨h3,?_⟩
   by_cases h0:0<i
   · right
     rw[hk i h0]
     have:=List.pairwise_iff_getElem.1 h2 (i-1) i (by omega) hi (by omega)
     rw[Y6 hi,Y6 (by omega),this];decide
   · left;omega

structure TyI (l:List Hy) (tm:List (ByteArray×ByteArray)):Prop where
 hit:∀ x∈l,∀ v,ofB x [v]=true→ZD tm v=some (ge x.text 0)
 got:∀ v t,ZD tm v=some t→∃ x∈l,ofB x [v]=true∧ge x.text 0=t
structure HyI (l:List Hy) (hm:List (ByteArray×Hy)):Prop where
 hit:∀ x∈l,ZD hm x.label=some x
 got:∀ s x,ZD hm s=some x→x∈l∧x.label=s
structure KInv (d:Db) (k:Nat) (fs:List ByteArray) (hm:List (ByteArray×Hy)) (tm:List (ByteArray×ByteArray)) (bf:List Hy):Prop where
 fr:∀ s,s∈fs↔frL d k s=true
 hy:HyI (oth d k) hm
 ty:TyI (oth d k) tm
 bf:bf.map Hy.label=befL d k
theorem ZlI (d:Db):KInv d 0 [] [] [] []:=⟨fun s=>by simp[frL],⟨fun x hx=>by simp[Zig]at hx,fun s x h=>by simp[Qk]at h⟩,⟨fun x hx=>by simp[Zig]at hx,fun s x h=>by simp[Qk]at h⟩,by simp[befL]⟩
theorem ofB_one {x:Hy} {v:ByteArray}:ofB x [v]=true↔x.floating=true∧x.text.length=2∧ge x.text 1=v:=by
 simp only[ofB,Bool.and_eq_true,decide_eq_true_eq,List.mem_singleton]
 constructor
 · rintro⟨⟨h1,h2⟩,h3⟩;exact⟨h1,by omega,h3⟩
 · rintro⟨h1,h2,h3⟩;exact⟨⟨h1,by omega⟩,h3⟩
theorem ZaS {l:List ByteArray} (h:l.length=2):l.drop 1=[ge l 1]:=by
 match l,h with
 | [a,b],_=>rfl
theorem ZlU {d:Db} {k:Nat} {s:ByteArray}:hyL d k s=(oth d k).any fun x=>decide (x.label=s):=by
 simp only[hyL,oth,hysF]
 induction d.frames.take k with
 | nil=>rfl
 | cons f l ih=>rw[List.any_cons,ih,List.flatMap_cons,List.any_append (xs:=f.hyps++f.dummies)]
section
variable {d:Db} {k:Nat} {fs:List ByteArray} {hm:List (ByteArray×Hy)} {tm:List (ByteArray×ByteArray)} {bf:List Hy}
theorem HyI.some {l:List Hy} (h:HyI l hm) (s:ByteArray):(ZD hm s).isSome=l.any fun x=>decide (x.label=s):=by
 rw[Bool.eq_iff_iff,List.any_eq_true]
 constructor
 · intro e
   obtain⟨x,hx⟩:=Option.isSome_iff_exists.1 e
   have:=h.got s x hx
   exact⟨x,this.1,by simpa using this.2⟩
 · rintro⟨x,hx,e⟩
   simp only[decide_eq_true_eq]at e
   rw[←e,h.hit x hx];rfl
theorem TyI.bad {l:List Hy} (h:TyI l tm) (y:Hy) (h2:y.text.length=2):((ZD tm (ge y.text 1)).isSome&& !decide ((ZD tm (ge y.text 1)).getD default=ge y.text 0))=l.any (Zrh y):=by
 rw[Bool.eq_iff_iff,List.any_eq_true]
 unfold Zrh
 rw[ZaS h2]
 constructor
 · intro e
   simp only[Bool.and_eq_true,Bool.not_eq_true',decide_eq_false_iff_not]at e
   obtain⟨t,ht⟩:=Option.isSome_iff_exists.1 e.1
   obtain⟨x,hx,h3,h4⟩:=h.got _ _ ht
   refine⟨x,hx,?_⟩
   rw[ht]at e
   simp only[Option.getD_some]at e
   simp[h3,h4,e.2]
 · rintro⟨x,hx,e⟩
   simp only[Bool.and_eq_true,Bool.not_eq_true',decide_eq_false_iff_not]at e
   rw[h.hit x hx _ e.1]
   simp[e.2]
theorem TyI.have {l:List Hy} (h:TyI l tm) (y:Hy) (h2:y.text.length=2):(ZD tm (ge y.text 1)).isSome=l.any (hOf y):=by
 rw[Bool.eq_iff_iff,List.any_eq_true]
 unfold hOf
 rw[ZaS h2]
 constructor
 · intro e
   obtain⟨t,ht⟩:=Option.isSome_iff_exists.1 e
   obtain⟨x,hx,h3,_⟩:=h.got _ _ ht
   exact⟨x,hx,h3⟩
 · rintro⟨x,hx,e⟩
   rw[h.hit x hx _ e];rfl
theorem HyI.bad {l:List Hy} (h:HyI l hm) (y:Hy):((ZD hm y.label).isSome&& !ZpJ ((ZD hm y.label).getD default) y)=l.any (Zri y):=by
 rw[Bool.eq_iff_iff,List.any_eq_true]
 unfold Zri
 constructor
 · intro e
   simp only[Bool.and_eq_true,Bool.not_eq_true']at e
   obtain⟨x,hx⟩:=Option.isSome_iff_exists.1 e.1
   have:=h.got _ _ hx
   rw[hx]at e
   exact⟨x,this.1,by simpa [this.2]using e.2⟩
 · rintro⟨x,hx,e⟩
   simp only[Bool.and_eq_true,Bool.not_eq_true',decide_eq_true_eq]at e
   rw[←e.1,h.hit x hx]
   simpa using e.2
theorem Zq4 (l:List Hy) (s:ByteArray):s∈lsK l↔ ∃ x∈l,x.label=s:=by
 rw[←List.reverse_reverse l]
 induction l.reverse with
 | nil=>simp[lsK]
 | cons y m ih=>
  rw[List.reverse_cons,ZeU,ZeT,ih]
  simp only[List.mem_append,List.mem_singleton]
  constructor
  · rintro(⟨x,h,e⟩ | rfl)
    · exact⟨x,.inl h,e⟩
    · exact⟨y,.inr rfl,rfl⟩
  · rintro⟨x,h | rfl,e⟩
    · exact .inl ⟨x,h,e⟩
    · exact .inr e.symm
theorem ZhO {l:List Hy} {ts:List (ByteArray×ByteArray)} {y:Hy} (h:TyI l ts) (h2:y.floating=true→y.text.length=2) (h3:y.floating=true→l.any (hOf y)=false):TyI (l++[y]) (if y.floating then QY ts (ge y.text 1) (ge y.text 0)else ts):=by
 by_cases hf:y.floating=true
 · rw[if_pos hf]
   have h2':=h2 hf
   have h3':=h3 hf
   rw[List.any_eq_false]at h3'
   refine⟨fun x hx v hv=>?_,fun v t hv=>?_⟩
   · rw[Za6]
     rcases List.mem_append.1 hx with hx | hx
     · have:¬ v=ge y.text 1:=fun e=>h3' x hx (by rw[hOf,ZaS h2',←e];exact hv)
       rw[if_neg this]
       exact h.hit x hx v hv
     · rw[List.mem_singleton.1 hx]at hv ⊢
       rw[if_pos (ofB_one.1 hv).2.2.symm]
   · rw[Za6]at hv
     split at hv
     · rename_i e
       refine⟨y,by simp,ofB_one.2 ⟨hf,h2',e.symm⟩,by simpa using hv⟩
     · obtain⟨x,hx,h4⟩:=h.got v t hv
       exact⟨x,by simp[hx],h4⟩
 · rw[if_neg hf]
   refine⟨fun x hx v hv=>?_,fun v t hv=>?_⟩
   · rcases List.mem_append.1 hx with hx | hx
     · exact h.hit x hx v hv
     · rw[List.mem_singleton.1 hx]at hv
       exact absurd (ofB_one.1 hv).1 hf
   · obtain⟨x,hx,h4⟩:=h.got v t hv
     exact⟨x,by simp[hx],h4⟩
theorem Zhk:∀(l:List Hy) (hm:List (ByteArray×Hy)) (x:Hy),(∀ y∈l,y.label=x.label→y=x)→(x∈l∨ZD hm x.label=some x)→ZD (hmK hm l) x.label=some x
 | [],_,_,_,h=>by simpa [hmK]using h
 | y::l,hm,x,h,h1=>by
  show ZD (hmK (QY hm y.label y) l) x.label=_
  refine Zhk l _ x (fun z hz=>h z (by simp[hz])) ?_
  by_cases hx:x∈l
  · exact .inl hx
  · right
    rw[Za6]
    by_cases e:x.label=y.label
    · rw[if_pos e,h y (by simp) e.symm]
    · rw[if_neg e]
      refine h1.resolve_left fun hm'=>?_
      rcases List.mem_cons.1 hm' with rfl | h'
      · exact e rfl
      · exact hx h'
theorem ZlV:∀(l:List Hy) (hm:List (ByteArray×Hy)) (s:ByteArray) (x:Hy),ZD (hmK hm l) s=some x→(x∈l∧x.label=s)∨ZD hm s=some x
 | [],_,_,_,h=>.inr h
 | y::l,hm,s,x,h=>by
  rcases ZlV l (QY hm y.label y) s x h with⟨h1,h2⟩ | h1
  · exact .inl ⟨by simp[h1],h2⟩
  · rw[Za6]at h1
    split at h1
    · rename_i e
      have:y=x:=by simpa using h1
      subst this
      exact .inl ⟨by simp,e.symm⟩
    · exact .inr h1
theorem ZpD (g:Nat→Int):∀ n,(∀ j,j<n→g j=0)∨ ∃ i,(i<n∧g i≠0)∧∀ j,j<i→g j=0
 | 0=>.inl fun _ h=>absurd h (Nat.not_lt_zero _)
 | n+1=>by
  rcases ZpD g n with h | ⟨i,⟨h1,h2⟩,h3⟩
  · by_cases e:g n=0
    · exact .inl (ZZ h e)
    · exact .inr ⟨n,⟨by omega,e⟩,h⟩
  · exact .inr ⟨i,⟨by omega,h2⟩,h3⟩
theorem Zgp {n:Nat} {g h:Nat→Int} (hh:∀ i,i<n→(∀ j,j<i→g j=0)→g i=h i):Xo n g=Xo n h:=by
 by_cases e:∃ i,i<n∧g i≠0
 · obtain⟨i,hi,hmin⟩:∃ i,(i<n∧g i≠0)∧∀ j,j<i→g j=0:=by
    rcases ZpD g n with h0 | h0
    · obtain⟨i,hi,hn⟩:=e
      exact absurd (h0 i hi) hn
    · exact h0
   have h0:∀ j,j<i→h j=0:=fun j hj=>by rw[←hh j (by omega) fun q hq=>hmin q (by omega)];exact hmin j hj
   have h1:=hh i hi.1 hmin
   rw[Qq hi.1 hmin hi.2,Qq hi.1 h0 (by rw[←h1];exact hi.2),h1]
 · have h0:∀ j,j<n→g j=0:=fun j hj=>Classical.byContradiction fun h=>e ⟨j,hj,h⟩
   rw[Q5 h0,Q5 fun j hj=>by rw[←hh j hj fun q hq=>h0 q (by omega)];exact h0 j hj]
end
section
variable {d:Db} {k:Nat} {fs:List ByteArray} {hm:List (ByteArray×Hy)} {tm:List (ByteArray×ByteArray)} {bf:List Hy}
theorem KInv.fr' (h:KInv d k fs hm tm bf) (hk:k<d.frames.length) (s:ByteArray):s∈X6 fs (ge d.frames k).label↔frL d (k+1) s=true:=by
 rw[ZeT,frL,Zfk hk,Bool.or_eq_true,h.fr s,frL,decide_eq_true_eq]
 exact or_congr Iff.rfl eq_comm
theorem Zir (h:KInv d k fs hm tm bf) (hk:k<d.frames.length) {y:Hy} {bs:List Hy} {ts:List (ByteArray×ByteArray)} {dm:Bool} (ht:TyI bs ts):
 ZeZ d.consts d.vars (X6 fs (ge d.frames k).label) hm tm (lsK bs) ts y dm=Zop d k y bs dm:=by
 unfold ZeZ Zop
 by_cases h1:Q1 y dm=true
 · rw[if_pos h1,if_pos h1]
 rw[if_neg h1,if_neg h1]
 have h1':Q1 y dm=false:=by simpa using h1
 have q1:(((decide (y.label∈d.consts)||decide (y.label∈d.vars))||decide (y.label∈X6 fs (ge d.frames k).label))||decide (y.label∈lsK bs))=((frL d (k+1) y.label||ZeB d y.label)||bs.any (ZpL y)):=by
  rw[show decide (y.label∈X6 fs (ge d.frames k).label)=frL d (k+1) y.label by rw[Bool.eq_iff_iff,decide_eq_true_eq];exact h.fr' hk _,
   show decide (y.label∈lsK bs)=bs.any (ZpL y) by rw[Bool.eq_iff_iff,decide_eq_true_eq,Zq4,List.any_eq_true];simp[ZpL],←ZeB,Bool.or_comm (ZeB d y.label)]
 rw[q1]
 by_cases h2:(frL d (k+1) y.label||ZeB d y.label)=true
 · rw[if_pos (by rw[h2];rfl),if_pos h2]
 rw[if_neg h2,show(frL d (k+1) y.label||ZeB d y.label)=false by simpa using h2,Bool.false_or]
 by_cases h3:bs.any (ZpL y)=true
 · rw[if_pos h3,if_pos h3]
 rw[if_neg h3,if_neg h3]
 change (if Zgk d y then 12 else _)=_
 by_cases h4:Zgk d y=true
 · rw[if_pos h4,if_pos h4]
 rw[if_neg h4,if_neg h4,h.hy.bad]
 cases hf:y.floating with
 | true=>
  have hl:=Yv h1' hf
  simp only[Bool.not_true,Bool.false_and,Bool.false_eq_true,if_false,Bool.true_and]
  rw[h.ty.bad y hl,ht.bad y hl,ht.have y hl,List.any_append]
 | false=>
  simp only[Bool.not_false,Bool.false_and,Bool.false_eq_true,if_false,Bool.true_and]
  have hl:(decide (((y.text.length:Nat):Int)=0)||decide (200< ((y.text.length:Nat):Int)))=false:=by
   have:=h1'
   simp only[Q1,hf,Bool.not_false,Bool.true_and,Bool.or_eq_false_iff]at this
   simpa using this.2
  rw[Zfw,hl]
  simp
theorem Zds {d:Db} {k:Nat} {y:Hy} {bs:List Hy} {dm:Bool} (h:Zop d k y bs dm=0):
 bs.any (ZpL y)=false∧(y.floating=true→(oth d k++bs).any (Zrh y)=false∧bs.any (hOf y)=false)∧(oth d k).any (Zri y)=false:=by
 unfold Zop at h
 by_cases h1:Q1 y dm=true
 · rw[if_pos h1]at h;exact absurd h (by decide)
 rw[if_neg h1]at h
 by_cases h2:(frL d (k+1) y.label||ZeB d y.label)=true
 · rw[if_pos h2]at h;exact absurd h (by decide)
 rw[if_neg h2]at h
 by_cases h3:bs.any (ZpL y)=true
 · rw[if_pos h3]at h;exact absurd h (by decide)
 rw[if_neg h3]at h
 by_cases h4:Zgk d y=true
 · rw[if_pos h4]at h;exact absurd h (by decide)
 rw[if_neg h4]at h
 by_cases h5:(!y.floating&& !decide (Zbu d y.text=0))=true
 · rw[if_pos h5]at h;simp[h]at h5
 rw[if_neg h5]at h
 by_cases h6:(y.floating&& (oth d k++bs).any (Zrh y))=true
 · rw[if_pos h6]at h;exact absurd h (by decide)
 rw[if_neg h6]at h
 by_cases h7:(y.floating&&bs.any (hOf y))=true
 · rw[if_pos h7]at h;exact absurd h (by decide)
 rw[if_neg h7]at h
 by_cases h8:(oth d k).any (Zri y)=true
 · rw[if_pos h8]at h;exact absurd h (by decide)
 exact⟨(Bool.not_eq_true _).mp h3,fun hf=>⟨by rw[hf,Bool.true_and]at h6;exact(Bool.not_eq_true _).mp h6,by rw[hf,Bool.true_and]at h7;exact(Bool.not_eq_true _).mp h7⟩,(Bool.not_eq_true _).mp h8⟩
theorem Zlz (h:∀ j,j< (alH (ge d.frames k)).length→ZpF d k j=0):∀ i,i≤(alH (ge d.frames k)).length→TyI ((alH (ge d.frames k)).take i) (tsK ((alH (ge d.frames k)).take i)):=by
 intro i
 induction i with
 | zero=>intro _;exact⟨fun x hx=>by simp at hx,fun v t ht=>by simp[tsK,Qk]at ht⟩
 | succ i ih=>
  intro hi
  have h0:=h i (by omega)
  rw[ZU (by omega),ZbC]
  exact ZhO (ih (by omega)) (fun hf=>Yv (ZbP h0) hf) fun hf=>((Zds h0).2.1 hf).2
theorem Zn7 (h:KInv d k fs hm tm bf) (hk:k<d.frames.length):Xo (alH (ge d.frames k)).length (hyK d.consts d.vars fs hm tm (ge d.frames k))=Zq3 d k:=by
 have key:∀ i,i< (alH (ge d.frames k)).length→(∀ j,j<i→ZpF d k j=0)→hyK d.consts d.vars fs hm tm (ge d.frames k) i=ZpF d k i∧TyI ((alH (ge d.frames k)).take i) (tsK ((alH (ge d.frames k)).take i)):=by
  intro i
  induction i with
  | zero=>
   intro _ _
   have ht:TyI ((alH (ge d.frames k)).take 0) (tsK ((alH (ge d.frames k)).take 0)):=⟨fun x hx=>by simp at hx,fun v t ht=>by simp[tsK,Qk]at ht⟩
   exact⟨Zir h hk ht,ht⟩
  | succ i ih=>
   intro hi hj
   have h0:=hj i (by omega)
   have ht:TyI ((alH (ge d.frames k)).take (i+1)) (tsK ((alH (ge d.frames k)).take (i+1))):=by
    rw[ZU (by omega),ZbC]
    exact ZhO (ih (by omega) fun j hj'=>hj j (by omega)).2 (fun hf=>Yv (ZbP h0) hf) fun hf=>((Zds h0).2.1 hf).2
   exact⟨Zir h hk ht,ht⟩
 exact(Zgp fun i hi hj=>(key i hi hj).1.symm).symm
theorem Zi4:∀ {l:List Hy},(∀ i,i<l.length→(ge l i).floating=true→(ge l i).text.length=2∧(l.take i).any (hOf (ge l i))=false)→(Zfv l).Nodup:=by
 intro l h
 have key:∀ i,i≤l.length→(Zfv (l.take i)).Nodup:=by
  intro i
  induction i with
  | zero=>intro _;simp[Zfv]
  | succ i ih=>
   intro hi
   rw[Zfv,YY (by omega),List.map_append]
   by_cases hf:(ge l i).floating=true
   · simp only[hf,if_true,List.map_cons,List.map_nil]
     rw[List.nodup_append]
     refine⟨ih (by omega),by simp,fun x hx z hz e=>?_⟩
     rw[List.mem_singleton.1 hz]at e
     obtain⟨w,hw,rfl⟩:=List.mem_map.1 hx
     rw[List.mem_filter]at hw
     have h1:=h i (by omega) hf
     have h2:=List.any_eq_false.1 h1.2 w hw.1
     refine h2 ?_
     rw[hOf,ZaS h1.1]
     obtain⟨q,hq,rfl⟩:=XT hw.1
     have hq':q<i:=by simp at hq;omega
     have e2:ge (l.take i) q=ge l q:=by simp[ge,List.getD_eq_getElem?_getD,hq']
     rw[e2]at hw e ⊢
     exact ofB_one.2 ⟨by simpa using hw.2,(h q (by omega) (by simpa using hw.2)).1,e⟩
   · simp only[hf,Bool.false_eq_true,if_false,List.map_nil,List.append_nil]
     exact ih (by omega)
 have:=key l.length (Nat.le_refl _)
 rwa [ZJ (Nat.le_refl _)]at this
theorem Zrj {α:Type} [Inhabited α] {xs ys:List α} {i:Nat} (h:i<xs.length):ge (xs++ys) i=ge xs i:=by
 simp[ge,List.getD_eq_getElem?_getD,List.getElem?_append_left h]
theorem Zqq (h:∀ j,j< (alH (ge d.frames k)).length→ZpF d k j=0):Zpn d.vars (ge d.frames k)=Zsv d (ge d.frames k):=by
 have hf0:∀ i,i< (ge d.frames k).hyps.length→(ge (ge d.frames k).hyps i).floating=true→(ge (ge d.frames k).hyps i).text.length=2∧((ge d.frames k).hyps.take i).any (hOf (ge (ge d.frames k).hyps i))=false:=fun i hi hf=>by
  have h0:=h i (by simp[alH];omega)
  rw[ZpF]at h0
  rw[Zrj hi]at h0
  rw[List.take_append_of_le_length (by omega)]at h0
  exact⟨Yv (ZbP h0) hf,((Zds h0).2.1 hf).2⟩
 have hnd:=Zi4 hf0
 have hm0:Zil d.vars (ge d.frames k)=Zcc d (ge d.frames k):=rfl
 have hmn:(Zcc d (ge d.frames k)).Nodup:=(Zlp _ _).1
 unfold Zpn Zsv
 rw[ZmP rfl,hm0]
 have e1:(ge d.frames k).hyps.all (ZjD (Zcc d (ge d.frames k)))=(ge d.frames k).hyps.all (hIn (Zcc d (ge d.frames k))):=by
  rw[Bool.eq_iff_iff,List.all_eq_true,List.all_eq_true]
  refine forall_congr' fun x=>⟨fun hx hm=>?_,fun hx hm=>?_⟩<;>have:=hx hm
  · obtain⟨i,hi,rfl⟩:=XT hm
    cases hf:(ge (ge d.frames k).hyps i).floating with
    | false=>simp[hIn,hf]
    | true=>
     simp only[ZjD,hf,Bool.not_true,Bool.false_or,decide_eq_true_eq]at this
     simp[hIn,ofB,hf,(hf0 i hi hf).1,this]
  · obtain⟨i,hi,rfl⟩:=XT hm
    cases hf:(ge (ge d.frames k).hyps i).floating with
    | false=>simp[ZjD,hf]
    | true=>
     simp only[hIn,ofB,hf,Bool.not_true,Bool.false_or,Bool.true_and,Bool.and_eq_true,decide_eq_true_eq]at this
     simp[ZjD,hf,this.2]
 rw[e1]
 by_cases ha:(ge d.frames k).hyps.all (hIn (Zcc d (ge d.frames k)))=true
 · have hsub:∀ s∈Zfv (ge d.frames k).hyps,s∈Zcc d (ge d.frames k):=fun s hs=>by
    obtain⟨x,hx,rfl⟩:=List.mem_map.1 hs
    rw[List.mem_filter]at hx
    have:=List.all_eq_true.1 (e1.trans ha) x hx.1
    simpa [ZjD,hx.2]using this
   have e2:decide ((Zfv (ge d.frames k).hyps).length=(Zcc d (ge d.frames k)).length)=(Zcc d (ge d.frames k)).all fun s=>decide (s∈Zfv (ge d.frames k).hyps):=by
    rw[Bool.eq_iff_iff,decide_eq_true_eq,List.all_eq_true]
    constructor
    · intro e s hs
      rw[decide_eq_true_eq]
      refine Classical.byContradiction fun hn=>?_
      have:=ZbN (ys:=(Zcc d (ge d.frames k)).erase s) hnd fun z hz=>(List.mem_erase_of_ne (fun e':z=s=>hn (by rw[←e'];exact hz))).2 (hsub z hz)
      rw[List.length_erase_of_mem hs]at this
      have:=List.length_pos_of_mem hs
      omega
    · intro e
      have h1:=ZbN hnd hsub
      have h2:=ZbN hmn fun s hs=>by simpa using e s hs
      omega
   rw[e2,ha]
   simp only[Bool.true_and,Bool.and_assoc]
 · rw[show(ge d.frames k).hyps.all (hIn (Zcc d (ge d.frames k)))=false by simpa using ha]
   rfl
theorem Zce (h:KInv d k fs hm tm bf) (hk:k<d.frames.length):Zdt d.consts d.vars fs hm tm (ge d.frames k) bf=frE d k:=by
 unfold Zdt frE frmE
 by_cases h1:(!QN (ge d.frames k).label)=true
 · rw[if_pos h1,if_pos h1]
 rw[if_neg h1,if_neg h1,h.hy.some,←ZlU]
 have q:((hyL d k (ge d.frames k).label|| (decide ((ge d.frames k).label∈d.consts)||decide ((ge d.frames k).label∈d.vars)))||decide ((ge d.frames k).label∈fs))=((frL d k (ge d.frames k).label||hyL d k (ge d.frames k).label)||ZeB d (ge d.frames k).label):=by
  rw[show decide ((ge d.frames k).label∈fs)=frL d k (ge d.frames k).label by rw[Bool.eq_iff_iff,decide_eq_true_eq];exact h.fr _,←ZeB]
  cases hyL d k (ge d.frames k).label<;>cases frL d k (ge d.frames k).label<;>cases ZeB d (ge d.frames k).label<;>rfl
 rw[q]
 by_cases h2:((frL d k (ge d.frames k).label||hyL d k (ge d.frames k).label)||ZeB d (ge d.frames k).label)=true
 · rw[if_pos h2,if_pos h2]
 rw[if_neg h2,if_neg h2]
 by_cases h3:(decide ((40:Int)< (((ge d.frames k).hyps.length:Nat):Int))||decide ((40:Int)< (((ge d.frames k).dummies.length:Nat):Int)))=true
 · rw[if_pos h3,if_pos h3]
 rw[if_neg h3,if_neg h3,Zn7 h hk]
 by_cases h4:(!decide (Zq3 d k=0))=true
 · rw[if_pos h4,if_pos h4]
 rw[if_neg h4,if_neg h4,Zfw]
 have h4':∀ j,j< (alH (ge d.frames k)).length→ZpF d k j=0:=Q6 (n:=(alH (ge d.frames k)).length) (show Zq3 d k=0 by simpa using h4)
 by_cases h5:(decide ((((ge d.frames k).text.length:Nat):Int)=0)||decide (200< (((ge d.frames k).text.length:Nat):Int)))=true
 · rw[if_pos h5,if_pos h5,if_pos (by decide)]
 rw[if_neg h5,if_neg h5]
 by_cases h6:(!decide (Zbu d (ge d.frames k).text=0))=true
 · rw[if_pos h6,if_pos h6]
 rw[if_neg h6,if_neg h6,ZdW,Zqq h4']
 by_cases h7:Zsv d (ge d.frames k)=true
 · rw[if_pos h7,if_neg (show ¬ (!decide ((0:Int)=0))=true by decide),if_neg (show ¬ (!Zsv d (ge d.frames k))=true by simp[h7])]
   have e8:Zsy (ge d.frames k)=(((decide (0< (((ge d.frames k).proof.length:Nat):Int))&& !(ge d.frames k).thm)||decide (8000< (((ge d.frames k).proof.length:Nat):Int)))|| !(ge d.frames k).proof.all XR):=by
    rw[show(!(ge d.frames k).proof.all XR)=(ge d.frames k).proof.any fun s=>!XR s from List.not_all_eq_any_not ..]
    unfold Zsy
    by_cases h0:(ge d.frames k).proof=[]
    · simp[h0]
    · have:0< (ge d.frames k).proof.length:=List.length_pos_iff.2 h0
      simp[this]
   have e9:(((Qf (ge d.frames k).hyps).drop (Ze4 (bf.map Hy.label) ((Qf (ge d.frames k).hyps).map Hy.label))).any fun y=>(ZD hm y.label).isSome)=ordB d k (ge d.frames k):=by
    rw[ordB,h.bf,←List.map_drop,List.any_map]
    congr 1
    funext y
    rw[h.hy.some,←ZlU];rfl
   rw[e8,e9]
   by_cases h8:((decide (0< (((ge d.frames k).proof.length:Nat):Int))&& !(ge d.frames k).thm)||decide (8000< (((ge d.frames k).proof.length:Nat):Int)))=true
   · rw[if_pos (by rw[h8];rfl),if_pos h8]
   · rw[if_neg h8,show((decide (0< (((ge d.frames k).proof.length:Nat):Int))&& !(ge d.frames k).thm)||decide (8000< (((ge d.frames k).proof.length:Nat):Int)))=false by simpa using h8,Bool.false_or]
 · rw[if_neg h7,if_pos (show(!decide ((70:Int)=0))=true by decide),if_pos (show(!Zsv d (ge d.frames k))=true by simpa using h7)]
theorem Zos (h:frE d k=0):∀ j,j< (alH (ge d.frames k)).length→ZpF d k j=0:=by
 refine Q6 (n:=(alH (ge d.frames k)).length) ?_
 change Zq3 d k=0
 unfold frE frmE at h
 refine Classical.byContradiction fun hn=>?_
 by_cases h1:(!QN (ge d.frames k).label)=true
 · rw[if_pos h1]at h;exact absurd h (by decide)
 rw[if_neg h1]at h
 by_cases h2:((frL d k (ge d.frames k).label||hyL d k (ge d.frames k).label)||ZeB d (ge d.frames k).label)=true
 · rw[if_pos h2]at h;exact absurd h (by decide)
 rw[if_neg h2]at h
 by_cases h3:(decide ((40:Int)< (((ge d.frames k).hyps.length:Nat):Int))||decide ((40:Int)< (((ge d.frames k).dummies.length:Nat):Int)))=true
 · rw[if_pos h3]at h;exact absurd h (by decide)
 rw[if_neg h3,if_pos (by simpa using hn)]at h
 exact hn h
theorem ZlJ (h:KInv d k fs hm tm bf) (hk:k<d.frames.length) (h0:frE d k=0) {tn:List (ByteArray×ByteArray)}
 (ht:∀ v,ZD tn v=if(ZD (tsK (alH (ge d.frames k))) v).isSome then ZD (tsK (alH (ge d.frames k))) v else ZD tm v):
 KInv d (k+1) (X6 fs (ge d.frames k).label) (hmK hm (alH (ge d.frames k))) tn (Qf (ge d.frames k).hyps):=by
 have hl:=Zos h0
 have hT:=Zlz hl (alH (ge d.frames k)).length (Nat.le_refl _)
 rw[ZJ (Nat.le_refl _)]at hT
 have hat:∀ y∈alH (ge d.frames k),(y.floating=true→(oth d k).any (Zrh y)=false)∧(oth d k).any (Zri y)=false:=fun y hy=>by
  obtain⟨j,hj,rfl⟩:=XT hy
  have:=Zds (hl j hj)
  refine⟨fun hf=>?_,this.2.2⟩
  have:=(this.2.1 hf).1
  rw[List.any_append,Bool.or_eq_false_iff]at this
  exact this.1
 have hdist:∀ x∈alH (ge d.frames k),∀ y∈alH (ge d.frames k),y.label=x.label→y=x:=fun x hx y hy e=>by
  obtain⟨i,hi,rfl⟩:=XT hx
  obtain⟨j,hj,rfl⟩:=XT hy
  have key:∀ p q,p<q→q< (alH (ge d.frames k)).length→(ge (alH (ge d.frames k)) p).label≠(ge (alH (ge d.frames k)) q).label:=fun p q hpq hq e=>by
   have:=(Zds (hl q hq)).1
   rw[List.any_eq_false]at this
   refine this (ge (alH (ge d.frames k)) p) ?_ (by simpa [ZpL]using e)
   have e2:ge ((alH (ge d.frames k)).take q) p=ge (alH (ge d.frames k)) p:=by simp[ge,List.getD_eq_getElem?_getD,hpq]
   rw[←e2]
   exact ZM (show p< ((alH (ge d.frames k)).take q).length by rw[List.length_take];omega)
  rcases Nat.lt_trichotomy i j with h1 | h1 | h1
  · exact absurd e.symm (key i j h1 hj)
  · rw[h1]
  · exact absurd e (key j i h1 hi)
 have hsam:∀ x∈oth d k,∀ y∈alH (ge d.frames k),y.label=x.label→y=x:=fun x hx y hy e=>by
  have:=List.any_eq_false.1 (hat y hy).2 x hx
  simp only[Zri,Bool.and_eq_true,Bool.not_eq_true',decide_eq_true_eq,not_and,Bool.not_eq_false]at this
  exact(hyEq_iff.1 (this e.symm)).symm
 refine⟨h.fr' hk,⟨fun x hx=>?_,fun s x hx=>?_⟩,⟨fun x hx v hv=>?_,fun v t hv=>?_⟩,?_⟩
 · rw[ZcS hk]at hx
   rcases List.mem_append.1 hx with hx | hx
   · exact Zhk _ _ _ (hsam x hx) (.inr (h.hy.hit x hx))
   · exact Zhk _ _ _ (hdist x hx) (.inl hx)
 · rw[ZcS hk]
   rcases ZlV _ _ _ _ hx with⟨h1,h2⟩ | h1
   · exact⟨List.mem_append_right _ h1,h2⟩
   · have:=h.hy.got _ _ h1
     exact⟨List.mem_append_left _ this.1,this.2⟩
 · rw[ZcS hk]at hx
   rw[ht]
   rcases List.mem_append.1 hx with hx | hx
   · cases hs:ZD (tsK (alH (ge d.frames k))) v with
     | none=>simpa using h.ty.hit x hx v hv
     | some t=>
      obtain⟨y,hy,h1,h2⟩:=hT.got v t hs
      have hy1:=ofB_one.1 h1
      have:=List.any_eq_false.1 ((hat y hy).1 hy1.1) x hx
      simp only[Zrh,ZaS hy1.2.1,hy1.2.2,hv,Bool.true_and,Bool.not_eq_true',decide_eq_false_iff_not,Classical.not_not]at this
      simp[this,h2]
   · rw[hT.hit x hx v hv];rfl
 · rw[ZcS hk]
   rw[ht]at hv
   split at hv
   · obtain⟨y,hy,h1⟩:=hT.got v t hv
     exact⟨y,List.mem_append_right _ hy,h1⟩
   · obtain⟨y,hy,h1⟩:=h.ty.got v t hv
     exact⟨y,List.mem_append_left _ hy,h1⟩
 · rw[befL,if_neg (by omega),Nat.add_sub_cancel]
end
end Go.Proofs.YtdgbcfloaenhbaaGreatDoor
