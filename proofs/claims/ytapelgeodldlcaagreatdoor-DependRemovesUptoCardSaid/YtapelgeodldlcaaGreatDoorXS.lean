/-
  DERIVED: the shelf's contracts at this dump, in plain words.
  CONTRACTS of the program: frames' small functions.
  CONTRACTS of the program: classes of bytes, labels, symbols.
  CONTRACTS of the program: whether a word can stand in a proof.
  PLAIN SPECIFICATIONS: the sets of a frame, as the program looks at them.
  CONTRACTS of the program: what is known of a database.
  CONTRACTS of the program: the sets of a frame, closures.
  CONTRACTS of the library: room, rows in a row, copies of maps.
  PLAIN SPECIFICATIONS: a frame's error by what the program knows, and what it knows behind it.
  CONTRACTS of the program: a frame.
  PLAIN LAW: what the program knows of a database and what the reference computes anew.
  PLAIN LAW: the program's check of a database is the reference's.
-/
import Derived.Test.YtapelgeodldlcaaGreatDoorXR
namespace Go.Proofs
open Go.Shelf
def Tryz.lays106_ren:Go.Shelf.Ren:=⟨fun | 106=>78 | 213=>97 | 265=>129 | n=>n,fun | 9=>9 | 3=>3 | n=>n,fun | n=>n⟩
theorem Tryz.lays106:Go.Proofs.Lays.n106 Tryz.prog Tryz.lays106_ren:= {
 mixed:=by kernel_rfl
 f106:=Tryz.func78.trans (congrArg some (by kernel_rfl))
 f213:=Tryz.func97.trans (congrArg some (by kernel_rfl))
 f265:=Tryz.func129.trans (congrArg some (by kernel_rfl))
 t3:=Tryz.underlying3
 a3:=Tryz.isAgg3
 z3:=Tryz.sizeOf3
 v3:=Tryz.zeroValue3
 t9:=Tryz.underlying9
 a9:=Tryz.isAgg9
 z9:=Tryz.sizeOf9
 v9:=Tryz.zeroValue9 }
open Go.RowKit in
theorem Tryz.strings_Compare (a b:ByteArray) (w:World):
 Calls Tryz.prog 78 #[.string a,.string b] w fun e w'=>e= .returned (.int .i64 (Lib.compareBytes a.data.toList b.data.toList))∧w'=w:=Any.strings_Compare Tryz.lays106 a b w
end Go.Proofs
set_option maxHeartbeats 8000000
set_option maxRecDepth 100000
namespace Go.Proofs.YtapelgeodldlcaaGreatDoor
open Go.RowKit
theorem Zgz {J:World→Prop} (_:Stab J) (x:ByteArray) (y:ByteArray):Fn Tryz.prog J 78 [.str x,.str y] (.int (ZrQ x y)):=fun S w vs hS hJ0 h=>by
 simp only[RelL]at h
 obtain⟨u,_,rfl,h1,u2,_,rfl,h2,rfl⟩:=h
 rw[h1.lit,h2.lit]
 exact Calls.mono (Tryz.strings_Compare x y w) fun e w' ⟨he,hw⟩=>⟨_,he,Rel.of_lit _,hw▸Keeps.refl _ _,hw▸hJ0⟩
theorem Zew {J:World→Prop} (hJ:Stab J) (x:Pr) (y:Pr)  :Fn Tryz.prog J 63 [.agg (prC x),.agg (prC y)] (.int (Zg9 x y)):=by
 refine Zu (N:=19) Tryz.func63 rfl rfl (lb rfl) fun S w0 hS hJ0=>?_
 clear hJ0
 refine hqs tb hJ [1000,1001] [.ptr (prC x),.ptr (prC y),_] [0,1] [_,_] rfl ⟨fun _ _ hk hx hl _=>YP rfl (hl.env 0 0 _ rfl rfl) (hS _ hk.size) (js hJ hx),fun _ _ hk hx hl _=>YP rfl (hl.env 1 1 _ rfl rfl) (hS _ hk.size) (js hJ hx),trivial⟩ ?_
 refine Zj (hqs tb hJ [0,1,1005] [_,_,_,_,.int (ZrQ x.a y.a),_] [4] [_,_,_] rfl ⟨iFn hS hJ (Zgz hJ (x:=x.a) (y:=y.a) ) ZnU,trivial⟩ ?_)
 refine qs tb hJ [0,1,2,1001] [_,_] [_,_,_,_] ?_
 refine cj 3 (fun hb1=>?_) fun hb1=>?_
 try simp at hb1
 refine qs tb hJ [1001] [_,_] [_] ?_
 exact Zg (rtn (m:=0) rfl rfl (eI (by grind[Zg9])))
 try simp at hb1
 refine Zc (nx (hqs tb hJ [1005] [_,_,_,_,.int (ZrQ x.b y.b),_] [4] [_] rfl ⟨iFn hS hJ (Zgz hJ (x:=x.b) (y:=y.b) ) ZnU,trivial⟩ ?_))
 exact Zg (rtn (m:=0) rfl rfl (eI (by grind[Zg9])))
theorem Zgo {J:World→Prop} (hJ:Stab J) (x:Hy) (y:Hy)  :Fn Tryz.prog J 59 [.agg (hyC x),.agg (hyC y)] (.bool (ZrH x y)):=by
 refine Zu (N:=24) Tryz.func59 rfl rfl (lb rfl) fun S w0 hS hJ0=>?_
 clear hJ0
 refine hqs tb hJ [1000,1001] [.ptr (hyC x),.ptr (hyC y),_] [0,1] [_,_] rfl ⟨fun _ _ hk hx hl _=>YP rfl (hl.env 0 0 _ rfl rfl) (hS _ hk.size) (js hJ hx),fun _ _ hk hx hl _=>YP rfl (hl.env 1 1 _ rfl rfl) (hS _ hk.size) (js hJ hx),trivial⟩ ?_
 refine hqs tb hJ [1019] [_,_,_,_,_,_,_,_,_,_,.bool (x.floating==y.floating),_,_,_,_,_,_,.bool (decide (x.text=y.text)),_,_] [10,17] [_] rfl ⟨fun _ _ _ hx hl hc=>r_eqlB undb_4 rfl (hl.D 7 12 rfl hc) (hl.D 9 14 rfl hc) hx,iFn hS hJ (Zjb hJ (xs:=x.text) (ys:=y.text) ) ZnV,trivial⟩ ?_
 exact Zg (rtn (m:=0) rfl rfl (eB (by first | rfl | grind[ZF])))
theorem ZkE {J:World→Prop} (hJ:Stab J) (hs:List Hy) (t:List ByteArray) (b:hs.length≤40):Fn Tryz.prog J 62 [.rd (YW hs),.rd (Zb t)] (.rd (ZbW (t::(Qq hs).map Hy.text))):=by
 refine Zu (N:=26) Tryz.func62 rfl rfl (lb rfl) fun S w0 hS hJ0=>?_
 refine tw Yj ?_
 refine ln 0 fun hl1=>?_
 refine ln 1 fun hl2=>?_
 refine qso tb hJ [0,1] [_] [_,_] ?_
 refine tsq ?_
 refine snK 1 tb rfl ?_
 refine Zsr Z0 Zdl hJ rfl rfl rfl (lb rfl) (fun _ _ h=>(h.get 0 rfl)) fun v1=>?_
 refine snK 1 tb rfl ?_
 refine seK [0,3] [_,_] rfl ?_
 refine nx (Zj (ZI tb hJ [0,1000,1001,1002] [_,.int (hs.length:Nat),_] [1] [_,_,_,_] rfl ⟨YG ZN,trivial⟩ ?_))
 refine Zf (lpo (ι:=Nat×Value×(List (List ByteArray))) (fun(k,_,out)=>(k≤hs.length)∧(out=t::(Qq (hs.take k)).map Hy.text)∧(out.length≤k+1)) (fun(_,v,out)=>[OB.row v 22 1 (out.map Zh)]) (fun(k,v,_)=>[(12,.int (k:Nat)),(5,.lit v)]) (fun(k,_,_)=>hs.length-k) [1,2,3,0] [_,_] (0,v1,[t]) ⟨Nat.zero_le _,by simp[Qq],by simp⟩ ?_)
 rintro⟨k,v,out⟩ ⟨f1_1,f1_2,f1_3⟩
 refine qso tb hJ [0,1,2,3,1000] [_] [_,_,_,_,_] ?_
 refine cjS 4 (fun hb1=>?_) fun hb1=>?_
 try simp at hb1
 refine Zc (nx (Zj (Zf (tsq ?_))))
 refine sq (.ptr (hyC (ge hs k))) rfl rfl (lb rfl) (fun _ _ h=>Yg (i:=(k:Int)) ZR rfl (h.get 0 rfl) (h.get 2 rfl) (Int.natCast_nonneg _) (Yy (xs:=hs) (k:=k) sfz) rfl h.x) ?_
 refine snK 1 tb rfl ?_
 refine Qi (cs:=hyC (ge hs k)) Za9 rfl rfl rfl (lb rfl) rfl rfl rfl (by decide) (m:=0) rfl rfl (fun a w h=>Zr hS _ h.keep h.x _ (Nat.le_refl _)) (fun a w h w' hk'=>Yw hJ _ _ hk' h.x) ?_
 refine seK [0,3,4,5,6] [_,_,_,_,_] rfl ?_
 refine nx (qso tb hJ [0,1,2,3,4,1002] [_,_,_] [_,_,_,_,_,_] ?_)
 refine cj 5 (fun hb2=>?_) fun hb2=>?_
 try simp at hb2
 refine Zw (snK 3 tb rfl ?_)
 refine sq (.rd (ZbW ([(ge hs k).text]))) rfl rfl (lb rfl) (fun _ _ h=>Yx Z0 Zdl rfl (h.get 0 rfl) (Zr hS _ h.keep h.x _ (Nat.le_refl _)) (jo hJ h.x)) ?_
 refine YX (f:=Zh) (m:=3) (s:=19) out ([(ge hs k).text]) (fun _=>rfl) Zbp hJ hJ0 rfl rfl rfl (lb rfl) rfl rfl (fun a w h=>(h.get 0 rfl)) sfz sfz fun v2=>?_
 refine snK 1 tb rfl ?_
 refine seK [0,2,3,7,8,9] [_,_,_,_,_,_] rfl ?_
 refine nx (ln 1 fun hl3=>?_)
 refine ln 2 fun hl4=>?_
 refine YQ tb hJ [0,3,4,1001] [.int (k+1:Nat),_] [0] [_,_,_,_] rfl ⟨Yv,trivial⟩ ?_
 exact Xi (k+1,v2,out++([(ge hs k).text])) [1,2,3,0] ⟨by omega,by rw[Qq,Yo (by omega),f1_2];simp[Qq,hb2],by simp;omega⟩
 try simp at hb2
 refine Zc (nx (YQ tb hJ [1,2,4,1001] [.int (k+1:Nat),_] [0] [_,_,_,_] rfl ⟨Yv,trivial⟩ ?_))
 exact Xi (k+1,v,out) [0,1,3,2] ⟨by omega,by rw[Qq,Yo (by omega),f1_2];simp[Qq,hb2],by omega⟩
 try simp at hb1
 refine Zx (nx (qso tb hJ [1001] [_,_] [_] ?_))
 refine tw (fun h=>Yq hS h (m:=0) (s:=4) rfl) ?_
 exact Zg (Qw (m:=0) rfl rfl (congrArg (fun z=>AV.rd (ZbW z)) (show out=(t::(Qq hs).map Hy.text)from by rw[f1_2,ZC (by omega)])))
theorem ZhS {J:World→Prop} (hJ:Stab J) (M:Nat) (vs:List ByteArray) (l:List (List ByteArray))  :FnM (ι:=Nat) Tryz.prog J 61 [OB.set keyS M vs] [.lit (.map (some M)),.rd (ZbW l)] [] (fun i'=>.lit (.map (some (i')))) (fun i'=>[OB.set keyS (i') (ZbB vs l.flatten)]):=by
 refine ZX (N:=31) Tryz.func61 rfl rfl (lb rfl) fun S w0 R hS hJ0 hH=>?_
 refine Z6 (B:=St All (SO S (R)) w0 31 [(0,.lit (.map (some M))),(1,.rd (ZbW l))] (XO J S w0.heap.size (R))) ?_ fun a w h=>h
 refine ln 1 fun hl1=>?_
 refine ZI tb hJ [0,1] [.rd (.lit (Go.Value.map none))] [0] [_,_] rfl ⟨fun _ _ _ hx _ _=>XI rfl (Rel.of_lit (Go.Value.map none)) hx,trivial⟩ ?_
 refine tsq ?_
 refine QC keyS hJ rfl rfl rfl (lb rfl) fun m1=>?_
 refine snK 1 tb rfl ?_
 refine seK [0,2,3] [_,_,_] rfl ?_
 refine nx (Zj (ZI tb hJ [0,1,1000,1001,1002] [_,.int (l.length:Nat),_] [1] [_,_,_,_,_] rfl ⟨YG Zam,trivial⟩ ?_))
 refine Zf (lpo (ι:=Nat×(List ByteArray)) (fun(k,ys)=>(k≤l.length)∧(ys=ZbB vs (l.take k).flatten)) (fun(_,ys)=>(OB.set keyS m1 ys::R)) (fun(k,_)=>[(13,.int (k:Nat))]) (fun(k,_)=>l.length-k) [0,1,2,3,4] [_,_,_,_] (0,([]:List ByteArray)) ⟨Nat.zero_le _,by simp[ZbB]⟩ ?_)
 rintro⟨k,ys⟩ ⟨f1_1,f1_2⟩
 refine qso tb hJ [0,1,2,3,4,1000] [_] [_,_,_,_,_,_] ?_
 refine cjS 5 (fun hb1=>?_) fun hb1=>?_
 try simp at hb1
 refine Zc (nx (Zj (Zf (ZI tb hJ [0,1,2,3,4,1001,1002] [.ptr [Zb (ge l k)],_,_] [0] [_,_,_,_,_,_,_] rfl ⟨iIx Z0,trivial⟩ ?_))))
 refine ln 5 fun hl2=>?_
 refine ZI tb hJ [0,1,2,3,4,1000,1001,1002] [_,.int ((ge l k).length:Nat),_] [1] [_,_,_,_,_,_,_,_] rfl ⟨YG Zv,trivial⟩ ?_
 refine Zf (lpo (ι:=Nat×(List ByteArray)) (fun(j,zs)=>(j≤(ge l k).length)∧(zs=ZbB vs ((l.take k).flatten++(ge l k).take j))) (fun(_,zs)=>(OB.set keyS m1 zs::R)) (fun(j,_)=>[(19,.int (j:Nat))]) (fun(j,_)=>(ge l k).length-j) [0,1,2,3,4,5,6,7] [_,_,_,_,_,_,_] (0,ys) ⟨Nat.zero_le _,by simp[f1_2]⟩ ?_)
 rintro⟨j,zs⟩ ⟨f2_1,f2_2⟩
 refine qso tb hJ [0,1,2,3,4,5,6,7,1000] [_] [_,_,_,_,_,_,_,_,_] ?_
 refine cjS 8 (fun hb2=>?_) fun hb2=>?_
 try simp at hb2
 refine Zc (nx (Zj (Zf (ZI tb hJ [0,1,2,3,4,5,6,7,1002] [.ptr [.lit (.string (ge (ge l k) j))],_,_] [0] [_,_,_,_,_,_,_,_,_] rfl ⟨iIx Zn,trivial⟩ ?_))))
 refine ZI tb hJ [0,1,2,3,4,5,6,7,8,1002] [_,_,.bool (decide ((ge (ge l k) j)∈vs))] [2] [_,_,_,_,_,_,_,_,_,_] rfl ⟨fun _ _ hk hx hl _=>Z8 (Kd:=keyS) (xs:=vs) ZV ZM (ge (ge l k) j) rfl (Yf hH hk hx (mo 0 rfl)) (hl.D 0 23 rfl rfl) (hl.D 1 24 rfl rfl) hx,trivial⟩ ?_
 refine cj 9 (fun hb3=>?_) fun hb3=>?_
 try simp at hb3
 refine Zw (snK 2 tb rfl ?_)
 refine Q0 ZV hJ hJ0 (ge (ge l k) j) rfl rfl (.inl rfl) (fun a w h=>⟨(h.get 1 rfl),(h.get 0 rfl),(Rel.of_lit (Go.Value.bool true))⟩) ?_
 refine seK [2,3,4,5,6,7,8,9] [_,_,_,_,_,_,_,_] rfl ?_
 refine nx (YQ tb hJ [0,1,2,3,4,5,6,1001] [.int (j+1:Nat),_] [0] [_,_,_,_,_,_,_,_] rfl ⟨Yv,trivial⟩ ?_)
 exact Xi (j+1,XT zs (ge (ge l k) j)) [0,1,2,3,4,5,6,7] ⟨by omega,by rw[ZO (by omega),←List.append_assoc,ZdP,←f2_2];first | (simp[hb3,XT];done) | (simp[hb3,XT];grind)⟩
 try simp at hb3
 refine Zc (nx (YQ tb hJ [0,1,2,3,4,5,6,1001] [.int (j+1:Nat),_] [0] [_,_,_,_,_,_,_,_] rfl ⟨Yv,trivial⟩ ?_))
 exact Xi (j+1,zs) [0,1,2,3,4,5,6,7] ⟨by omega,by rw[ZO (by omega),←List.append_assoc,ZdP,←f2_2];first | (simp;done) | (simp[hb3];done) | (simp;grind)⟩
 try simp at hb2
 refine Zx (nx (YQ tb hJ [0,1,2,3,1001] [.int (k+1:Nat),_] [0] [_,_,_,_,_] rfl ⟨Yv,trivial⟩ ?_))
 exact Xi (k+1,zs) [0,1,2,3,4] ⟨by omega,by rw[f2_2,ZC (xs:=ge l k) (by omega),ZO (by omega)];simp⟩
 try simp at hb1
 refine Zx (nx (qso tb hJ [1001] [_,_] [_] ?_))
 refine tw (ob0 (congrArg (fun z'=>OB.set keyS m1 (z')) (show ys=(ZbB vs l.flatten)from by rw[f1_2,ZC (by omega)]))) ?_
 exact Zg (fun a w h=>ZQ  (m:=0) m1 rfl h rfl rfl)
theorem Zmv {J:World→Prop} (hJ:Stab J) (M:Nat) (ms:List ByteArray) (p:Pr)  :FnR Tryz.prog J 81 [OB.set keyS M ms] [.agg (prC p),.ptr [.lit (.map (some M))]] (.bool (!decide (p.a∈ms)|| !decide (p.b∈ms))):=by
 refine Z9 (N:=16) Tryz.func81 rfl rfl (lb rfl) fun S w0 hS hJ0 hH=>?_
 clear hJ0
 refine hqs tb hJ [1,1000] [.ptr (prC p),_] [0] [_,_] rfl ⟨fun _ _ hk hx hl _=>YP rfl (hl.env 0 0 _ rfl rfl) (hS _ hk.size) (js hJ hx),trivial⟩ ?_
 refine hqs tb hJ [1012] [_,_,_,.bool (decide (p.a∈ms)),_,_,_,_,_,.bool (decide (p.b∈ms)),_,_,_] [3,9] [_] rfl ⟨fun a _ hk hx hl _=>Z8 (Kd:=keyS) (xs:=ms) ZV ZM p.a rfl (Y0 hH hk (mo 0 rfl)) (hl.D 0 4 rfl rfl) (hl.D 2 6 rfl rfl) hx,fun _ _ hk hx hl hc=>Z8 (Kd:=keyS) (xs:=ms) ZV ZM p.b rfl (Y0 hH hk (mo 0 rfl)) (hl.D 6 10 rfl hc) (hl.D 8 12 rfl hc) hx,trivial⟩ ?_
 exact Zg (rtn (m:=0) rfl rfl (eB (by first | rfl | grind[ZF])))
theorem Zpj {J:World→Prop} (hJ:Stab J) (M:Nat) (ms:List ByteArray) (l:List Pr) (b:l.length*32≤140737488351232):FnR Tryz.prog J 65 [OB.set keyS M ms] [.lit (.map (some M)),.rd (Xm l)] (.rd (Xm (l.filter (inV ms)))):=by
 refine Z9 (N:=9) Tryz.func65 rfl rfl (lb rfl) fun S w0 hS hJ0 hH=>?_
 refine tw Yj ?_
 refine ln 1 fun hl1=>?_
 refine ZI tb hJ [1,1000] [.ptr [.lit (.map (some M))],_] [0] [_,_] rfl ⟨fun _ _ hk hx hl _=>ZbA rfl (hl.env 0 0 _ rfl rfl) (Zr hS _ hk hx _ (Nat.le_refl _)) (jo hJ hx),trivial⟩ ?_
 refine tsq ?_
 refine snK 1 tb rfl ?_
 refine Y7 (O:=[]) (R:=[]) (ZpD hJ (xs:=l) (b)) Zt1 rfl rfl rfl (lb rfl) hS hJ0 Zq (fun a w h=>(Za (h.get 0 rfl) Ze)) fun z1=>?_
 refine sq (.fn 81 [.ptr [.lit (.map (some M))]]) rfl rfl (lb rfl) (fun _ _ h=>Xy (caps:=[(Go.Operand.tmp 2)]) rfl (Za (h.get 3 rfl) Ze) h.x) ?_
 refine Y7 (O:=[OB.row z1 115 2 (l.map prC)]) (R:=[]) (Zfp hJ (v:=z1) (xs:=l) (f:=81) (caps:=[.ptr [.lit (.map (some M))]]) (Os:=[]) (Hs:=[OB.set keyS M ms]) (p:=(fun x':Pr=>!decide (x'.a∈ms)|| !decide (x'.b∈ms))) (fun q'=>Zmv hJ M ms q') (Zt0) (by omega)) Zt2 rfl rfl rfl (lb rfl) hS hJ0 (ZG (hH _ (mo 0 rfl)) Zq) (fun a w h=>(Za (h.get 1 rfl) (Za (h.get 0 rfl) Ze))) fun _=>?_
 refine snK 1 tb rfl ?_
 refine seK [0,1] [_,_] rfl ?_
 refine nx (ln 0 fun hl2=>?_)
 exact Zg (Qw (m:=0) rfl rfl (congrArg (fun z=>AV.rd (Xm z)) (show(l.filter fun x'=>!(fun x':Pr=>!decide (x'.a∈ms)|| !decide (x'.b∈ms)) x')=(l.filter (inV ms))from by congr 1;funext x';simp[inV])))
theorem Zfo {J:World→Prop} (hJ:Stab J) (y:Hy)  :Fn Tryz.prog J 52 [.agg (hyC y)] (.bool y.floating):=by
 refine Zu (N:=5) Tryz.func52 rfl rfl (lb rfl) fun S w0 hS hJ0=>?_
 clear hJ0
 refine hqs tb hJ [1000] [.ptr (hyC y),_] [0] [_] rfl ⟨fun _ _ hk hx hl _=>YP rfl (hl.env 0 0 _ rfl rfl) (hS _ hk.size) (js hJ hx),trivial⟩ ?_
 refine qs tb hJ [1002] [_,_,_] [_] ?_
 exact Zg (rtn (m:=0) rfl rfl rfl)
theorem ZcL {J:World→Prop} (hJ:Stab J) (f:Fr) (b:f.hyps.length*48≤140737488351232):Fn Tryz.prog J 22 [.agg (frC f)] (.rd (YW (Qq f.hyps))):=by
 refine Zu (N:=7) Tryz.func22 rfl rfl (lb rfl) fun S w0 hS hJ0=>?_
 refine tw Yj ?_
 refine ZI tb hJ [1000] [.ptr (frC f),_] [0] [_] rfl ⟨fun _ _ hk hx hl _=>YP rfl (hl.env 0 0 _ rfl rfl) (Zr hS _ hk hx _ (Nat.le_refl _)) (jo hJ hx),trivial⟩ ?_
 refine tsq ?_
 refine snK 2 tb rfl ?_
 refine Y7 (O:=[]) (R:=[]) (ZpF hJ (xs:=f.hyps) (b)) Zui rfl rfl rfl (lb rfl) hS hJ0 Zq (fun a w h=>(Za (h.get 0 rfl) Ze)) fun z1=>?_
 refine Y7 (O:=[OB.row z1 84 3 (f.hyps.map hyC)]) (R:=[]) (Zfq hJ (v:=z1) (xs:=f.hyps) (f:=52) (caps:=[]) (Os:=[]) (Hs:=[]) (p:=(fun x':Hy=>x'.floating)) (fun q'=>(Zfo hJ q').r) (Zuh) (by omega)) Zuj rfl rfl rfl (lb rfl) hS hJ0 Zq (fun a w h=>(Za (h.get 0 rfl) (Za (QQ 52) Ze))) fun _=>?_
 refine snK 1 tb rfl ?_
 refine seK [0,1,3] [_,_,_] rfl ?_
 refine nx (ln 0 fun hl1=>?_)
 refine ln 2 fun hl2=>?_
 exact Zg (Qw (m:=0) rfl rfl (congrArg (fun z=>AV.rd (YW z)) (show(f.hyps.filter fun x'=>!(fun x':Hy=>x'.floating) x')=(Qq f.hyps)from rfl)))
theorem Zpt {J:World→Prop} (hJ:Stab J) (xs:List Hy) (ys:List Hy)  :Fn Tryz.prog J 45 [.rd (YW xs),.rd (YW ys)] (.int (ZfE (xs.map Hy.label) (ys.map Hy.label):Nat)):=by
 refine Zu (N:=32) Tryz.func45 rfl rfl (lb rfl) fun S w0 hS hJ0=>?_
 clear hJ0
 refine ln 0 fun hl1=>?_
 refine ln 1 fun hl2=>?_
 refine qs tb hJ [0,1] [_] [_,_] ?_
 refine qs tb hJ [0,1,1000] [_] [_,_,_] ?_
 refine Zj (Zf (lp (ι:=Nat) (fun k=>(k≤xs.length)∧(k≤ys.length)∧(∀ j,j<k→(ge xs j).label=(ge ys j).label)) (fun k=>[(5,.int (k:Nat))]) (fun k=>xs.length-k) [0,1,2] [_,_] 0 ⟨Nat.zero_le _,Nat.zero_le _,fun j hj=>by omega⟩ ?_))
 rintro k ⟨f1_1,f1_2,f1_3⟩
 refine Zj (hqs tb hJ [0,1,2,1022] [_,_,.int (xs.length:Nat),_,_,_,_,.int (ys.length:Nat),_,_,_,_,_,.ptr (hyC (ge xs k)),_,_,_,_,.ptr (hyC (ge ys k)),_,_,_,_] [2,7,13,18] [_,_,_,_] rfl ⟨YG ZN,YG ZN,gIx ZR (hk:=fun(hc':(((decide ((k:Int)< (xs.length:Int)))&& (decide ((k:Int)< (ys.length:Int))))==true)=true)=>by(try simp at hc');first | omega | (simp;omega) | grind[ZF]),gIx ZR (hk:=fun(hc':(((decide ((k:Int)< (xs.length:Int)))&& (decide ((k:Int)< (ys.length:Int))))==true)=true)=>by(try simp at hc');first | omega | (simp;omega) | grind[ZF]),trivial⟩ ?_)
 refine cj 3 (fun hb1=>?_) fun hb1=>?_
 try simp at hb1
 refine Zc (nx (Zf (hqp tb hJ [0,1,1002] [_,.int (k+1:Nat),_] [1] [_,_,_] rfl ⟨Yv,trivial⟩ ?_)))
 exact lpE (k+1) [0,1,2] ⟨by omega,by omega,ZZ f1_3 (by simp_all)⟩
 try simp at hb1
 refine Zx (nx (qs tb hJ [1001] [_,_] [_] ?_))
 exact Zg (rtn (m:=0) rfl rfl (eI (by exact congrArg _ (ZnK (xs.map Hy.label) (ys.map Hy.label) k (by simpa using f1_1) (by simpa using f1_2) (fun j hj=>by rw[Zjz (by omega),Zjz (by omega)];exact f1_3 j hj) (by rw[List.length_map,List.length_map];rintro⟨h1,h2,h3⟩;rw[Zjz h1,Zjz h2]at h3;simp_all)))))
theorem Zja {J:World→Prop} (hJ:Stab J) (y:Hy) (b:y.text.length*16≤140737488351232):Fn Tryz.prog J 48 [.agg (hyC y)] (.agg (hyC y)):=by
 refine Zu (N:=8) Tryz.func48 rfl rfl (lb rfl) fun S w0 hS hJ0=>?_
 refine tw Yj ?_
 refine tsq ?_
 refine ZhD (cs:=[.lit (.string y.label),.lit (.bool y.floating),Zb y.text]) hJ rfl rfl rfl (lb rfl) (fun a w h=>(h.get 0 rfl)) fun b1=>?_
 refine ZP Y2 hJ rfl rfl rfl (lb rfl) fun b2=>?_
 refine seK [0,1] [_,_] rfl ?_
 refine nx (tsq ?_)
 refine sq (.at b1 2) rfl rfl (lb rfl) (fun _ _ h=>Zm Zac rfl (h.get 1 rfl) h.x) ?_
 refine sq (.rd (Zb y.text)) rfl rfl (lb rfl) (fun _ _ h=>Zo (cs:=[.lit (.string y.label),.lit (.bool y.floating),Zb y.text]) X7 rfl (Zd h.x (mo 1 rfl)) (h.get 0 rfl) rfl h.x) ?_
 refine Y7 (O:=[]) (R:=[OB.var b2 [.lit (.string (⟨#[]⟩:ByteArray)),.lit (.bool false),Zb ([]:List ByteArray)],OB.var b1 [.lit (.string y.label),.lit (.bool y.floating),Zb y.text]]) (Zjd hJ (xs:=y.text) sfz) ZnW rfl rfl rfl (lb rfl) hS hJ0 Zq (fun a w h=>(Za (h.get 0 rfl) Ze)) fun z3=>?_
 refine sq (.at b1 2) rfl rfl (lb rfl) (fun _ _ h=>Zm Zac rfl (h.get 4 rfl) h.x) ?_
 refine kw pm2 ?_
 refine kw pm1 ?_
 refine kw (fun h=>Yq hS h (m:=1) (s:=5) rfl) ?_
 refine ZJ (b:=b1) (off:=2) (cs:=[.lit (.string y.label),.lit (.bool y.floating),Zb y.text]) (es:=[.lit (.string y.label),.lit (.bool y.floating),Zb y.text]) hJ hJ0 Zf5 rfl rfl rfl (lb rfl) rfl (fun a w h=>⟨(h.get 1 rfl),(h.get 0 rfl)⟩) ?_
 refine seK [0,2,4,5] [_,_,_,_] rfl ?_
 refine nx (ln 0 fun hl1=>?_)
 refine tsq ?_
 refine sq (.agg [.lit (.string y.label),.lit (.bool y.floating),Zb y.text]) rfl rfl (lb rfl) (fun _ _ h=>YI (cs:=[.lit (.string y.label),.lit (.bool y.floating),Zb y.text]) (ds:=[.lit (.string y.label),.lit (.bool y.floating),Zb y.text]) Zbq rfl (Zd h.x (mo 0 rfl)) (h.get 3 rfl) rfl rfl h.x) ?_
 refine kw pm1 ?_
 refine ZE (b:=b2) (off:=0) (cs:=[.lit (.string (⟨#[]⟩:ByteArray)),.lit (.bool false),Zb ([]:List ByteArray)]) (es:=[.lit (.string y.label),.lit (.bool y.floating),Zb y.text]) (news:=[.lit (.string y.label),.lit (.bool y.floating),Zb y.text]) hJ hJ0 Xp rfl rfl rfl (lb rfl) rfl (fun a w h=>⟨(h.get 3 rfl),(h.get 0 rfl)⟩) ?_
 refine seK [3] [_] rfl ?_
 exact nx (Zg (fun a w h=>QW (cs:=[.lit (.string y.label),.lit (.bool y.floating),Zb y.text]) (m:=0) rfl Zbq h rfl rfl rfl))
theorem Zrp {J:World→Prop} (hJ:Stab J) (M1:Nat) (M2:Nat) (M3:Nat) (M4:Nat) (M5:Nat) (cs:List ByteArray) (vs:List ByteArray) (l:List ByteArray)  :FnR Tryz.prog J 40 [OB.set keyS M1 cs,OB.set keyS M2 vs] [.ptr (mpC [M1,M2,M3,M4,M5]),.rd (Zb l)] (.int (Zke cs vs l)):=by
 refine Z9 (N:=30) Tryz.func40 rfl rfl (lb rfl) fun S w0 hS hJ0 hH=>?_
 clear hJ0
 refine ln 1 fun hl1=>?_
 refine hqs tb hJ [1,1000] [.ptr [.ptr (mpC [M1,M2,M3,M4,M5])],_] [0] [_,_] rfl ⟨fun _ _ hk hx hl _=>Zmj rfl (hl.env 0 0 _ rfl rfl) (hS _ hk.size) (js hJ hx),trivial⟩ ?_
 refine Zj (Zf (hqs tb hJ [0,1,1008] [_,.int (l.length:Nat),_,_,_,.int (l.length:Nat),_,_,_] [1,5] [_,_,_] rfl ⟨YG Zv,YG Zv,trivial⟩ ?_))
 refine cj 2 (fun hb1=>?_) fun hb1=>?_
 refine qs tb hJ [1000] [_] [_] ?_
 exact Zg (rtn (m:=0) rfl rfl (eI (by grind[Zke])))
 refine hqs tb hJ [1015] [_,_,_,_,_,.ptr [.lit (.string (ge l 0))],_,.bool (decide ((ge l 0)∈cs)),_,_,_,.rd (Zb (l.drop 1)),.fn 60 [.ptr [.ptr (mpC [M1,M2,M3,M4,M5])]],.bool ((l.drop 1).any (fun s=>!(decide (s∈cs)||decide (s∈vs)))),_,_] [5,7,11,12,13] [_] rfl ⟨iIx (k:=0) Zn,fun _ _ hk hx hl _=>Z8 (Kd:=keyS) (xs:=cs) ZV ZM (ge l 0) rfl (Y0 hH hk (mo 0 rfl)) (hl.D 3 18 rfl rfl) (hl.D 6 21 rfl rfl) hx,fun _ _ _ hx hl hc=>Zbe (ys:=l.drop 1) (lo:=1) (hi:=l.length) (by rw[List.take_length]) Zn (fun _=>rfl) rfl (hl.D 10 25 rfl hc) (Rel.of_lit (Go.Value.int Go.IntKind.i64 1)) rfl (by have hc':((!(decide ((ge l 0)∈cs)))==false)=true:=hc;(try simp at hc');(first | omega | (simp;omega) | grind[ZF])) (by have hc':((!(decide ((ge l 0)∈cs)))==false)=true:=hc;(try simp at hc');(first | omega | (simp;omega) | grind[ZF])) hx,fun _ _ _ hx hl _=>Xy (caps:=[(Go.Operand.tmp 2)]) rfl (Za (hl.env 1 2 _ rfl rfl) Ze) hx,fun _ _ hk hx hl hc=>Y9 (YZ hJ (xs:=(l.drop 1)) (f:=60) (caps:=[.ptr [.ptr (mpC [M1,M2,M3,M4,M5])]]) (Os:=[OB.set keyS M1 cs,OB.set keyS M2 vs]) (p:=(fun s=>!(decide (s∈cs)||decide (s∈vs)))) (fun q'=>ZsK hJ M1 M2 M3 M4 M5 cs vs q') (Zue)) ZcD rfl (nm hS hk) (hx) (ZG (Y0 hH hk (mo 0 rfl)) (ZG (Y0 hH hk (mo 1 rfl)) Zq)) (Za (hl.D 11 26 rfl hc) (Za (hl.D 12 27 rfl hc) Ze)) (js hJ hx),trivial⟩ ?_
 refine cj 0 (fun hb2=>?_) fun hb2=>?_
 refine qs tb hJ [1000] [_] [_] ?_
 exact Zg (rtn (m:=0) rfl rfl (eI (by grind[Zke])))
 refine Zc (nx (qs tb hJ [1000] [_] [_] ?_))
 exact Zg (rtn (m:=0) rfl rfl (eI (by grind[Zke])))
theorem ZmH {J:World→Prop} (hJ:Stab J)   :Fn Tryz.prog J 75 [] (.agg (clsL.map u8D)):=by
 refine Zu (N:=78) Tryz.func75 rfl rfl (lb rfl) fun S w0 hS hJ0=>?_
 refine tw Yj ?_
 refine tsq ?_
 refine ZP ZbS hJ rfl rfl rfl (lb rfl) fun b1=>?_
 refine seK [0] [_] rfl ?_
 refine nx (Zj (qso tb hJ [0,1000] [_] [_,_] ?_))
 refine Zf (lpo (ι:=Nat×(List UInt8)) (fun(k,xs)=>(k≤256)∧(xs.length=256)∧(∀ j,j<k→ge xs j=Zec (UInt8.ofNat j))∧(∀ j,k≤j→j<256→ge xs j=0)) (fun(_,xs)=>[OB.var b1 (xs.map u8D)]) (fun(k,_)=>[(3,.int (k:Nat))]) (fun(k,_)=>256-k) [0,1] [_] (0,(List.replicate 256 (0:UInt8))) ⟨Nat.zero_le _,by simp,fun j hj=>by omega,fun j _ h=>by rw[Xc (by simpa using h)];exact List.getElem_replicate _⟩ ?_)
 rintro⟨k,xs⟩ ⟨f1_1,f1_2,f1_3,f1_4⟩
 refine qso tb hJ [0,1,1000] [_] [_,_,_] ?_
 refine cjS 2 (fun hb1=>?_) fun hb1=>?_
 ·
  try simp at hb1
  refine Zc (nx (Zj (Zf (qso tb hJ [0,1,1001] [_,_] [_,_,_] ?_))))
  refine ZI tb hJ [0,1,2,1002] [_,.rd (.lit (.int .u8 ((UInt8.ofNat k).toNat:Int))),_] [1] [_,_,_,_] rfl ⟨fun _ _ _ hx hl _=>Zpc (k:=k) X9 ZbT rfl (hl.D 0 6 rfl rfl) sfz hx,trivial⟩ ?_
  refine Zf (qso tb hJ [0,1,2,3,1014] [_,_,_,_,_,_,_,_,_,_,_,_,_,_,_] [_,_,_,_,_] ?_)
  refine cj 4 (fun hb2=>?_) fun hb2=>?_
  ·
   replace hb2:c2B (UInt8.ofNat k)=true:=hb2
   refine Zw (snK 1 tb rfl ?_)
   refine sq (.at b1 k) rfl rfl (lb rfl) (fun _ _ h=>ZaU (i:=k) XG rfl (h.get 1 rfl) (h.get 0 rfl) sfz h.x) ?_
   refine ZJ (b:=b1) (off:=k) (c:=u8D (1:UInt8)) hJ hJ0 Zdb rfl rfl rfl (by rw[List.length_map];exact sfz) (ZfU sfz) (fun a w h=>⟨(h.get 0 rfl),(Rel.of_lit (Go.Value.int Go.IntKind.u8 1))⟩) ?_
   refine seK [2,3] [_,_] rfl ?_
   refine nx (YQ tb hJ [0,1001] [.int (k+1:Nat),_] [0] [_,_] rfl ⟨Yv,trivial⟩ ?_)
   exact Xi (k+1,xs.set k (1:UInt8)) [0,1] ⟨by omega,by rw[List.length_set];exact f1_2,Zdh f1_2 (by omega) f1_3 (by simp[Zec,hb2]),Zdi f1_2 (by omega) f1_4⟩
  ·
   replace hb2:c2B (UInt8.ofNat k)=false:=hb2
   refine qso tb hJ [0,1,2,3,1002] [_,_,_] [_,_,_,_,_] ?_
   refine cj 4 (fun hb3=>?_) fun hb3=>?_
   ·
    replace hb3:c3B (UInt8.ofNat k)=true:=hb3
    refine Zw (snK 1 tb rfl ?_)
    refine sq (.at b1 k) rfl rfl (lb rfl) (fun _ _ h=>ZaU (i:=k) XG rfl (h.get 1 rfl) (h.get 0 rfl) sfz h.x) ?_
    refine ZJ (b:=b1) (off:=k) (c:=u8D (4:UInt8)) hJ hJ0 Zdb rfl rfl rfl (by rw[List.length_map];exact sfz) (ZfU sfz) (fun a w h=>⟨(h.get 0 rfl),(Rel.of_lit (Go.Value.int Go.IntKind.u8 4))⟩) ?_
    refine seK [2,3] [_,_] rfl ?_
    refine nx (YQ tb hJ [0,1001] [.int (k+1:Nat),_] [0] [_,_] rfl ⟨Yv,trivial⟩ ?_)
    exact Xi (k+1,xs.set k (4:UInt8)) [0,1] ⟨by omega,by rw[List.length_set];exact f1_2,Zdh f1_2 (by omega) f1_3 (by simp[Zec,hb2,hb3]),Zdi f1_2 (by omega) f1_4⟩
   ·
    replace hb3:c3B (UInt8.ofNat k)=false:=hb3
    refine qso tb hJ [0,1,2,3,1034] [_,_,_,_,_,_,_,_,_,_,_,_,_,_,_,_,_,_,_,_,_,_,_,_,_,_,_,_,_,_,_,_,_,_,_] [_,_,_,_,_] ?_
    refine cj 4 (fun hb4=>?_) fun hb4=>?_
    ·
     replace hb4:c4B (UInt8.ofNat k)=true:=hb4
     refine Zw (snK 1 tb rfl ?_)
     refine sq (.at b1 k) rfl rfl (lb rfl) (fun _ _ h=>ZaU (i:=k) XG rfl (h.get 1 rfl) (h.get 0 rfl) sfz h.x) ?_
     refine ZJ (b:=b1) (off:=k) (c:=u8D (2:UInt8)) hJ hJ0 Zdb rfl rfl rfl (by rw[List.length_map];exact sfz) (ZfU sfz) (fun a w h=>⟨(h.get 0 rfl),(Rel.of_lit (Go.Value.int Go.IntKind.u8 2))⟩) ?_
     refine seK [2,3] [_,_] rfl ?_
     refine nx (YQ tb hJ [0,1001] [.int (k+1:Nat),_] [0] [_,_] rfl ⟨Yv,trivial⟩ ?_)
     exact Xi (k+1,xs.set k (2:UInt8)) [0,1] ⟨by omega,by rw[List.length_set];exact f1_2,Zdh f1_2 (by omega) f1_3 (by simp[Zec,hb2,hb3,hb4]),Zdi f1_2 (by omega) f1_4⟩
    ·
     replace hb4:c4B (UInt8.ofNat k)=false:=hb4
     refine qso tb hJ [0,1,2,1006] [_,_,_,_,_,_,_] [_,_,_,_] ?_
     refine cj 3 (fun hb5=>?_) fun hb5=>?_
     ·
      replace hb5:c5B (UInt8.ofNat k)=true:=hb5
      refine Zw (snK 1 tb rfl ?_)
      refine sq (.at b1 k) rfl rfl (lb rfl) (fun _ _ h=>ZaU (i:=k) XG rfl (h.get 1 rfl) (h.get 0 rfl) sfz h.x) ?_
      refine ZJ (b:=b1) (off:=k) (c:=u8D (3:UInt8)) hJ hJ0 Zdb rfl rfl rfl (by rw[List.length_map];exact sfz) (ZfU sfz) (fun a w h=>⟨(h.get 0 rfl),(Rel.of_lit (Go.Value.int Go.IntKind.u8 3))⟩) ?_
      refine seK [2,3] [_,_] rfl ?_
      refine nx (YQ tb hJ [0,1001] [.int (k+1:Nat),_] [0] [_,_] rfl ⟨Yv,trivial⟩ ?_)
      exact Xi (k+1,xs.set k (3:UInt8)) [0,1] ⟨by omega,by rw[List.length_set];exact f1_2,Zdh f1_2 (by omega) f1_3 (by simp[Zec,hb2,hb3,hb4,hb5]),Zdi f1_2 (by omega) f1_4⟩
     ·
      replace hb5:c5B (UInt8.ofNat k)=false:=hb5
      refine Zc (nx (YQ tb hJ [0,1001] [.int (k+1:Nat),_] [0] [_,_] rfl ⟨Yv,trivial⟩ ?_))
      exact Xi (k+1,xs) [0,1] ⟨by omega,f1_2,ZZ f1_3 (by rw[f1_4 k (Nat.le_refl k) (by omega)];simp[Zec,hb2,hb3,hb4,hb5]),fun j h1 h2=>f1_4 j (by omega) h2⟩
 ·
  try simp at hb1
  refine Zx (nx (tsq ?_))
  refine sq (.agg (xs.map u8D)) rfl rfl (lb rfl) (fun _ _ h=>YI (cs:=xs.map u8D) (ds:=xs.map u8D) Zej rfl (Zd h.x (mo 0 rfl)) (h.get 0 rfl) (by rw[List.drop_zero,List.take_of_length_le (by rw[List.length_map];omega)]) (by rw[List.length_map];omega) h.x) ?_
  refine ZE (b:=b1) (off:=0) (news:=xs.map u8D) hJ hJ0 (by rw[List.length_map,show xs.length=256 from(f1_2)];exact ZcJ) rfl rfl rfl (by simp only[List.length_map];exact(by omega)) (Zof (by rw[List.length_map]<;>exact(rfl))) (fun a w h=>⟨(h.get 1 rfl),(h.get 0 rfl)⟩) ?_
  refine seK [1] [_] rfl ?_
  exact nx (Zg (fun a w h=>QW (cs:=xs.map u8D) (m:=0) rfl Zej h rfl (by rw[List.length_map];exact(f1_2)) (congrArg (fun z':List UInt8=>z'.map u8D) (show xs=clsL from ZtN f1_2 fun j hj=>f1_3 j (by omega)))))
theorem ZpA {J:World→Prop} (hJ:Stab J) (xs:List UInt8) (c:UInt8)  :Fn Tryz.prog J 96 [.rd (Zq5 xs),.rd (.lit (.int .u8 (c.toNat:Int)))] (.int (Yz (fun x':UInt8=>decide (((c).toNat:Int)=((x').toNat:Int))) xs)):=by
 refine Zu (N:=19) Tryz.func96 rfl rfl (lb rfl) fun S w0 hS hJ0=>?_
 clear hJ0
 refine ln 0 fun hl1=>?_
 refine qs tb hJ [0,1] [_] [_,_] ?_
 refine Zj (hqs tb hJ [0,1,1001,1002] [_,.int (xs.length:Nat),_] [1] [_,_,_,_] rfl ⟨YG Zdt,trivial⟩ ?_)
 refine Zf (lp (ι:=Nat) (fun k=>(k≤xs.length)∧(∀ j,j<k→(fun x':UInt8=>decide (((c).toNat:Int)=((x').toNat:Int))) (ge xs j)=false)) (fun k=>[(8,.int (k:Nat))]) (fun k=>xs.length-k) [0,1,2,3] [_,_,_] 0 ⟨Nat.zero_le _,fun j hj=>by omega⟩ ?_)
 rintro k ⟨f1_1,f1_2⟩
 refine qs tb hJ [0,1,2,3,1000] [_] [_,_,_,_,_] ?_
 refine cjS 4 (fun hb1=>?_) fun hb1=>?_
 try simp at hb1
 refine Zc (nx (Zj (Zf (qs tb hJ [0,1,2,3,1001] [_,_] [_,_,_,_,_] ?_))))
 refine hqs tb hJ [0,1,2,3,4,1005] [_,_,_,.ptr [.lit (.int .u8 ((ge xs k).toNat:Int))],_,_] [3] [_,_,_,_,_,_] rfl ⟨iIx Zay,trivial⟩ ?_
 refine cj 5 (fun hb2=>?_) fun hb2=>?_
 try simp at hb2
 refine qs tb hJ [1001] [_,_] [_] ?_
 exact Zg (rtn (m:=0) rfl rfl (eI (by first | exact(YJ (p:=fun x':UInt8=>decide (((c).toNat:Int)=((x').toNat:Int))) hb1 (by simpa using hb2) f1_2).symm | exact(Ys (p:=fun x':UInt8=>decide (((c).toNat:Int)=((x').toNat:Int))) fun j hj=>f1_2 j (by omega)).symm)))
 try simp at hb2
 refine Zc (nx (hqp tb hJ [0,1,2,1001] [.int (k+1:Nat),_] [0] [_,_,_,_] rfl ⟨Yv,trivial⟩ ?_))
 exact lpE (k+1) [0,1,2,3] ⟨by omega,ZZ f1_2 (by simpa using hb2)⟩
 try simp at hb1
 refine Zx (nx (qs tb hJ [1000] [_] [_] ?_))
 exact Zg (rtn (m:=0) rfl rfl (eI (by first | exact(YJ (p:=fun x':UInt8=>decide (((c).toNat:Int)=((x').toNat:Int))) hb1 (by simpa using hb2) f1_2).symm | exact(Ys (p:=fun x':UInt8=>decide (((c).toNat:Int)=((x').toNat:Int))) fun j hj=>f1_2 j (by omega)).symm)))
theorem ZhT {J:World→Prop} (hJ:Stab J) (xs:List UInt8) (c:UInt8)  :Fn Tryz.prog J 76 [.rd (Zq5 xs),.rd (.lit (.int .u8 (c.toNat:Int)))] (.bool (decide (c∈xs))):=by
 refine Zu (N:=9) Tryz.func76 rfl rfl (lb rfl) fun S w0 hS hJ0=>?_
 clear hJ0
 refine ln 0 fun hl1=>?_
 refine qs tb hJ [0,1] [_] [_,_] ?_
 refine hqs tb hJ [1004] [_,_,.int (Yz (fun x':UInt8=>decide (((c).toNat:Int)=((x').toNat:Int))) xs),_,_] [2] [_] rfl ⟨iFn hS hJ (ZpA hJ (xs:=xs) (c:=c) ) ZtT,trivial⟩ ?_
 exact Zg (rtn (m:=0) rfl rfl (eB (by rw[Zbi,ZpP])))
theorem Zrr {J:World→Prop} (hJ:Stab J) (s:ByteArray) (bs:List UInt8)  :Fn Tryz.prog J 57 [.str s,.rd (Zq5 bs)] (.bool (Zbv s bs)):=by
 refine Zu (N:=29) Tryz.func57 rfl rfl (lb rfl) fun S w0 hS hJ0=>?_
 refine tw Yj ?_
 refine lnS 0 fun hl1=>?_
 refine ln 1 fun hl2=>?_
 refine qso tb hJ [0,1] [_] [_,_] ?_
 refine Zj (ZI tb hJ [0,1,1006] [_,_,_,_,.int (s.size:Nat),_,_] [4] [_,_,_] rfl ⟨iLeS Xn,trivial⟩ ?_)
 refine cj 2 (fun hb1=>?_) fun hb1=>?_
 refine qso tb hJ [1000] [_] [_] ?_
 exact Zg (Qw (m:=0) rfl rfl (eB (by first | (rw[Zbv,if_pos hb1];done) | (rw[Zbv,if_neg (by rw[hb1];decide)];symm;exact Zcy (p:=fun c=>decide (Zec c∈bs)) hb2 (by simpa [ZfG]using hb3)) | (rw[Zbv,if_neg (by rw[hb1];decide)];symm;exact Zoh fun j hj=>f1_2 j (by omega)))))
 refine Zc (nx (tsq ?_))
 refine sq (.agg (clsL.map u8D)) rfl rfl (lb rfl) (fun _ _ h=>ZeS (ZmH hJ  ) Zt4 rfl (Zr hS _ h.keep h.x) (h.x.1) Ze (jo hJ h.x)) ?_
 refine ZP ZbS hJ rfl rfl rfl (lb rfl) fun b1=>?_
 refine ZE (b:=b1) (off:=0) (news:=clsL.map u8D) hJ hJ0 (by rw[List.length_map,show clsL.length=256 from(ZaA)];exact ZcJ) rfl rfl rfl (by simp only[List.length_map];exact(by rw[ZaA,List.length_replicate];exact Nat.le_of_ble_eq_true rfl)) (Zof (by rw[List.length_map]<;>exact(by rw[ZaA,List.length_replicate]))) (fun a w h=>⟨(h.get 0 rfl),(h.get 1 rfl)⟩) ?_
 refine seK [0,2,3] [_,_,_] rfl ?_
 refine nx (Zj (ZI tb hJ [0,1,2,1001,1002] [_,.int (s.size:Nat),_] [1] [_,_,_,_,_] rfl ⟨iLeS Xn,trivial⟩ ?_))
 refine Zf (lpo (ι:=Nat) (fun k=>(k≤s.size)∧(∀ j,j<k→decide (Zec (bt s j)∈bs)=true)) (fun _=>[OB.var b1 (clsL.map u8D)]) (fun k=>[(17,.int (k:Nat))]) (fun k=>s.size-k) [0,1,2,3,4] [_,_,_,_] 0 ⟨Nat.zero_le _,fun j hj=>by omega⟩ ?_)
 rintro k ⟨f1_1,f1_2⟩
 refine qso tb hJ [0,1,2,3,4,1000] [_] [_,_,_,_,_,_] ?_
 refine cjS 5 (fun hb2=>?_) fun hb2=>?_
 try simp at hb2
 refine Zc (nx (Zj (Zf (qso tb hJ [0,1,2,3,4,1001] [_,_] [_,_,_,_,_,_] ?_))))
 refine ZI tb hJ [0,1,2,3,4,1007] [_,_,_,.rd (.lit (.int .u8 ((ge s.data.toList k).toNat:Int))),.at b1 ((ge s.data.toList k).toNat),.rd (.lit (.int .u8 ((ge clsL (ge s.data.toList k).toNat).toNat:Int))),.bool (decide ((ge clsL (ge s.data.toList k).toNat)∈bs)),_] [3,4,5,6] [_,_,_,_,_,_] rfl ⟨fun _ _ _ hx hl _=>Zmb (i:=(k:Int)) Xn rfl (hl.D 1 21 rfl rfl) (hl.D 2 22 rfl rfl) (Int.natCast_nonneg _) (ZfN (s:=s) (k:=k) sfz) hx,fun _ _ _ hx hl _=>ZaU (i:=(ge s.data.toList k).toNat) XG rfl (hl.env 0 5 _ rfl rfl) (hl.D 3 23 rfl rfl) (UInt8.toNat_lt _) hx,fun _ _ _ hx hl _=>Zo (cs:=clsL.map u8D) one_5 rfl (Zd hx (mo 0 rfl)) (hl.D 4 24 rfl rfl) (ZuJ (by rw[ZaA];exact UInt8.toNat_lt _)) hx,iFo hS hJ (ZhT hJ (xs:=bs) (c:=(ge clsL (ge s.data.toList k).toNat)) ) Zt3,trivial⟩ ?_
 refine cj 5 (fun hb3=>?_) fun hb3=>?_
 try simp at hb3
 refine qso tb hJ [1000] [_] [_] ?_
 exact Zg (Qw (m:=0) rfl rfl (eB (by first | (rw[Zbv,if_pos hb1];done) | (rw[Zbv,if_neg (by rw[hb1];decide)];symm;exact Zcy (p:=fun c=>decide (Zec c∈bs)) hb2 (by simpa [ZfG]using hb3)) | (rw[Zbv,if_neg (by rw[hb1];decide)];symm;exact Zoh fun j hj=>f1_2 j (by omega)))))
 try simp at hb3
 refine Zc (nx (YQ tb hJ [0,1,2,3,1001] [.int (k+1:Nat),_] [0] [_,_,_,_,_] rfl ⟨Yv,trivial⟩ ?_))
 exact Xi (k+1) [0,1,2,3,4] ⟨by omega,ZZ f1_2 (by simpa [ZfG]using hb3)⟩
 try simp at hb2
 refine Zx (nx (qso tb hJ [1000] [_] [_] ?_))
 exact Zg (Qw (m:=0) rfl rfl (eB (by first | (rw[Zbv,if_pos hb1];done) | (rw[Zbv,if_neg (by rw[hb1];decide)];symm;exact Zcy (p:=fun c=>decide (Zec c∈bs)) hb2 (by simpa [ZfG]using hb3)) | (rw[Zbv,if_neg (by rw[hb1];decide)];symm;exact Zoh fun j hj=>f1_2 j (by omega)))))
theorem Zb7 {J:World→Prop} (hJ:Stab J) (s:ByteArray)  :Fn Tryz.prog J 37 [.str s] (.bool (Zc3 s)):=by
 refine Zu (N:=6) Tryz.func37 rfl rfl (lb rfl) fun S w0 hS hJ0=>?_
 clear hJ0
 refine qs tb hJ [0] [_] [_] ?_
 refine hqs tb hJ [1001,1003] [_,.rd (Zq5 ([(2:UInt8)])),.bool (Zbv s ([(2:UInt8)])),_] [1,2] [_,_] rfl ⟨fun _ _ hk hx _ _=>Yx Zay zero_5 rfl (Rel.of_lit (Go.Value.int Go.IntKind.u8 2)) (hS _ hk.size) (js hJ hx),iFn hS hJ (Zrr hJ (s:=s) (bs:=([(2:UInt8)])) ) ZnZ,trivial⟩ ?_
 refine ln 0 fun hl1=>?_
 exact Zg (rtn (m:=1) rfl rfl (eB (ZmO s)))
theorem Zcx {J:World→Prop} (hJ:Stab J) (s:ByteArray)  :Fn Tryz.prog J 35 [.str s] (.bool (Zlf s)):=by
 refine Zu (N:=6) Tryz.func35 rfl rfl (lb rfl) fun S w0 hS hJ0=>?_
 clear hJ0
 refine qs tb hJ [0] [_] [_] ?_
 refine hqs tb hJ [1001,1003] [_,.rd (Zq5 ([2,3]:List UInt8)),.bool (Zbv s ([2,3]:List UInt8)),_] [1,2] [_,_] rfl ⟨fun a _ hk hx _ _=>Qt (k:=2) (us:=[a.eval (Go.Operand.const (Go.Value.int Go.IntKind.u8 2)),a.eval (Go.Operand.const (Go.Value.int Go.IntKind.u8 3))]) Zay Zlh rfl (by simp) (Zz (Rel.of_lit (Go.Value.int Go.IntKind.u8 2)) (Zz (Rel.of_lit (Go.Value.int Go.IntKind.u8 3)) Yb)) rfl (by decide) (by decide) (hS _ hk.size) (js hJ hx),iFn hS hJ (Zrr hJ (s:=s) (bs:=([2,3]:List UInt8)) ) ZnZ,trivial⟩ ?_
 refine ln 0 fun hl1=>?_
 exact Zg (rtn (m:=1) rfl rfl (eB (ZmN s)))
theorem ZkD {J:World→Prop} (hJ:Stab J) (s:ByteArray):Fn Tryz.prog J 102 [.str s] (.bool (XY s)):=by
 intro S w vs hS hJ0 ha
 simp only[RelL]at ha
 obtain⟨u,us,rfl,h1,rfl⟩:=ha
 rw[h1.lit]
 exact(ZkH s w).mono fun e w' ⟨he,hb⟩=>by
  have hk:Keeps All w w':=(Keeps.of_below hb).sub fun k hk _=>hk
  exact⟨_,he,Rel.of_lit _,hk,hJ w w' hk hJ0⟩
def fm7 (s:Sm):Bool:=((Zc3 s.label&& (decide ((1:Int)≤(s.text.length:Int))&&decide ((s.text.length:Int)≤200)))&&s.text.all Zlf)&&s.proof.all XY
def wd7 (s:Sm):List ByteArray:=((([s.label]++[⟨#[36,112]⟩]++s.text)++[⟨#[36,61]⟩])++s.proof)++[⟨#[36,46]⟩]
theorem Zgs {J:World→Prop} (hJ:Stab J) (g:FuncId)  :Fn Tryz.prog J 100 [.lit (.func (.func g) #[] #[])] (.fn 101 [.ptr [.lit (.func (.func g) #[] #[])]]):=by
 refine Zu (N:=4) Tryz.func100 rfl rfl (lb rfl) fun S w0 hS hJ0=>?_
 clear hJ0
 refine hqs tb hJ [1000] [.ptr [.lit (.func (.func g) #[] #[])],_] [0] [_] rfl ⟨fun _ _ hk hx hl _=>ZbA rfl (hl.env 0 0 _ rfl rfl) (hS _ hk.size) (js hJ hx),trivial⟩ ?_
 refine hqs tb hJ [1001] [.fn 101 [.ptr [.lit (.func (.func g) #[] #[])]],_] [0] [_] rfl ⟨fun _ _ _ hx hl _=>Xy (caps:=[(Go.Operand.tmp 1)]) rfl (Za (hl.env 0 1 _ rfl rfl) Ze) hx,trivial⟩ ?_
 exact Zg (rtn (m:=0) rfl rfl rfl)
theorem ZeW {J:World→Prop} (hJ:Stab J) (g:FuncId) (p:ByteArray→Bool) (q:ByteArray) (hk0:Zl Tryz.prog g) (hf:∀ q',Fn Tryz.prog J g [.str q'] (.bool (p q'))):Fn Tryz.prog J 101 [.str q,.ptr [.lit (.func (.func g) #[] #[])]] (.bool (!p q)):=by
 refine Zu (N:=8) Tryz.func101 rfl rfl (lb rfl) fun S w0 hS hJ0=>?_
 clear hJ0
 refine qs tb hJ [0,1] [_] [_,_] ?_
 refine hqs tb hJ [1004] [_,_,.bool (p q),_,_] [2] [_] rfl ⟨fun _ _ hk hx hl _=>Zbu ((hf q).r) hk0 rfl (Znw (hl.D 0 4 rfl rfl)) (nm hS hk) (hx) Zq (Za (hl.D 1 5 rfl rfl) Ze) (js hJ hx),trivial⟩ ?_
 exact Zg (rtn (m:=0) rfl rfl (eB (by first | rfl | grind[ZF])))
theorem Zps {J:World→Prop} (hJ:Stab J) (s:Sm) (hG:X8 J) (h7:s.kind=7):Fn Tryz.prog J 84 [.agg (stC s)] (.bool (fm7 s)):=by
 refine Zu (N:=76) Tryz.func84 rfl rfl (lb rfl) fun S w0 hS hJ0=>?_
 refine tw Yj ?_
 refine ZI tb hJ [1000] [.ptr (stC s),_] [0] [_] rfl ⟨fun _ _ hk hx hl _=>YP rfl (hl.env 0 0 _ rfl rfl) (Zr hS _ hk hx _ (Nat.le_refl _)) (jo hJ hx),trivial⟩ ?_
 refine Zj (qso tb hJ [0,1007] [_,_,_,_,_,_,_,_] [_,_] ?_)
 refine cj 1 (fun hb1=>?_) fun hb1=>?_
 try simp at hb1
 refine qso tb hJ [1000] [_] [_] ?_
 exact Zg (Qw (m:=0) rfl rfl (eB (by first | (exfalso;omega) | (unfold fm7;grind) | (simp only[fm7,List.all_eq_not_any_not];grind))))
 try simp at hb1
 refine Zc (nx (tsq ?_))
 refine snK 2 tb rfl ?_
 refine sq (.at 0 28) rfl rfl (lb rfl) (fun _ _ h=>ZeR (k:=7) ZaQ Zba rfl (h.get 0 rfl) (h7) (by decide) h.x) ?_
 refine sq (.agg [.lit (.string (⟨#[36,112]⟩:ByteArray)),.lit (.bool true),.lit (.int .i64 (1:Int)),.lit (.int .i64 (200:Int))]) rfl rfl (lb rfl) (fun _ _ h=>ZeQ Zhn rfl (hG _ (h.x.1)) (h.get 0 rfl) h.x) ?_
 refine ZP ZbR hJ rfl rfl rfl (lb rfl) fun b1=>?_
 refine ZE (b:=b1) (off:=0) (cs:=[.lit (.string (⟨#[]⟩:ByteArray)),.lit (.bool false),.lit (.int .i64 0),.lit (.int .i64 0)]) (es:=[.lit (.string (⟨#[36,112]⟩:ByteArray)),.lit (.bool true),.lit (.int .i64 (1:Int)),.lit (.int .i64 (200:Int))]) (news:=[.lit (.string (⟨#[36,112]⟩:ByteArray)),.lit (.bool true),.lit (.int .i64 (1:Int)),.lit (.int .i64 (200:Int))]) hJ hJ0 Zba rfl rfl rfl (lb rfl) rfl (fun a w h=>⟨(h.get 0 rfl),(h.get 1 rfl)⟩) ?_
 refine kw (fun h=>Ym hS h (m:=0) (s:=3) rfl) ?_
 refine seK [0,5] [_,_] rfl ?_
 refine nx (Zj (ZI tb hJ [1,1033] [_,_,_,_,_,.bool (Zc3 s.label),_,_,_,_,_,_,_,_,_,_,_,_,_,_,_,.int (s.text.length:Nat),_,_,_,_,_,_,_,.int (s.text.length:Nat),_,_,_,_] [5,21,29] [_,_] rfl ⟨iFo hS hJ (Zb7 hJ (s:=s.label) ) ZfI,YG Zv,YG Zv,trivial⟩ ?_))
 refine cj 1 (fun hb2=>?_) fun hb2=>?_
 try simp at hb2
 refine qso tb hJ [1000] [_] [_] ?_
 exact Zg (Qw (m:=0) rfl rfl (eB (by first | (exfalso;omega) | (unfold fm7;grind) | (simp only[fm7,List.all_eq_not_any_not];grind))))
 try simp at hb2
 refine Zc (nx (qso tb hJ [0,1000] [_] [_,_] ?_))
 refine ZI tb hJ [1001,1025] [_,_,_,.fn 101 [.ptr [.lit (.func (.func 35) #[] #[])]],.bool (s.text.any (fun w'=>!Zlf w')),_,_,_,_,_,.fn 101 [.ptr [.lit (.func (.func 102) #[] #[])]],.bool (s.proof.any (fun w'=>!XY w')),_,_,_,_,_,_,_,_,_,.int (s.proof.length:Nat),_,_,_,_] [3,4,10,11,21] [_,_] rfl ⟨fun _ _ hk hx hl _=>Zbu ((Zgs hJ 35).r) ZjT rfl (hl.D 2 53 rfl rfl) (Zr hS _ hk hx) (hx.1) Zq (Za (Zgd 35) Ze) (jo hJ hx),fun _ w hk hx hl _=>Y9 (YZ hJ (xs:=s.text) (f:=101) (caps:=[.ptr [.lit (.func (.func 35) #[] #[])]]) (Os:=[]) (p:=(fun w'=>!Zlf w')) (fun q'=>(ZeW hJ 35 Zlf q' Zij fun z'=>Zcx hJ z').r) (ZjS)) ZcD rfl (Zr hS _ hk hx) (hx.1) Zq (Za (hl.D 1 52 rfl rfl) (Za (hl.D 3 54 rfl rfl) Ze)) (jo hJ hx),fun _ _ hk hx hl hc=>Zbu ((Zgs hJ 102).r) ZjT rfl (hl.D 9 60 rfl hc) (Zr hS _ hk hx) (hx.1) Zq (Za (Zgd 102) Ze) (jo hJ hx),fun _ w hk hx hl hc=>Y9 (YZ hJ (xs:=s.proof) (f:=101) (caps:=[.ptr [.lit (.func (.func 102) #[] #[])]]) (Os:=[]) (p:=(fun w'=>!XY w')) (fun q'=>(ZeW hJ 102 XY q' ZqL fun z'=>ZkD hJ z').r) (ZjS)) ZcD rfl (Zr hS _ hk hx) (hx.1) Zq (Za (hl.D 8 59 rfl hc) (Za (hl.D 10 61 rfl hc) Ze)) (jo hJ hx),YG Zv,trivial⟩ ?_
 refine ln 0 fun hl1=>?_
 exact Zg (Qw (m:=1) rfl rfl (eB (by first | (exfalso;omega) | (unfold fm7;grind) | (simp only[fm7,List.all_eq_not_any_not];grind))))
theorem Zpu {J:World→Prop} (hJ:Stab J) (s:Sm) (hG:X8 J) (h7:s.kind=7):Fn Tryz.prog J 83 [.agg (stC s)] (.bool (!fm7 s)):=by
 refine Zu (N:=6) Tryz.func83 rfl rfl (lb rfl) fun S w0 hS hJ0=>?_
 refine tw Yj ?_
 refine ZI tb hJ [1000] [.ptr (stC s),_] [0] [_] rfl ⟨fun _ _ hk hx hl _=>YP rfl (hl.env 0 0 _ rfl rfl) (Zr hS _ hk hx _ (Nat.le_refl _)) (jo hJ hx),trivial⟩ ?_
 refine ZI tb hJ [1003] [_,.bool (fm7 s),_,_] [1] [_] rfl ⟨iFo hS hJ (Zps hJ (s:=s) (hG) (h7)) ZtX,trivial⟩ ?_
 exact Zg (Qw (m:=0) rfl rfl (eB (by first | rfl | grind[ZF])))
theorem Zgv {J:World→Prop} (hJ:Stab J) (xs:List Sm) (f:FuncId) (caps:List AV) (Os:List OB) (p:Sm→Bool) (hf:∀ q'∈xs,FnR Tryz.prog J f Os ([.agg (stC (q'))]++caps) (.bool (p q'))) (hk0:Zl Tryz.prog f):FnR Tryz.prog J 99 Os [.rd (stsC xs),.fn f caps] (.int (Yz p xs)):=by
 refine Z9 (N:=19) Tryz.func99 rfl rfl (lb rfl) fun S w0 hS hJ0 hH=>?_
 clear hJ0
 refine ln 0 fun hl1=>?_
 refine qs tb hJ [0,1] [_] [_,_] ?_
 refine Zj (hqs tb hJ [0,1,1001,1002] [_,.int (xs.length:Nat),_] [1] [_,_,_,_] rfl ⟨YG ZaP,trivial⟩ ?_)
 refine Zf (lp (ι:=Nat) (fun k=>(k≤xs.length)∧(∀ j,j<k→p (ge xs j)=false)) (fun k=>[(8,.int (k:Nat))]) (fun k=>xs.length-k) [0,1,2,3] [_,_,_] 0 ⟨Nat.zero_le _,fun j hj=>by omega⟩ ?_)
 rintro k ⟨f1_1,f1_2⟩
 refine qs tb hJ [0,1,2,3,1000] [_] [_,_,_,_,_] ?_
 refine cjS 4 (fun hb1=>?_) fun hb1=>?_
 try simp at hb1
 refine Zc (nx (Zj (Zf (qs tb hJ [0,1,2,3,1001] [_,_] [_,_,_,_,_] ?_))))
 refine hqs tb hJ [0,1,2,3,4,1005] [_,_,_,.ptr (stC (ge xs k)),_,.bool (p (ge xs k))] [3,5] [_,_,_,_,_,_] rfl ⟨iIx Q4,fun _ _ hk hx hl _=>Zbu (hf (ge xs k) (ZF (by omega))) hk0 rfl (hl.D 0 11 rfl rfl) (nm hS hk) (hx) (fun _ ho=>Y0 hH hk ho) (Za (hl.D 4 15 rfl rfl) Ze) (js hJ hx),trivial⟩ ?_
 refine cj 5 (fun hb2=>?_) fun hb2=>?_
 try simp at hb2
 refine qs tb hJ [1001] [_,_] [_] ?_
 exact Zg (rtn (m:=0) rfl rfl (eI (by first | exact(YJ hb1 hb2 f1_2).symm | exact(Ys fun j hj=>f1_2 j (by omega)).symm)))
 try simp at hb2
 refine Zc (nx (hqp tb hJ [0,1,2,1001] [.int (k+1:Nat),_] [0] [_,_,_,_] rfl ⟨Yv,trivial⟩ ?_))
 exact lpE (k+1) [0,1,2,3] ⟨by omega,ZZ f1_2 hb2⟩
 try simp at hb1
 refine Zx (nx (qs tb hJ [1000] [_] [_] ?_))
 exact Zg (rtn (m:=0) rfl rfl (eI (by first | exact(YJ hb1 hb2 f1_2).symm | exact(Ys fun j hj=>f1_2 j (by omega)).symm)))
theorem ZdM {J:World→Prop} (hJ:Stab J) (xs:List Sm) (f:FuncId) (caps:List AV) (Os:List OB) (p:Sm→Bool) (hf:∀ q'∈xs,FnR Tryz.prog J f Os ([.agg (stC (q'))]++caps) (.bool (p q'))) (hk0:Zl Tryz.prog f):FnR Tryz.prog J 82 Os [.rd (stsC xs),.fn f caps] (.bool (xs.any p)):=by
 refine Z9 (N:=9) Tryz.func82 rfl rfl (lb rfl) fun S w0 hS hJ0 hH=>?_
 clear hJ0
 refine ln 0 fun hl1=>?_
 refine qs tb hJ [0,1] [_] [_,_] ?_
 refine hqs tb hJ [1004] [_,_,.int (Yz p xs),_,_] [2] [_] rfl ⟨fun _ _ hk hx hl _=>Y9 (Zgv hJ (xs:=xs) (f:=f) (caps:=caps) (Os:=Os) (p:=p) (hf) (hk0)) ZtR rfl (nm hS hk) (hx) (fun _ ho=>Y0 hH hk ho) (Za (hl.D 0 5 rfl rfl) (Za (hl.D 1 6 rfl rfl) Ze)) (js hJ hx),trivial⟩ ?_
 exact Zg (rtn (m:=0) rfl rfl (eB (by rw[←Zbi])))
theorem Zmt {J:World→Prop} (hJ:Stab J) (s:Sm) (hG:X8 J) (h7:s.kind=7) (hl:s.text.length+s.proof.length≤100):Fn Tryz.prog J 85 [.agg (stC s)] (.rd (Zb (wd7 s))):=by
 refine Zu (N:=40) Tryz.func85 rfl rfl (lb rfl) fun S w0 hS hJ0=>?_
 refine tw Yj ?_
 refine ZI tb hJ [1000] [.ptr (stC s),_] [0] [_] rfl ⟨fun _ _ hk hx hl _=>YP rfl (hl.env 0 0 _ rfl rfl) (Zr hS _ hk hx _ (Nat.le_refl _)) (jo hJ hx),trivial⟩ ?_
 refine tsq ?_
 refine snK 2 tb rfl ?_
 refine sq (.at 0 28) rfl rfl (lb rfl) (fun _ _ h=>ZeR (k:=7) ZaQ Zba rfl (h.get 0 rfl) (h7) (by decide) h.x) ?_
 refine sq (.agg [.lit (.string (⟨#[36,112]⟩:ByteArray)),.lit (.bool true),.lit (.int .i64 (1:Int)),.lit (.int .i64 (200:Int))]) rfl rfl (lb rfl) (fun _ _ h=>ZeQ Zhn rfl (hG _ (h.x.1)) (h.get 0 rfl) h.x) ?_
 refine ZP ZbR hJ rfl rfl rfl (lb rfl) fun b1=>?_
 refine ZE (b:=b1) (off:=0) (cs:=[.lit (.string (⟨#[]⟩:ByteArray)),.lit (.bool false),.lit (.int .i64 0),.lit (.int .i64 0)]) (es:=[.lit (.string (⟨#[36,112]⟩:ByteArray)),.lit (.bool true),.lit (.int .i64 (1:Int)),.lit (.int .i64 (200:Int))]) (news:=[.lit (.string (⟨#[36,112]⟩:ByteArray)),.lit (.bool true),.lit (.int .i64 (1:Int)),.lit (.int .i64 (200:Int))]) hJ hJ0 Zba rfl rfl rfl (lb rfl) rfl (fun a w h=>⟨(h.get 0 rfl),(h.get 1 rfl)⟩) ?_
 refine kw (fun h=>Ym hS h (m:=0) (s:=3) rfl) ?_
 refine seK [0,5] [_,_] rfl ?_
 refine nx (qso tb hJ [0,1,1000] [_] [_,_,_] ?_)
 refine Zj (qso tb hJ [0,1,2,1001] [_,_] [_,_,_,_] ?_)
 refine cj 3 (fun hb1=>?_) fun hb1=>?_
 ·
  refine tw (Z7 9 1 hJ) ?_
  refine Zw (snK 3 tb rfl ?_)
  refine sq (.rd (Zb ([s.label]))) rfl rfl (lb rfl) (fun _ _ h=>Yx Zn Zby rfl (h.get 0 rfl) (Zr hS _ h.keep h.x _ (Nat.le_refl _)) (jo hJ h.x)) ?_
  refine YX (f:=Q5) (m:=3) (s:=11) ([]:List ByteArray) ([s.label]) (fun _=>rfl) X3 hJ hJ0 rfl rfl rfl (lb rfl) rfl rfl (fun a w h=>(h.get 0 rfl)) (by first | omega | (simp;done) | (simp;omega)) (by first | omega | (simp;done) | (simp;omega)) fun v2=>?_
  refine snK 1 tb rfl ?_
  refine seK [0,2,6,7] [_,_,_,_] rfl ?_
  refine nx (ln 1 fun hl1=>?_)
  refine Zj (fun a w h=>YH [] (γ:=Value×Value) (fun ix'=>([.lit v2,.ptr [.lit (.string (⟨#[36,112]⟩:ByteArray)),.lit (.bool true),.lit (.int .i64 (1:Int)),.lit (.int .i64 (200:Int))],.str (⟨#[36,112]⟩:ByteArray),.rd (Zb ([(⟨#[36,112]⟩:ByteArray)])),.any,.ptr [Zb s.text,Zb s.proof],.rd (Zb s.text),.any,.any]:List AV).getD ix' .any) (fun ix'=>([true,true,true,true,true,true,true,true,true]:List Bool).getD ix' true) [(3,fun(g:Value×Value)=>.ptr [.lit (.string (⟨#[36,112]⟩:ByteArray)),.lit (.bool true),.lit (.int .i64 (1:Int)),.lit (.int .i64 (200:Int))]),(1,fun(g:Value×Value)=>.ptr (stC s)),(4,fun(g:Value×Value)=>.lit g.2)] (fun(j':Nat) (g:Value×Value)=>match j' with | 0=>[OB.row v2 9 1 ((([]:List ByteArray)++([s.label])).map Q5)] | 1=>[OB.row g.1 9 1 (((([]:List ByteArray)++([s.label]))++([(⟨#[36,112]⟩:ByteArray)])).map Q5)] | 2=>[OB.row g.2 9 1 ((((([]:List ByteArray)++([s.label]))++([(⟨#[36,112]⟩:ByteArray)]))++s.text).map Q5)] | _=>[OB.row g.2 9 1 ((((([]:List ByteArray)++([s.label]))++([(⟨#[36,112]⟩:ByteArray)]))++s.text).map Q5)]) (fun(k':Nat) (g:Value×Value)=>match k' with | 0=>g.1 | 1=>g.2 | 2=>g.2 | _=>undef) [4,7,8] 3 ((.slice none 0 0),(.slice none 0 0)) (fun _=>rfl) h hJ Yh rfl rfl rfl rfl rfl rfl (fun j' g hj p hp=>by rcases j' with _ | _ | _ | _ | j'<;>first | exact hp | exact List.mem_cons_of_mem _ hp | exact List.mem_cons_of_mem _ (List.mem_cons_of_mem _ hp) | (exfalso;omega)) ⟨?o5_1_0,⟨?o5_1_1,⟨?o5_1_2,⟨?o5_1_3,⟨?o5_1_4,⟨?o5_1_5,⟨?o5_1_6,⟨?o5_1_7,⟨?o5_1_8,trivial⟩⟩⟩⟩⟩⟩⟩⟩⟩ ⟨?e5_1_0,⟨?e5_1_1,⟨?e5_1_2,trivial⟩⟩⟩ ⟨.old 2 3 _ rfl rfl,⟨.old 3 1 _ rfl rfl,⟨.eff 2 8 4 (fun(g:Value×Value)=>g.2) rfl rfl (fun _=>rfl) (fun _ _ hx=>Xh (hx.2.1 _ (mo 0 rfl))),trivial⟩⟩⟩ ?n5_1)
  exact oX rfl fun hx hl=>Yk rfl (hl.env 0 4 _ rfl rfl) hx
  exact oX rfl fun hx hl=>ZT Zib rfl (hl.env 2 3 _ rfl rfl) hx
  exact oX rfl fun hx hl=>ZA Q1 rfl (hl.D 1 17 rfl rfl) hx
  exact oY rfl fun hk hx hl=>Yx Zn Zby rfl (hl.D 2 18 rfl rfl) (Zr hS _ hk hx _ (Nat.le_refl _)) (jo hJ hx)
  exact Zi rfl
  exact oX rfl fun hx hl=>ZT Zif rfl (hl.env 3 1 _ rfl rfl) hx
  exact oX rfl fun hx hl=>ZA X7 rfl (hl.D 5 21 rfl rfl) hx
  exact Zi rfl
  exact Zi rfl
  case e5_1_0=>exact⟨_,rfl,rfl,rfl,rfl,fun g _ w hk hx hl _=>Zp (YS (f:=Q5) (([]:List ByteArray)++([s.label])) ([(⟨#[36,112]⟩:ByteArray)]) (fun _=>rfl) X3 hJ hJ0 rfl hk hx (hl.D 0 16 rfl rfl).lit (hl.D 3 19 rfl rfl) (by first | omega | (simp;done) | (simp;omega)) (by first | omega | (simp;done) | (simp;omega))) fun v w' hp=>⟨(v,g.2),rfl,fun k' hk'=>absurd hk' (Nat.not_lt_zero _),fun _=>rfl,hp⟩⟩
  case e5_1_1=>exact⟨_,rfl,rfl,rfl,rfl,fun g _ w hk hx hl hs=>Zp (YS (f:=Q5) ((([]:List ByteArray)++([s.label]))++([(⟨#[36,112]⟩:ByteArray)])) s.text (fun _=>rfl) X3 hJ hJ0 rfl hk hx (hs 0 4 _ 20 (by omega) rfl rfl rfl) (hl.D 6 22 rfl rfl) (by first | omega | (simp;done) | (simp;omega)) (by first | omega | (simp;done) | (simp;omega))) fun v w' hp=>⟨(g.1,v),rfl,fun k' hk'=>by rcases k' with _ | _ | _ | k'<;>first | rfl | omega,fun _=>rfl,hp⟩⟩
  case e5_1_2=>exact⟨_,rfl,rfl,rfl,rfl,fun g _ w hk hx _ hs=>Zp (Zbo (.inl rfl) (hs 1 7 _ 23 (by omega) rfl rfl rfl) hk hx) fun v w' hp=>⟨g,rfl,fun _ _=>rfl,fun _=>hp.1,hp.2⟩⟩
  clear a w h
  rintro⟨v3,v4⟩
  dsimp only[List.map]
  refine nx (Zj (qso tb hJ [0,1,2,1002] [_,_,_] [_,_,_,_] ?_))
  refine cj 3 (fun hb2=>?_) fun hb2=>?_
  ·
   refine fun a w h=>YH [] (γ:=Value×Value) (fun ix'=>([.lit v4,.rd (Zb ([(⟨#[36,61]⟩:ByteArray)])),.any,.ptr [Zb s.proof],.rd (Zb s.proof),.any,.any]:List AV).getD ix' .any) (fun _=>true) [(3,fun(g:Value×Value)=>.ptr [.lit (.string (⟨#[36,112]⟩:ByteArray)),.lit (.bool true),.lit (.int .i64 (1:Int)),.lit (.int .i64 (200:Int))]),(4,fun(g:Value×Value)=>.lit g.2)] (fun(j':Nat) (g:Value×Value)=>match j' with | 0=>[OB.row v4 9 1 ((((([]:List ByteArray)++([s.label]))++([(⟨#[36,112]⟩:ByteArray)]))++s.text).map Q5)] | 1=>[OB.row g.1 9 1 (((((([]:List ByteArray)++([s.label]))++([(⟨#[36,112]⟩:ByteArray)]))++s.text)++([(⟨#[36,61]⟩:ByteArray)])).map Q5)] | 2=>[OB.row g.2 9 1 ((((((([]:List ByteArray)++([s.label]))++([(⟨#[36,112]⟩:ByteArray)]))++s.text)++([(⟨#[36,61]⟩:ByteArray)]))++s.proof).map Q5)] | _=>[OB.row g.2 9 1 ((((((([]:List ByteArray)++([s.label]))++([(⟨#[36,112]⟩:ByteArray)]))++s.text)++([(⟨#[36,61]⟩:ByteArray)]))++s.proof).map Q5)]) (fun(k':Nat) (g:Value×Value)=>match k' with | 0=>g.1 | 1=>g.2 | 2=>g.2 | _=>undef) [2,5,6] 3 ((.slice none 0 0),(.slice none 0 0)) (fun _=>rfl) h hJ Yh rfl rfl rfl rfl rfl rfl (fun j' g hj p hp=>by rcases j' with _ | _ | _ | _ | j'<;>first | exact hp | exact List.mem_cons_of_mem _ hp | exact List.mem_cons_of_mem _ (List.mem_cons_of_mem _ hp) | (exfalso;omega)) ⟨?_,⟨?_,⟨?_,⟨?_,⟨?_,⟨?_,⟨?_,trivial⟩⟩⟩⟩⟩⟩⟩ ⟨?e7_2_0,⟨?e7_2_1,⟨?e7_2_2,trivial⟩⟩⟩ ⟨.old 0 3 _ rfl rfl,⟨.eff 2 6 4 (fun(g:Value×Value)=>g.2) rfl rfl (fun _=>rfl) (fun _ _ hx=>Xh (hx.2.1 _ (mo 0 rfl))),trivial⟩⟩ ?n7_2
   exact oX rfl fun hx hl=>Yk rfl (hl.env 2 4 _ rfl rfl) hx
   exact fun _ O' _=>⟨rfl,fun _ _ hk hx _ _=>Yx Zn Zby rfl (Rel.of_lit (Go.Value.string { data:= #[36,61] }) (lb rfl)) (Zr hS _ hk hx _ (Nat.le_refl _)) (jo hJ hx)⟩
   exact Zi rfl
   exact oX rfl fun hx hl=>ZT Zie rfl (hl.env 1 1 _ rfl rfl) hx
   exact oX rfl fun hx hl=>ZA X7 rfl (hl.D 3 30 rfl rfl) hx
   exact Zi rfl
   exact Zi rfl
   case e7_2_0=>exact⟨_,rfl,rfl,rfl,rfl,fun g _ w hk hx hl _=>Zp (YS (f:=Q5) (((([]:List ByteArray)++([s.label]))++([(⟨#[36,112]⟩:ByteArray)]))++s.text) ([(⟨#[36,61]⟩:ByteArray)]) (fun _=>rfl) X3 hJ hJ0 rfl hk hx (hl.D 0 27 rfl rfl).lit (hl.D 1 28 rfl rfl) (by first | omega | (simp;done) | (simp;omega)) (by first | omega | (simp;done) | (simp;omega))) fun v w' hp=>⟨(v,g.2),rfl,fun k' hk'=>absurd hk' (Nat.not_lt_zero _),fun _=>rfl,hp⟩⟩
   case e7_2_1=>exact⟨_,rfl,rfl,rfl,rfl,fun g _ w hk hx hl hs=>Zp (YS (f:=Q5) ((((([]:List ByteArray)++([s.label]))++([(⟨#[36,112]⟩:ByteArray)]))++s.text)++([(⟨#[36,61]⟩:ByteArray)])) s.proof (fun _=>rfl) X3 hJ hJ0 rfl hk hx (hs 0 2 _ 29 (by omega) rfl rfl rfl) (hl.D 4 31 rfl rfl) (by first | omega | (simp;done) | (simp;omega)) (by first | omega | (simp;done) | (simp;omega))) fun v w' hp=>⟨(g.1,v),rfl,fun k' hk'=>by rcases k' with _ | _ | _ | k'<;>first | rfl | omega,fun _=>rfl,hp⟩⟩
   case e7_2_2=>exact⟨_,rfl,rfl,rfl,rfl,fun g _ w hk hx _ hs=>Zp (Zbo (.inl rfl) (hs 1 5 _ 32 (by omega) rfl rfl rfl) hk hx) fun v w' hp=>⟨g,rfl,fun _ _=>rfl,fun _=>hp.1,hp.2⟩⟩
   clear a w h
   rintro⟨v5,v6⟩
   dsimp only[List.map]
   refine nx (Zj (qso tb hJ [1,1002] [_,_,_] [_,_] ?_))
   refine cj 1 (fun hb3=>?_) fun hb3=>?_
   ·
    refine Zw (snK 1 tb rfl ?_)
    refine sq (.rd (Zb ([(⟨#[36,46]⟩:ByteArray)]))) rfl rfl (lb rfl) (fun _ _ h=>Yx Zn Zby rfl (Rel.of_lit (Go.Value.string { data:= #[36,46] }) (lb rfl)) (Zr hS _ h.keep h.x _ (Nat.le_refl _)) (jo hJ h.x)) ?_
    refine YX (f:=Q5) (m:=1) (s:=36) (((((([]:List ByteArray)++([s.label]))++([(⟨#[36,112]⟩:ByteArray)]))++s.text)++([(⟨#[36,61]⟩:ByteArray)]))++s.proof) ([(⟨#[36,46]⟩:ByteArray)]) (fun _=>rfl) X3 hJ hJ0 rfl rfl rfl (lb rfl) rfl rfl (fun a w h=>(h.get 0 rfl)) (by first | omega | (simp;done) | (simp;omega)) (by first | omega | (simp;done) | (simp;omega)) fun v7=>?_
    refine snK 1 tb rfl ?_
    refine seK [0,2] [_,_] rfl ?_
    refine nx (ln 1 fun hl2=>?_)
    refine qso tb hJ [1001] [_,_] [_] ?_
    refine tw (fun h=>Yq hS h (m:=0) (s:=2) rfl) ?_
    exact Zg (Qw (m:=0) rfl rfl (congrArg (fun z=>AV.rd (Zb z)) (show((((((([]:List ByteArray)++([s.label]))++([(⟨#[36,112]⟩:ByteArray)]))++s.text)++([(⟨#[36,61]⟩:ByteArray)]))++s.proof)++([(⟨#[36,46]⟩:ByteArray)]))=(wd7 s)from by simp[wd7])))
   ·
    exact False.elim (by simp at hb3)
  ·
   exact False.elim (by simp[h7]at hb2)
 ·
  exact False.elim (by cases hb1)
theorem Zlm (s:Sm):(wd7 s).length=s.text.length+s.proof.length+4:=by simp[wd7];omega
theorem ZsZ {J:World→Prop} (hJ:Stab J) (l:List Sm) (hG:X8 J) (h1:l.length=1) (h7:(ge l 0).kind=7) (hl:(ge l 0).text.length+(ge l 0).proof.length≤100):Fn Tryz.prog J 67 [.rd (stsC l)] (.tup [.rd (Zb (if fm7 (ge l 0)then wd7 (ge l 0)else [])),.int (if fm7 (ge l 0)then 0 else 2:Int)]):=by
 refine Zu (N:=27) Tryz.func67 rfl rfl (lb rfl) fun S w0 hS hJ0=>?_
 refine tw Yj ?_
 refine ln 0 fun hl1=>?_
 refine qso tb hJ [0] [_,_] [_] ?_
 refine Zj (ZI tb hJ [0,1002] [_,.int (l.length:Nat),_] [1] [_,_] rfl ⟨YG ZaP,trivial⟩ ?_)
 refine cj 1 (fun hb1=>?_) fun hb1=>?_
 exact False.elim (by rw[h1]at hb1;exact absurd hb1 (by decide))
 refine Zc (nx (Zj (ZI tb hJ [0,1001] [_,.bool (l.any (fun s'=>!fm7 s'))] [1] [_,_] rfl ⟨fun _ _ hk hx hl _=>Y9 (ZdM hJ (xs:=l) (f:=83) (caps:=[]) (Os:=[]) (p:=(fun s'=>!fm7 s')) (fun q' hq'=>(Zpu hJ q' hG (by obtain⟨j,hj,rfl⟩:=XQ hq';obtain rfl:j=0:=(by omega);exact h7)).r) (ZtY)) ZtZ rfl (Zr hS _ hk hx) (hx.1) Zq (Za (hl.D 0 10 rfl rfl) (Za (QQ 83) Ze)) (jo hJ hx),trivial⟩ ?_)))
 refine cj 1 (fun hb2=>?_) fun hb2=>?_
 have e2:fm7 (ge l 0)=false:=by obtain⟨x,hx,hn⟩:=List.any_eq_true.1 hb2;obtain⟨q,hq,rfl⟩:=XQ hx;obtain rfl:q=0:=(by omega);simpa using hn
 refine qso tb hJ [1000,1001] [_,_] [_,_] ?_
 refine tw (fun h=>Zao h (m:=0) (s:=2) rfl) ?_
 exact Zg (fun a w h=>X1 (m:=0) (k:=1) rfl (YM h) rfl rfl (congrArg (fun z=>AV.rd (Zb z)) (show([]:List ByteArray)=(if fm7 (ge l 0)then wd7 (ge l 0)else [])from by first | (rw[e2];rfl) | (rw[f1_2,if_neg (by omega),e2];rfl))) (eI (by first | (rw[e2];rfl) | (rw[f1_2,if_neg (by omega),e2];rfl))))
 have e2:fm7 (ge l 0)=true:=by have:=List.any_eq_false.1 hb2 (ge l 0) (ZF (by omega));simpa using this
 refine Zc (nx (qso tb hJ [0,1000] [_] [_,_] ?_))
 refine Zj (ZI tb hJ [1,1000,1001,1002] [_,.int (l.length:Nat),_] [1] [_,_,_,_] rfl ⟨YG ZaP,trivial⟩ ?_)
 refine Zf (tw (Z7 9 1 hJ) ?_)
 refine lpo (ι:=Nat×Value×(List ByteArray)) (fun(k,_,out)=>(k≤l.length)∧(out=if k=0 then []else wd7 (ge l 0))) (fun(_,vo,out)=>[OB.row vo 9 1 (out.map Q5)]) (fun(k,vo,_)=>[(14,.int (k:Nat)),(4,.lit vo)]) (fun(k,_,_)=>l.length-k) [1,2,3,0] [_,_] (0,(.slice none 0 0),([]:List ByteArray)) ⟨Nat.zero_le _,rfl⟩ ?_
 rintro⟨k,vo,out⟩ ⟨f1_1,f1_2⟩
 refine qso tb hJ [0,1,2,3,1000] [_] [_,_,_,_,_] ?_
 refine cjS 4 (fun hb3=>?_) fun hb3=>?_
 try simp at hb3
 have e0:k=0:=by omega
 have e1:k=0→out=[]:=fun e=>by rw[f1_2,if_pos e]
 have e5:=Zlm (ge l k)
 refine Zc (nx (Zj (Zf (tsq ?_))))
 refine sq (.ptr (stC (ge l k))) rfl rfl (lb rfl) (fun _ _ h=>Yg (i:=(k:Int)) Q4 rfl (h.get 0 rfl) (h.get 2 rfl) (Int.natCast_nonneg _) (Yy (xs:=l) (k:=k) sfz) rfl h.x) ?_
 refine snK 1 tb rfl ?_
 refine Qi (cs:=stC (ge l k)) Zls rfl rfl rfl (lb rfl) rfl rfl rfl (by decide) (m:=0) rfl rfl (fun a w h=>Zr hS _ h.keep h.x _ (Nat.le_refl _)) (fun a w h w' hk'=>Yw hJ _ _ hk' h.x) ?_
 refine seK [0,3,4,5,6] [_,_,_,_,_] rfl ?_
 refine nx (tsq ?_)
 refine snK 2 tb rfl ?_
 refine sq (.rd (Zb (wd7 (ge l k)))) rfl rfl (lb rfl) (fun _ _ h=>ZeS (Zmt hJ (s:=(ge l k)) (hG) (by rw[e0];exact h7) (by rw[e0];exact hl)) ZtW rfl (Zr hS _ h.keep h.x) (h.x.1) (Za (h.get 0 rfl) Ze) (jo hJ h.x)) ?_
 refine YX (f:=Q5) (m:=2) (s:=18) out (wd7 (ge l k)) (fun _=>rfl) X3 hJ hJ0 rfl rfl rfl (lb rfl) rfl rfl (fun a w h=>(h.get 0 rfl)) (by rw[e1 e0,e5,e0];simp only[List.length_nil];omega) (by rw[e1 e0,e5,e0];simp only[List.length_nil];omega) fun v1=>?_
 refine snK 1 tb rfl ?_
 refine seK [0,2,6,7,8] [_,_,_,_,_] rfl ?_
 refine nx (ln 1 fun hl2=>?_)
 refine ZrI tb hJ [0,2,3,4,1002] [_,.int ((out++(wd7 (ge l k))).length:Nat),_] [1] [_,_,_,_,_] rfl ⟨fun _ _ _ hx hl _=>ZaD Zv rfl (QR hS hx (mo 0 rfl) (hl.D 0 22 rfl rfl)) hx,trivial⟩ ?_
 refine cj 4 (fun hb4=>?_) fun hb4=>?_
 exact False.elim (by have:=Zlm (ge l k);rw[e0]at this;simp only[List.length_append,e1 e0,e0,decide_eq_true_eq]at hb4;simp at hb4;omega)
 refine Zc (nx (YQ tb hJ [0,1,2,1001] [.int (k+1:Nat),_] [0] [_,_,_,_] rfl ⟨Yv,trivial⟩ ?_))
 exact Xi (k+1,v1,out++(wd7 (ge l k))) [1,2,3,0] ⟨by omega,by rw[e1 e0,e0];simp⟩
 try simp at hb3
 refine Zx (nx (qso tb hJ [1001,1002] [_,_,_] [_,_] ?_))
 refine tw (fun h=>Yq hS h (m:=0) (s:=2) rfl) ?_
 exact Zg (fun a w h=>X1 (m:=0) (k:=1) rfl (YM h) rfl rfl (congrArg (fun z=>AV.rd (Zb z)) (show out=(if fm7 (ge l 0)then wd7 (ge l 0)else [])from by first | (rw[e2];rfl) | (rw[f1_2,if_neg (by omega),e2];rfl))) (eI (by first | (rw[e2];rfl) | (rw[f1_2,if_neg (by omega),e2];rfl))))
theorem fm7_x (s:ByteArray):fm7 ⟨7,⟨#[120]⟩,[⟨#[120]⟩],[s]⟩=XY s:=by
 have h1:Zc3 ⟨#[120]⟩=true:=by decide+kernel
 have h2:Zlf ⟨#[120]⟩=true:=by decide+kernel
 simp[fm7,h1,h2]
theorem ZmE {J:World→Prop} (hJ:Stab J) (s:ByteArray) (hG:X8 J):Fn Tryz.prog J 44 [.str s] (.bool (XY s)):=by
 refine Zu (N:=16) Tryz.func44 rfl rfl (lb rfl) fun S w0 hS hJ0=>?_
 refine tw Yj ?_
 refine qso tb hJ [0] [_] [_] ?_
 refine ZI tb hJ [1000,1002,1004,1007,1009,1010] [.rd (Zb ([(⟨#[120]⟩:ByteArray)])),_,.rd (Zb ([s])),.agg (stC (⟨(7:Int),(⟨#[120]⟩:ByteArray),[(⟨#[120]⟩:ByteArray)],[s]⟩:Sm)),.rd (stsC ([(⟨(7:Int),(⟨#[120]⟩:ByteArray),[(⟨#[120]⟩:ByteArray)],[s]⟩:Sm)])),.tup [.rd (Zb (if fm7 (ge ([(⟨(7:Int),(⟨#[120]⟩:ByteArray),[(⟨#[120]⟩:ByteArray)],[s]⟩:Sm)]) 0)then wd7 (ge ([(⟨(7:Int),(⟨#[120]⟩:ByteArray),[(⟨#[120]⟩:ByteArray)],[s]⟩:Sm)]) 0)else [])),.int (if fm7 (ge ([(⟨(7:Int),(⟨#[120]⟩:ByteArray),[(⟨#[120]⟩:ByteArray)],[s]⟩:Sm)]) 0)then 0 else 2:Int)],_,_,_,_,_] [0,2,3,4,5] [_,_,_,_,_,_] rfl ⟨fun _ _ hk hx _ _=>Yx Zn Zby rfl (Rel.of_lit (Go.Value.string { data:= #[120] }) (lb rfl)) (Zr hS _ hk hx _ (Nat.le_refl _)) (jo hJ hx),fun _ _ hk hx hl _=>Yx Zn Zby rfl (hl.D 1 7 rfl rfl) (Zr hS _ hk hx _ (Nat.le_refl _)) (jo hJ hx),fun a _ _ hx hl _=>ZbI (us:=[a.eval (Go.Operand.const (Go.Value.int Go.IntKind.i64 7)),a.eval (Go.Operand.const (Go.Value.string { data:= #[120] })),a.eval (Go.Operand.tmp 6),a.eval (Go.Operand.tmp 8)]) Zin rfl (by simp) (Zz (Rel.of_lit (Go.Value.int Go.IntKind.i64 7)) (Zz (Rel.of_lit (Go.Value.string { data:= #[120] }) (lb rfl)) (Zz (hl.D 0 6 rfl rfl) (Zz (hl.D 2 8 rfl rfl) Yb)))) rfl hx,fun _ _ hk hx hl _=>XF Q4 Zoy rfl rfl (hl.D 3 9 rfl rfl) (Zr hS _ hk hx _ (Nat.le_refl _)) (jo hJ hx),iFo hS hJ (ZsZ hJ (l:=([(⟨(7:Int),(⟨#[120]⟩:ByteArray),[(⟨#[120]⟩:ByteArray)],[s]⟩:Sm)])) (hG) (rfl) (rfl) (lb rfl)) Zt7,trivial⟩ ?_
 refine ln 0 fun hl1=>?_
 refine ln 1 fun hl2=>?_
 refine ln 2 fun hl3=>?_
 refine ln 3 fun hl4=>?_
 refine qso tb hJ [1002] [_,_,_] [_] ?_
 exact Zg (Qw (m:=0) rfl rfl (eB (by rw[←fm7_x s];simp only[ge,List.getD_cons_zero];cases fm7 ⟨7,⟨#[120]⟩,[⟨#[120]⟩],[s]⟩<;>simp)))
end Go.Proofs.YtapelgeodldlcaaGreatDoor
namespace Go.Proofs.YtapelgeodldlcaaGreatDoor
theorem Zra {d:Db} {k:Nat} {e:Int} (hk:k<d.consts.length) (h:∀ j,j<k→ZjI d j=0) (h0:ZjI d k≠0) (he:ZjI d k=e):Zeq d=e:=by
 have:=QA hk h h0
 rw[Zeq,this,he]
 rw[he]at h0
 simp[h0]
theorem Zq9 {d:Db} {k:Nat} {e:Int} (h1:XC d.consts.length (ZjI d)=0) (hk:k<d.vars.length) (h:∀ j,j<k→Zle d j=0) (h0:Zle d k≠0) (he:Zle d k=e):Zeq d=e:=by
 rw[Zeq,h1,QA hk h h0,he];rfl
theorem Zsm {d:Db} (h1:XC d.consts.length (ZjI d)=0) (h2:XC d.vars.length (Zle d)=0):Zeq d=0:=by
 rw[Zeq,h1,h2];rfl
theorem QX {α:Type} (ls:List (List α)) (k:Nat):(ls.take k).flatten.length≤ls.flatten.length:=by
 have h:ls.flatten=(ls.take k).flatten++(ls.drop k).flatten:=by rw[←List.flatten_append,List.take_append_drop]
 rw[h,List.length_append];omega
theorem ZnH {ts:List (ByteArray×ByteArray)} {vis:List ByteArray} {k:ByteArray} (h1:vis.Nodup) (h2:∀ q∈vis,q∈ts.map (·.1)) (h3:k∉vis∧(ZB ts k).isSome=true):ts.length-(vis++[k]).length<ts.length-vis.length:=by
 have hk:k∈ts.map (·.1):=by have:=h3.2;rw[Xq]at this;simpa using this
 have hn:(vis++[k]).Nodup:=by
  rw[List.nodup_append]
  exact⟨h1,by simp,fun x hx y hy e=>by rw[List.mem_singleton.1 hy]at e;subst e;exact h3.1 hx⟩
 have:=Zb9 (ys:=ts.map (·.1)) hn fun x hx=>by
  rcases List.mem_append.1 hx with h | h
  · exact h2 x h
  · rw[List.mem_singleton.1 h];exact hk
 simp at this ⊢
 omega
theorem ZnG {ts tm tn:List (ByteArray×ByteArray)} {vis:List ByteArray} {k:ByteArray} (h1:∀ q,ZB tn q=if q∈vis then ZB ts q else ZB tm q) (h3:k∉vis∧(ZB ts k).isSome=true):∀ q,ZB (QT tn k ((ZB ts k).getD default)) q=if q∈vis++[k]then ZB ts q else ZB tm q:=fun q=>by
 obtain⟨v,hv⟩:=Option.isSome_iff_exists.1 h3.2
 rw[Zat]
 by_cases e:q=k
 · subst e;simp[hv]
 · rw[if_neg e,h1 q]
   simp[e]
def Zjo (vs:List ByteArray) (f:Fr):List ByteArray:=ZbB vs (f.text::(Qq f.hyps).map Hy.text).flatten
def ZkK (m:List ByteArray) (h:Hy):Bool:=!h.floating||decide (ge h.text 1∈m)
def Zov (vs:List ByteArray) (wide:List Pr) (i:Nat):Bool:=((!Op.bytesLess (ge wide i).a.toList (ge wide i).b.toList|| !decide ((ge wide i).a∈vs))|| !decide ((ge wide i).b∈vs))|| (decide ((0:Int)< ((i:Nat):Int))&&decide ((0:Int)≤Zg9 (ge wide (((i:Nat):Int)-1).toNat) (ge wide i)))
def Zrf (vs:List ByteArray) (f:Fr):Bool:=
 ((f.hyps.all (ZkK (Zjo vs f))&&decide ((Zf2 f.hyps).length=(Zjo vs f).length))&& (List.range f.wide.length).all fun i=>!Zov vs f.wide i)&&decide (f.apart=f.wide.filter (inV (Zjo vs f)))
def Zet (vs:List ByteArray) (f:Fr):Int:=if Zrf vs f then 0 else 70
theorem setE_h {vs:List ByteArray} {f:Fr} (h:f.hyps.all (ZkK (Zjo vs f))=false):Zet vs f=70:=by simp[Zet,Zrf,h]
theorem setE_n {vs:List ByteArray} {f:Fr} (h:¬ (Zf2 f.hyps).length=(Zjo vs f).length):Zet vs f=70:=by simp[Zet,Zrf,h]
theorem setE_w {vs:List ByteArray} {f:Fr} {k:Nat} (hk:k<f.wide.length) (h:Zov vs f.wide k=true):Zet vs f=70:=by
 have:((List.range f.wide.length).all fun i=>!Zov vs f.wide i)=false:=by
  rw[List.all_eq_false]
  exact⟨k,by simpa using hk,by simp[h]⟩
 simp[Zet,Zrf,this]
theorem setE_a {vs:List ByteArray} {f:Fr} (h:¬ f.apart=f.wide.filter (inV (Zjo vs f))):Zet vs f=70:=by simp[Zet,Zrf,h]
theorem Zsw {vs:List ByteArray} {f:Fr} (h1:f.hyps.all (ZkK (Zjo vs f))=true) (h2:(Zf2 f.hyps).length=(Zjo vs f).length) (h3:∀ j,j<f.wide.length→Zov vs f.wide j=false) (h4:f.apart=f.wide.filter (inV (Zjo vs f))):Zet vs f=0:=by
 have:((List.range f.wide.length).all fun i=>!Zov vs f.wide i)=true:=by
  rw[List.all_eq_true]
  intro i hi
  simp[h3 i (by simpa using hi)]
 rw[Zet,Zrf,h1,this,decide_eq_true h2,decide_eq_true h4]
 rfl
end Go.Proofs.YtapelgeodldlcaaGreatDoor
set_option maxHeartbeats 8000000
set_option maxRecDepth 100000
namespace Go.Proofs.YtapelgeodldlcaaGreatDoor
open Go.RowKit
theorem Zmy {J:World→Prop} (hJ:Stab J) (M1:Nat) (M2:Nat) (M3:Nat) (M4:Nat) (M5:Nat) (d:Db)  :FnM (ι:= { p':List ByteArray×List ByteArray // Zeq d=0→p'=(d.consts,d.vars) }) Tryz.prog J 20 [] [.ptr (mpC [M1,M2,M3,M4,M5]),.agg (dbC d)] [OB.set keyS M1 ([]:List ByteArray),OB.set keyS M2 ([]:List ByteArray)] (fun _=>.int (Zeq d)) (fun i'=>[OB.set keyS M1 (i'.1.1),OB.set keyS M2 (i'.1.2)]):=by
 refine ZX (N:=50) Tryz.func20 rfl rfl (lb rfl) fun S w0 R hS hJ0 hH=>?_
 refine Z6 (B:=St All (SO S (OB.set keyS M1 ([]:List ByteArray)::OB.set keyS M2 ([]:List ByteArray)::R)) w0 50 [(0,.ptr (mpC [M1,M2,M3,M4,M5])),(1,.agg (dbC d))] (XO J S w0.heap.size (OB.set keyS M1 ([]:List ByteArray)::OB.set keyS M2 ([]:List ByteArray)::R))) ?_ fun a w h=>h
 refine ZI tb hJ [0,1000] [.ptr (dbC d),_] [0] [_,_] rfl ⟨fun _ _ hk hx hl _=>YP rfl (hl.env 1 1 _ rfl rfl) (Zr hS _ hk hx _ (Nat.le_refl _)) (jo hJ hx),trivial⟩ ?_
 refine Zj (ZI tb hJ [0,1,1001,1002,1003] [_,_,.int (d.consts.length:Nat),_] [2] [_,_,_,_,_] rfl ⟨YG Zv,trivial⟩ ?_)
 refine ln 2 fun hl1=>?_
 refine Zf (lpo (ι:=Nat×(List ByteArray)) (fun(k,cs)=>(k≤d.consts.length)∧(cs=d.consts.take k)∧(∀ j,j<k→ZjI d j=0)) (fun(_,cs)=>(OB.set keyS M1 cs::OB.set keyS M2 ([]:List ByteArray)::R)) (fun(k,_)=>[(12,.int (k:Nat))]) (fun(k,_)=>d.consts.length-k) [0,1,2,3,4] [_,_,_,_] (0,([]:List ByteArray)) ⟨Nat.zero_le _,rfl,fun j hj=>by omega⟩ ?_)
 rintro⟨k,cs⟩ ⟨f1_1,f1_2,f1_3⟩
 refine qso tb hJ [0,1,2,3,4,1000] [_] [_,_,_,_,_,_] ?_
 refine cjS 5 (fun hb1=>?_) fun hb1=>?_
 try simp at hb1
 refine Zc (nx (Zj (Zf (ZI tb hJ [0,1,2,3,4,1002] [.ptr [.lit (.string (ge d.consts k))],_,_] [0] [_,_,_,_,_,_] rfl ⟨iIx Zn,trivial⟩ ?_))))
 refine Zj (ZI tb hJ [0,1,2,3,4,5,1002] [_,.bool (Zlf (ge d.consts k)),_] [1] [_,_,_,_,_,_,_] rfl ⟨iFo hS hJ (Zcx hJ (s:=(ge d.consts k)) ) Zij,trivial⟩ ?_)
 refine cj 6 (fun hb2=>?_) fun hb2=>?_
 try simp at hb2
 have q2:ZjI d k=2:=by simp[ZjI,hb2]
 have e9:Zeq d=2:=Zra (by omega) f1_3 (by rw[q2];decide) q2
 refine qso tb hJ [1000] [_] [_] ?_
 exact Zg (fun a w h=>ZQ  (m:=0) ⟨(cs,([]:List ByteArray)),by first | (intro h9;rw[e9]at h9;exact absurd h9 (by decide)) | (intro _;rw[e1c,f2_2,ZC (by omega)])⟩ rfl h rfl (eI (e9.symm)))
 try simp at hb2
 refine Zc (nx (Zj (ZI tb hJ [0,1,2,3,4,5,1005] [_,_,_,_,_,.bool (decide ((ge d.consts k)∈cs))] [5] [_,_,_,_,_,_,_] rfl ⟨fun _ _ _ hx hl _=>Z8 (Kd:=keyS) (xs:=cs) ZV ZM (ge d.consts k) rfl (Zd hx (mo 0 rfl)) (hl.D 3 22 rfl rfl) (hl.D 4 23 rfl rfl) hx,trivial⟩ ?_)))
 refine cj 6 (fun hb3=>?_) fun hb3=>?_
 try simp at hb3
 have q2:ZjI d k=6:=by simp[ZjI,hb2,←f1_2,hb3]
 have e9:Zeq d=6:=Zra (by omega) f1_3 (by rw[q2];decide) q2
 refine qso tb hJ [1000] [_] [_] ?_
 exact Zg (fun a w h=>ZQ  (m:=0) ⟨(cs,([]:List ByteArray)),by first | (intro h9;rw[e9]at h9;exact absurd h9 (by decide)) | (intro _;rw[e1c,f2_2,ZC (by omega)])⟩ rfl h rfl (eI (e9.symm)))
 try simp at hb3
 refine Zc (nx (Zw (snK 5 tb rfl ?_)))
 refine Q0 ZV hJ hJ0 (ge d.consts k) rfl rfl (.inl rfl) (fun a w h=>⟨(h.get 1 rfl),(h.get 0 rfl),(Rel.of_lit (Go.Value.bool true))⟩) ?_
 refine seK [5,6,7,8,9] [_,_,_,_,_] rfl ?_
 refine nx (YQ tb hJ [0,1,2,3,1001] [.int (k+1:Nat),_] [0] [_,_,_,_,_] rfl ⟨Yv,trivial⟩ ?_)
 exact Xi (k+1,XT cs (ge d.consts k)) [0,1,2,3,4] ⟨by omega,by rw[ZO (by omega),←f1_2];simp[XT,hb3],ZZ f1_3 (by simp[ZjI,hb2,←f1_2,hb3])⟩
 try simp at hb1
 have e1c:cs=d.consts:=by rw[f1_2,ZC (by omega)]
 have e1:XC d.consts.length (ZjI d)=0:=Zae fun j hj=>f1_3 j (by omega)
 refine Zx (nx (Zj (ZI tb hJ [0,1001,1002,1003] [_,_,.int (d.vars.length:Nat),_] [2] [_,_,_,_] rfl ⟨YG Zv,trivial⟩ ?_)))
 refine ln 1 fun hl2=>?_
 refine Zf (lpo (ι:=Nat×(List ByteArray)) (fun(k,vs)=>(k≤d.vars.length)∧(vs=d.vars.take k)∧(∀ j,j<k→Zle d j=0)) (fun(_,vs)=>(OB.set keyS M1 cs::OB.set keyS M2 vs::R)) (fun(k,_)=>[(34,.int (k:Nat))]) (fun(k,_)=>d.vars.length-k) [0,1,2,3] [_,_,_] (0,([]:List ByteArray)) ⟨Nat.zero_le _,rfl,fun j hj=>by omega⟩ ?_)
 rintro⟨k,vs⟩ ⟨f2_1,f2_2,f2_3⟩
 refine qso tb hJ [0,1,2,3,1000] [_] [_,_,_,_,_] ?_
 refine cjS 4 (fun hb4=>?_) fun hb4=>?_
 try simp at hb4
 refine Zc (nx (Zj (Zf (ZI tb hJ [0,1,2,3,1002] [.ptr [.lit (.string (ge d.vars k))],_,_] [0] [_,_,_,_,_] rfl ⟨iIx Zn,trivial⟩ ?_))))
 refine Zj (ZI tb hJ [0,1,2,3,4,1002] [_,.bool (Zlf (ge d.vars k)),_] [1] [_,_,_,_,_,_] rfl ⟨iFo hS hJ (Zcx hJ (s:=(ge d.vars k)) ) Zij,trivial⟩ ?_)
 refine cj 5 (fun hb5=>?_) fun hb5=>?_
 try simp at hb5
 have q5:Zle d k=2:=by simp[Zle,hb5]
 have e9:Zeq d=2:=Zq9 e1 (by omega) f2_3 (by rw[q5];decide) q5
 refine qso tb hJ [1000] [_] [_] ?_
 exact Zg (fun a w h=>ZQ  (m:=0) ⟨(cs,vs),by first | (intro h9;rw[e9]at h9;exact absurd h9 (by decide)) | (intro _;rw[e1c,f2_2,ZC (by omega)])⟩ rfl h rfl (eI (e9.symm)))
 try simp at hb5
 refine Zc (nx (Zj (ZI tb hJ [0,1,2,3,4,1002] [_,_,.bool (decide ((ge d.vars k)∈cs)||decide ((ge d.vars k)∈vs))] [2] [_,_,_,_,_,_] rfl ⟨fun _ _ hk hx hl _=>Y9 (Zbf hJ (M1:=M1) (M2:=M2) (M3:=M3) (M4:=M4) (M5:=M5) (cs:=cs) (vs:=vs) (s:=(ge d.vars k)) ) ZfJ rfl (Zr hS _ hk hx) (hx.1) (ZG (Zd hx (mo 0 rfl)) (ZG (Zd hx (mo 1 rfl)) Zq)) (Za (hl.D 0 41 rfl rfl) (Za (hl.D 1 42 rfl rfl) Ze)) (jo hJ hx),trivial⟩ ?_)))
 refine cj 5 (fun hb6=>?_) fun hb6=>?_
 try simp at hb6
 have q5:Zle d k=6:=by rw[Zle,if_neg (by simp[hb5]),if_pos (by rw[←f2_2,←e1c];simpa using hb6)]
 have e9:Zeq d=6:=Zq9 e1 (by omega) f2_3 (by rw[q5];decide) q5
 refine qso tb hJ [1000] [_] [_] ?_
 exact Zg (fun a w h=>ZQ  (m:=0) ⟨(cs,vs),by first | (intro h9;rw[e9]at h9;exact absurd h9 (by decide)) | (intro _;rw[e1c,f2_2,ZC (by omega)])⟩ rfl h rfl (eI (e9.symm)))
 try simp at hb6
 refine Zc (nx (Zw (snK 5 tb rfl ?_)))
 refine kw pm1 ?_
 refine Q0 ZV hJ hJ0 (ge d.vars k) rfl rfl (.inl rfl) (fun a w h=>⟨(h.get 1 rfl),(h.get 0 rfl),(Rel.of_lit (Go.Value.bool true))⟩) ?_
 refine seK [5,6,7,8] [_,_,_,_] rfl ?_
 refine nx (YQ tb hJ [0,1,2,1001] [.int (k+1:Nat),_] [0] [_,_,_,_] rfl ⟨Yv,trivial⟩ ?_)
 refine kw pm1 ?_
 exact Xi (k+1,XT vs (ge d.vars k)) [0,1,2,3] ⟨by omega,by rw[ZO (by omega),←f2_2];simp only[XT];rw[if_neg hb6.2],ZZ f2_3 (by rw[Zle,if_neg (by simp[hb5]),if_neg (by rw[←f2_2,←e1c];simpa using hb6)])⟩
 try simp at hb4
 have e9:Zeq d=0:=Zsm e1 (Zae fun j hj=>f2_3 j (by omega))
 refine Zx (nx (qso tb hJ [1000] [_] [_] ?_))
 exact Zg (fun a w h=>ZQ  (m:=0) ⟨(cs,vs),by first | (intro h9;rw[e9]at h9;exact absurd h9 (by decide)) | (intro _;rw[e1c,f2_2,ZC (by omega)])⟩ rfl h rfl (eI (e9.symm)))
theorem p_hyp {J:World→Prop} (hJ:Stab J) (M1:Nat) (M2:Nat) (M3:Nat) (M4:Nat) (M5:Nat) (L1:Nat) (T1:Nat) (cs:List ByteArray) (vs:List ByteArray) (fs:List ByteArray) (hm:List (ByteArray×Hy)) (tm:List (ByteArray×ByteArray)) (ls:List ByteArray) (ts:List (ByteArray×ByteArray)) (y:Hy) (dm:Bool)  :FnR Tryz.prog J 39 [OB.set keyS M1 cs,OB.set keyS M2 vs,OB.set keyS M3 fs,OB.mH M4 hm,OB.mT M5 tm,OB.set keyS L1 ls,OB.mT T1 ts] [.ptr (mpC [M1,M2,M3,M4,M5]),.agg [.lit (.map (some L1)),.lit (.map (some T1))],.agg (hyC y),.bool dm] (.int (Zfy cs vs fs hm tm ls ts y dm)):=by
 refine Z9 (N:=166) Tryz.func39 rfl rfl (lb rfl) fun S w0 hS hJ0 hH=>?_
 refine tw Yj ?_
 refine ZI tb hJ [0,3,1000,1001] [.ptr (mpC [L1,T1]),.ptr (hyC y),_] [0,1] [_,_,_,_] rfl ⟨fun _ _ hk hx hl _=>YP rfl (hl.env 1 1 _ rfl rfl) (Zr hS _ hk hx _ (Nat.le_refl _)) (jo hJ hx),fun _ _ hk hx hl _=>YP rfl (hl.env 2 2 _ rfl rfl) (Zr hS _ hk hx _ (Nat.le_refl _)) (jo hJ hx),trivial⟩ ?_
 refine Zj (ZI tb hJ [0,2,3,1038] [_,_,.bool (Zc3 y.label),_,_,_,_,_,_,_,_,_,_,_,_,_,_,_,.int (y.text.length:Nat),_,_,_,_,_,_,_,_,_,_,.int (y.text.length:Nat),_,_,_,_,.int (y.text.length:Nat),_,_,_,_] [2,18,29,34] [_,_,_,_] rfl ⟨iFo hS hJ (Zb7 hJ (s:=y.label) ) ZfI,YG Zv,YG Zv,YG Zv,trivial⟩ ?_)
 refine cj 3 (fun hb1=>?_) fun hb1=>?_
 ·
  replace hb1:Zab y dm=true:=hb1
  refine qso tb hJ [1000] [_] [_] ?_
  exact Zg (Qw (m:=0) rfl rfl (eI (by grind[Zfy])))
 ·
  replace hb1:Zab y dm=false:=hb1
  have hy1:=Znq hb1
  refine Zc (nx (Zj (ZI tb hJ [0,1,2,1019] [_,_,_,.bool (decide (y.label∈cs)||decide (y.label∈vs)),_,_,_,_,_,_,_,.bool (decide (y.label∈fs)),_,_,_,_,_,_,.bool (decide (y.label∈ls)),_] [3,11,18] [_,_,_,_] rfl ⟨fun _ _ hk hx hl _=>Y9 (Zbf hJ (M1:=M1) (M2:=M2) (M3:=M3) (M4:=M4) (M5:=M5) (cs:=cs) (vs:=vs) (s:=y.label) ) ZfJ rfl (Zr hS _ hk hx) (hx.1) (ZG (Yf hH hk hx (mo 0 rfl)) (ZG (Yf hH hk hx (mo 1 rfl)) Zq)) (Za (hl.D 0 55 rfl rfl) (Za (hl.D 2 57 rfl rfl) Ze)) (jo hJ hx),fun _ _ hk hx hl hc=>Z8 (Kd:=keyS) (xs:=fs) ZV ZM y.label rfl (Yf hH hk hx (mo 2 rfl)) (hl.D 8 63 rfl hc) (hl.D 10 65 rfl hc) hx,fun _ _ hk hx hl hc=>Z8 (Kd:=keyS) (xs:=ls) ZV ZM y.label rfl (Yf hH hk hx (mo 5 rfl)) (hl.D 15 70 rfl hc) (hl.D 17 72 rfl hc) hx,trivial⟩ ?_)))
  refine cj 3 (fun hb2=>?_) fun hb2=>?_
  ·
   refine qso tb hJ [1000] [_] [_] ?_
   exact Zg (Qw (m:=0) rfl rfl (eI (by grind[Zfy])))
  ·
   refine Zc (nx (Zj (qso tb hJ [0,1,2,1001] [_,_] [_,_,_,_] ?_)))
   refine cj 3 (fun hb3=>?_) fun hb3=>?_
   ·
    refine Zj (ZI tb hJ [0,1,2,1005,1021] [_,_,_,_,_,_,.ptr [.lit (.string (ge y.text 0))],_,.bool (decide ((ge y.text 0)∈cs)),_,_,_,_,_,_,_,_,.ptr [.lit (.string (ge y.text 1))],_,.bool (decide ((ge y.text 1)∈vs)),_,_] [6,8,17,19] [_,_,_,_,_] rfl ⟨iIx (k:=0) Zn (hk:=by have:=YC hb1 hb3;omega),fun _ _ hk hx hl _=>Z8 (Kd:=keyS) (xs:=cs) ZV ZM (ge y.text 0) rfl (Yf hH hk hx (mo 0 rfl)) (hl.D 3 80 rfl rfl) (hl.D 7 84 rfl rfl) hx,gIx (k:=1) Zn (hk:=fun(hc':((!(decide ((ge y.text 0)∈cs)))==false)=true)=>by(try simp at hc');have:=YC hb1 hb3;omega),fun _ _ hk hx hl hc=>Z8 (Kd:=keyS) (xs:=vs) ZV ZM (ge y.text 1) rfl (Yf hH hk hx (mo 1 rfl)) (hl.D 14 91 rfl hc) (hl.D 18 95 rfl hc) hx,trivial⟩ ?_)
    refine ln 3 fun hl1=>?_
    refine cj 4 (fun hb4=>?_) fun hb4=>?_
    ·
     refine qso tb hJ [1000] [_] [_] ?_
     exact Zg (Qw (m:=0) rfl rfl (eI (by grind[Zfy])))
    ·
     refine Zc (nx (ZI tb hJ [0,2,1010,1011] [_,_,_,_,.ptr [.lit (.string (ge y.text 1))],_,.tup [.str ((ZB ts (ge y.text 1)).getD default),.bool ((ZB ts (ge y.text 1)).isSome)],_,_,_,_,_] [4,6] [_,_,_,_] rfl ⟨iIx (k:=1) Zn (hk:=by have:=YC hb1 hb3;omega),fun _ _ hk hx hl _=>XE (Kd:=keyS) (f:=(fun z':ByteArray=>AV.str z')) (L:=ts) Zaw Zdo (ge y.text 1) rfl (Yf hH hk hx (mo 6 rfl)) (hl.D 1 101 rfl rfl) (hl.D 5 105 rfl rfl) hx,trivial⟩ ?_))
     refine Zj (ZI tb hJ [0,1,2,3,1012,1013] [_,_,_,_,_,_,.ptr [.lit (.string (ge y.text 1))],_,.tup [.str ((ZB tm (ge y.text 1)).getD default),.bool ((ZB tm (ge y.text 1)).isSome)],_,_,_,_,_] [6,8] [_,_,_,_,_,_] rfl ⟨iIx (k:=1) Zn (hk:=by have:=YC hb1 hb3;omega),fun _ _ hk hx hl _=>XE (Kd:=keyS) (f:=(fun z':ByteArray=>AV.str z')) (L:=tm) Zaw Zdo (ge y.text 1) rfl (Yf hH hk hx (mo 4 rfl)) (hl.D 3 113 rfl rfl) (hl.D 7 117 rfl rfl) hx,trivial⟩ ?_)
     refine ZI tb hJ [0,1,3,1019] [_,_,_,_,_,.ptr [.lit (.string (ge y.text 0))],_,_,_,_,_,_,_,_,_,.ptr [.lit (.string (ge y.text 0))],_,_,_,_] [5,15] [_,_,_,_] rfl ⟨gIx (k:=0) Zn (hk:=fun(hc':(((ZB tm (ge y.text 1)).isSome)==true)=true)=>by(try simp at hc');have:=YC hb1 hb3;omega),gIx (k:=0) Zn (hk:=fun(hc':(((((ZB tm (ge y.text 1)).isSome)&& (!decide (((ZB tm (ge y.text 1)).getD default)=(ge y.text 0))))==false)&& (((ZB ts (ge y.text 1)).isSome)==true))=true)=>by(try simp at hc');have:=YC hb1 hb3;omega),trivial⟩ ?_
     refine cj 3 (fun hb5=>?_) fun hb5=>?_
     ·
      refine qso tb hJ [1000] [_] [_] ?_
      exact Zg (Qw (m:=0) rfl rfl (eI (by grind[Zfy])))
     ·
      refine Zc (nx (qso tb hJ [0,1,1000] [_] [_,_,_] ?_))
      refine cj 2 (fun hb6=>?_) fun hb6=>?_
      ·
       refine qso tb hJ [1000] [_] [_] ?_
       exact Zg (Qw (m:=0) rfl rfl (eI (by grind[Zfy])))
      ·
       refine Zc (nx (Zj (Zj (fun a w h=>YO (γ:=Nat) (fun ix'=>([.ptr (mpC [M1,M2,M3,M4,M5]),.ptr (mpC [M1,M2,M3,M4,M5]),.ptr (mpC [M4,M5]),.lit (.map (some M4)),.ptr (hyC y),.str y.label,.tup [.agg (hyC ((ZB hm y.label).getD default)),.bool ((ZB hm y.label).isSome)],.tup [.agg (hyC ((ZB hm y.label).getD default)),.bool ((ZB hm y.label).isSome)],.agg (hyC ((ZB hm y.label).getD default)),.bool ((ZB hm y.label).isSome),.any,.any,.bool ((ZB hm y.label).isSome)]:List AV).getD ix' .any) (fun ix'=>([true,true,true,true,true,true,true,true,true,true,true,true,true]:List Bool).getD ix' true) [(6,fun(g:Nat)=>.ptr (hyC y)),(14,fun(g:Nat)=>.at g 0),(15,fun(g:Nat)=>.bool ((ZB hm y.label).isSome))] (fun(j':Nat) (g:Nat)=>match j' with | 0=>[] | 1=>[OB.var g [.lit (.string (⟨#[]⟩:ByteArray)),.lit (.bool false),Zb ([]:List ByteArray)]] | _=>[OB.var g [.lit (.string (((ZB hm y.label).getD default).label)),.lit (.bool (((ZB hm y.label).getD default).floating)),Zb (((ZB hm y.label).getD default).text)]]) (fun(k':Nat) (g:Nat)=>match k' with | 0=>(.pointer (some ⟨g,0,none⟩)) | 1=>undef | _=>undef) [10,11] 2 0 (fun _=>rfl) h hJ Yh rfl rfl rfl rfl rfl rfl (fun j' g hj p hp=>by rcases j' with _ | _ | _ | j'<;>first | exact hp | exact List.mem_cons_of_mem _ hp | exact List.mem_cons_of_mem _ (List.mem_cons_of_mem _ hp) | (exfalso;omega)) ⟨?o17_1_0,⟨?o17_1_1,⟨?o17_1_2,⟨?o17_1_3,⟨?o17_1_4,⟨?o17_1_5,⟨?o17_1_6,⟨?o17_1_7,⟨?o17_1_8,⟨?o17_1_9,⟨?o17_1_10,⟨?o17_1_11,⟨?o17_1_12,trivial⟩⟩⟩⟩⟩⟩⟩⟩⟩⟩⟩⟩⟩ ⟨?e17_1_0,⟨?e17_1_1,trivial⟩⟩ ⟨.old 1 6 _ rfl rfl,⟨.eff 0 10 14 (fun g=>(.pointer (some ⟨g,0,none⟩))) rfl rfl (fun _=>rfl) (fun _=>True.intro),⟨.new 12 15 _ rfl rfl rfl,trivial⟩⟩⟩ ?n17_1))))
       exact oX rfl fun hx hl=>Yk rfl (hl.env 0 0 _ rfl rfl) hx
       exact oX rfl fun hx hl=>YL rfl (hl.D 0 150 rfl rfl) hx
       exact oX rfl fun hx hl=>ZT Zad rfl (hl.D 1 151 rfl rfl) hx
       exact oX rfl fun hx hl=>ZA ZgA rfl (hl.D 2 152 rfl rfl) hx
       exact oX rfl fun hx hl=>ZT Zbj rfl (hl.env 1 6 _ rfl rfl) hx
       exact oX rfl fun hx hl=>ZA Q1 rfl (hl.D 4 154 rfl rfl) hx
       exact oY rfl fun hk hx hl=>XE (Kd:=keyS) (f:=(fun z':Hy=>AV.agg (hyC z'))) (L:=hm) Ql Zak y.label rfl (Yf hH hk hx (mo 3 rfl)) (hl.D 3 153 rfl rfl) (hl.D 5 155 rfl rfl) hx
       exact oX rfl fun hx hl=>Yk rfl (hl.D 6 156 rfl rfl) hx
       exact oX rfl fun hx hl=>YY rfl (hl.D 7 149 rfl rfl) rfl hx
       exact oX rfl fun hx hl=>YY rfl (hl.D 7 149 rfl rfl) rfl hx
       exact Zi rfl
       exact Zi rfl
       exact oX rfl fun hx hl=>XI rfl (hl.D 9 158 rfl rfl) hx
       case e17_1_0=>exact⟨_,rfl,rfl,rfl,rfl,fun g _ w hk hx _ _=>Zp (ZbM Y2 hJ rfl hk hx) fun v w' ⟨g',hv,hp⟩=>⟨g',rfl,fun k' hk'=>absurd hk' (Nat.not_lt_zero _),fun _=>hv,hp⟩⟩
       case e17_1_1=>exact⟨_,rfl,rfl,rfl,rfl,fun g _ w hk hx hl hs=>(by obtain⟨us2,hv2,hr3⟩:=Zap (cs:=[.lit (.string (((ZB hm y.label).getD default).label)),.lit (.bool (((ZB hm y.label).getD default).floating)),Zb (((ZB hm y.label).getD default).text)]) (hl.D 8 157 rfl rfl);exact Zp (XJ (S':=S) (off:=0) (cs:=[.lit (.string (⟨#[]⟩:ByteArray)),.lit (.bool false),Zb ([]:List ByteArray)]) (news:=[.lit (.string (((ZB hm y.label).getD default).label)),.lit (.bool (((ZB hm y.label).getD default).floating)),Zb (((ZB hm y.label).getD default).text)]) (es:=[.lit (.string (((ZB hm y.label).getD default).label)),.lit (.bool (((ZB hm y.label).getD default).floating)),Zb (((ZB hm y.label).getD default).text)]) (us:=us2) hJ hJ0 Xp rfl hk hx (ZdG (hs 0 10 _ 14 (by omega) rfl rfl rfl)) (by rw[hv2];rfl) hr3 (lb rfl) rfl) fun v w' hp=>⟨g,rfl,fun _ _=>rfl,fun e=>(by cases e),hp⟩)⟩
       clear a w h
       intro b1
       dsimp only[List.map]
       refine kw (fun h=>Ym hS h (m:=1) (s:=14) rfl) ?_
       refine nx (ZI tb hJ [1006] [_,_,_,_,.bool (ZrH ((ZB hm y.label).getD default) y),_,_] [4] [_] rfl ⟨iFo hS hJ (Zgo hJ (x:=((ZB hm y.label).getD default)) (y:=y) ) ZnY,trivial⟩ ?_)
       refine cj 0 (fun hb8=>?_) fun hb8=>?_
       ·
        refine qso tb hJ [1000] [_] [_] ?_
        exact Zg (Qw (m:=0) rfl rfl (eI (by grind[Zfy])))
       ·
        refine Zc (nx (qso tb hJ [1000] [_] [_] ?_))
        exact Zg (Qw (m:=0) rfl rfl (eI (by grind[Zfy])))
   ·
    refine ZI tb hJ [0,2,1002,1004] [_,_,_,.int (Zke cs vs y.text),_] [3] [_,_,_,_] rfl ⟨fun _ _ hk hx hl _=>Y9 (Zrp hJ (M1:=M1) (M2:=M2) (M3:=M3) (M4:=M4) (M5:=M5) (cs:=cs) (vs:=vs) (l:=y.text) ) Zn3 rfl (Zr hS _ hk hx) (hx.1) (ZG (Yf hH hk hx (mo 0 rfl)) (ZG (Yf hH hk hx (mo 1 rfl)) Zq)) (Za (hl.D 0 142 rfl rfl) (Za (hl.D 2 144 rfl rfl) Ze)) (jo hJ hx),trivial⟩ ?_
    refine ln 2 fun hl2=>?_
    refine qso tb hJ [0,1,3,1001] [_,_] [_,_,_,_] ?_
    refine cj 3 (fun hb7=>?_) fun hb7=>?_
    ·
     refine qso tb hJ [1001] [_,_] [_] ?_
     exact Zg (Qw (m:=0) rfl rfl (eI (by grind[Zfy])))
    ·
     refine Zc (nx (Zj (Zj (fun a w h=>YO (γ:=Nat) (fun ix'=>([.ptr (mpC [M1,M2,M3,M4,M5]),.ptr (mpC [M1,M2,M3,M4,M5]),.ptr (mpC [M4,M5]),.lit (.map (some M4)),.ptr (hyC y),.str y.label,.tup [.agg (hyC ((ZB hm y.label).getD default)),.bool ((ZB hm y.label).isSome)],.tup [.agg (hyC ((ZB hm y.label).getD default)),.bool ((ZB hm y.label).isSome)],.agg (hyC ((ZB hm y.label).getD default)),.bool ((ZB hm y.label).isSome),.any,.any,.bool ((ZB hm y.label).isSome)]:List AV).getD ix' .any) (fun ix'=>([true,true,true,true,true,true,true,true,true,true,true,true,true]:List Bool).getD ix' true) [(6,fun(g:Nat)=>.ptr (hyC y)),(14,fun(g:Nat)=>.at g 0),(15,fun(g:Nat)=>.bool ((ZB hm y.label).isSome))] (fun(j':Nat) (g:Nat)=>match j' with | 0=>[] | 1=>[OB.var g [.lit (.string (⟨#[]⟩:ByteArray)),.lit (.bool false),Zb ([]:List ByteArray)]] | _=>[OB.var g [.lit (.string (((ZB hm y.label).getD default).label)),.lit (.bool (((ZB hm y.label).getD default).floating)),Zb (((ZB hm y.label).getD default).text)]]) (fun(k':Nat) (g:Nat)=>match k' with | 0=>(.pointer (some ⟨g,0,none⟩)) | 1=>undef | _=>undef) [10,11] 2 0 (fun _=>rfl) h hJ Yh rfl rfl rfl rfl rfl rfl (fun j' g hj p hp=>by rcases j' with _ | _ | _ | j'<;>first | exact hp | exact List.mem_cons_of_mem _ hp | exact List.mem_cons_of_mem _ (List.mem_cons_of_mem _ hp) | (exfalso;omega)) ⟨?o17_2_0,⟨?o17_2_1,⟨?o17_2_2,⟨?o17_2_3,⟨?o17_2_4,⟨?o17_2_5,⟨?o17_2_6,⟨?o17_2_7,⟨?o17_2_8,⟨?o17_2_9,⟨?o17_2_10,⟨?o17_2_11,⟨?o17_2_12,trivial⟩⟩⟩⟩⟩⟩⟩⟩⟩⟩⟩⟩⟩ ⟨?e17_2_0,⟨?e17_2_1,trivial⟩⟩ ⟨.old 1 6 _ rfl rfl,⟨.eff 0 10 14 (fun g=>(.pointer (some ⟨g,0,none⟩))) rfl rfl (fun _=>rfl) (fun _=>True.intro),⟨.new 12 15 _ rfl rfl rfl,trivial⟩⟩⟩ ?n17_2))))
     exact oX rfl fun hx hl=>Yk rfl (hl.env 0 0 _ rfl rfl) hx
     exact oX rfl fun hx hl=>YL rfl (hl.D 0 150 rfl rfl) hx
     exact oX rfl fun hx hl=>ZT Zad rfl (hl.D 1 151 rfl rfl) hx
     exact oX rfl fun hx hl=>ZA ZgA rfl (hl.D 2 152 rfl rfl) hx
     exact oX rfl fun hx hl=>ZT Zbj rfl (hl.env 1 6 _ rfl rfl) hx
     exact oX rfl fun hx hl=>ZA Q1 rfl (hl.D 4 154 rfl rfl) hx
     exact oY rfl fun hk hx hl=>XE (Kd:=keyS) (f:=(fun z':Hy=>AV.agg (hyC z'))) (L:=hm) Ql Zak y.label rfl (Yf hH hk hx (mo 3 rfl)) (hl.D 3 153 rfl rfl) (hl.D 5 155 rfl rfl) hx
     exact oX rfl fun hx hl=>Yk rfl (hl.D 6 156 rfl rfl) hx
     exact oX rfl fun hx hl=>YY rfl (hl.D 7 149 rfl rfl) rfl hx
     exact oX rfl fun hx hl=>YY rfl (hl.D 7 149 rfl rfl) rfl hx
     exact Zi rfl
     exact Zi rfl
     exact oX rfl fun hx hl=>XI rfl (hl.D 9 158 rfl rfl) hx
     case e17_2_0=>exact⟨_,rfl,rfl,rfl,rfl,fun g _ w hk hx _ _=>Zp (ZbM Y2 hJ rfl hk hx) fun v w' ⟨g',hv,hp⟩=>⟨g',rfl,fun k' hk'=>absurd hk' (Nat.not_lt_zero _),fun _=>hv,hp⟩⟩
     case e17_2_1=>exact⟨_,rfl,rfl,rfl,rfl,fun g _ w hk hx hl hs=>(by obtain⟨us2,hv2,hr3⟩:=Zap (cs:=[.lit (.string (((ZB hm y.label).getD default).label)),.lit (.bool (((ZB hm y.label).getD default).floating)),Zb (((ZB hm y.label).getD default).text)]) (hl.D 8 157 rfl rfl);exact Zp (XJ (S':=S) (off:=0) (cs:=[.lit (.string (⟨#[]⟩:ByteArray)),.lit (.bool false),Zb ([]:List ByteArray)]) (news:=[.lit (.string (((ZB hm y.label).getD default).label)),.lit (.bool (((ZB hm y.label).getD default).floating)),Zb (((ZB hm y.label).getD default).text)]) (es:=[.lit (.string (((ZB hm y.label).getD default).label)),.lit (.bool (((ZB hm y.label).getD default).floating)),Zb (((ZB hm y.label).getD default).text)]) (us:=us2) hJ hJ0 Xp rfl hk hx (ZdG (hs 0 10 _ 14 (by omega) rfl rfl rfl)) (by rw[hv2];rfl) hr3 (lb rfl) rfl) fun v w' hp=>⟨g,rfl,fun _ _=>rfl,fun e=>(by cases e),hp⟩)⟩
     clear a w h
     intro b2
     dsimp only[List.map]
     refine kw (fun h=>Ym hS h (m:=1) (s:=14) rfl) ?_
     refine nx (ZI tb hJ [1006] [_,_,_,_,.bool (ZrH ((ZB hm y.label).getD default) y),_,_] [4] [_] rfl ⟨iFo hS hJ (Zgo hJ (x:=((ZB hm y.label).getD default)) (y:=y) ) ZnY,trivial⟩ ?_)
     refine cj 0 (fun hb8=>?_) fun hb8=>?_
     ·
      refine qso tb hJ [1000] [_] [_] ?_
      exact Zg (Qw (m:=0) rfl rfl (eI (by grind[Zfy])))
     ·
      refine Zc (nx (qso tb hJ [1000] [_] [_] ?_))
      exact Zg (Qw (m:=0) rfl rfl (eI (by grind[Zfy])))
theorem ZpB {J:World→Prop} (hJ:Stab J) (xs:List Pr) (ys:List Pr)  :Fn Tryz.prog J 64 [.rd (Xm xs),.rd (Xm ys)] (.bool (decide (xs=ys))):=by
 refine Zu (N:=26) Tryz.func64 rfl rfl (lb rfl) fun S w0 hS hJ0=>?_
 clear hJ0
 refine ln 0 fun hl1=>?_
 refine ln 1 fun hl2=>?_
 refine qs tb hJ [0,1] [_] [_,_] ?_
 refine Zj (hqs tb hJ [0,1,1004] [_,.int (xs.length:Nat),_,.int (ys.length:Nat),_] [1,3] [_,_,_] rfl ⟨YG Ya,YG Ya,trivial⟩ ?_)
 refine cj 2 (fun hb1=>?_) fun hb1=>?_
 try simp at hb1
 refine qs tb hJ [1000] [_] [_] ?_
 exact Zg (rtn (m:=0) rfl rfl (eB (by first | (have:=ZbE (xs:=xs) (ys:=ys) (by omega) (fun j hj=>prEq_iff.1 (f1_2 j (by omega)));simp[this];done) | (symm;rw[decide_eq_false_iff_not];intro e;subst e;simp at hb3;done) | (symm;rw[decide_eq_false_iff_not];intro e;subst e;exact hb1 rfl))))
 try simp at hb1
 refine Zc (nx (Zj (hqs tb hJ [0,1,1001,1002] [_,.int (xs.length:Nat),_] [1] [_,_,_,_] rfl ⟨YG Ya,trivial⟩ ?_)))
 refine Zf (lp (ι:=Nat) (fun k=>(k≤xs.length)∧(∀ j,j<k→Zor (ge xs j) (ge ys j)=true)) (fun k=>[(13,.int (k:Nat))]) (fun k=>xs.length-k) [0,1,2,3] [_,_,_] 0 ⟨Nat.zero_le _,fun j hj=>by omega⟩ ?_)
 rintro k ⟨f1_1,f1_2⟩
 refine qs tb hJ [0,1,2,3,1000] [_] [_,_,_,_,_] ?_
 refine cjS 4 (fun hb2=>?_) fun hb2=>?_
 try simp at hb2
 refine Zc (nx (Zj (Zf (qs tb hJ [0,1,2,3,1001] [_,_] [_,_,_,_,_] ?_))))
 refine hqs tb hJ [0,1,2,3,1008] [_,_,.ptr (prC (ge xs k)),_,_,_,.ptr (prC (ge ys k)),_,.bool (!(decide ((ge xs k).a=(ge ys k).a)&&decide ((ge xs k).b=(ge ys k).b)))] [2,6,8] [_,_,_,_,_] rfl ⟨iIx ZD,iIx ZD,fun _ _ _ hx hl _=>Zrn ZnA rfl (hl.D 3 19 rfl rfl) (hl.D 7 23 rfl rfl) hx,trivial⟩ ?_
 refine cj 4 (fun hb3=>?_) fun hb3=>?_
 try simp at hb3
 refine qs tb hJ [1000] [_] [_] ?_
 exact Zg (rtn (m:=0) rfl rfl (eB (by first | (have:=ZbE (xs:=xs) (ys:=ys) (by omega) (fun j hj=>prEq_iff.1 (f1_2 j (by omega)));simp[this];done) | (symm;rw[decide_eq_false_iff_not];intro e;subst e;simp at hb3;done) | (symm;rw[decide_eq_false_iff_not];intro e;subst e;exact hb1 rfl))))
 try simp at hb3
 refine Zc (nx (hqp tb hJ [0,1,2,1001] [.int (k+1:Nat),_] [0] [_,_,_,_] rfl ⟨Yv,trivial⟩ ?_))
 exact lpE (k+1) [0,1,2,3] ⟨by omega,ZZ f1_2 (by simp[Zor,hb3])⟩
 try simp at hb2
 refine Zx (nx (qs tb hJ [1000] [_] [_] ?_))
 exact Zg (rtn (m:=0) rfl rfl (eB (by first | (have:=ZbE (xs:=xs) (ys:=ys) (by omega) (fun j hj=>prEq_iff.1 (f1_2 j (by omega)));simp[this];done) | (symm;rw[decide_eq_false_iff_not];intro e;subst e;simp at hb3;done) | (symm;rw[decide_eq_false_iff_not];intro e;subst e;exact hb1 rfl))))
theorem p_sets {J:World→Prop} (hJ:Stab J) (M1:Nat) (M2:Nat) (M3:Nat) (M4:Nat) (M5:Nat) (vs:List ByteArray) (f:Fr) (h2:f.hyps.length≤40) (h3:f.wide.length*32≤140737488351232) (h4:∀ x∈f.hyps,x.floating=true→x.text.length=2):FnR Tryz.prog J 41 [OB.set keyS M2 vs] [.ptr (mpC [M1,M2,M3,M4,M5]),.agg (frC f)] (.int (Zet vs f)):=by
 refine Z9 (N:=101) Tryz.func41 rfl rfl (lb rfl) fun S w0 hS hJ0 hH=>?_
 refine tw Yj ?_
 refine ZI tb hJ [0,1000] [.ptr (frC f),_] [0] [_,_] rfl ⟨fun _ _ hk hx hl _=>YP rfl (hl.env 1 1 _ rfl rfl) (Zr hS _ hk hx _ (Nat.le_refl _)) (jo hJ hx),trivial⟩ ?_
 refine Zj (fun a w h=>YO (γ:=Nat) (fun ix'=>([.ptr (mpC [M1,M2,M3,M4,M5]),.ptr (mpC [M1,M2,M3,M4,M5]),.ptr (mpC [M2,M3,M4,M5]),.lit (.map (some M2)),.ptr [YW f.hyps,Xm f.apart,Zb f.text,YW f.dummies,Xm f.wide,Zb f.proof],.rd (YW f.hyps),.ptr [Zb f.text,YW f.dummies,Xm f.wide,Zb f.proof],.rd (Zb f.text),.rd (ZbW (f.text::(Qq f.hyps).map Hy.text)),.any,.any]:List AV).getD ix' .any) (fun ix'=>([true,true,true,true,true,true,true,true,true,true,true]:List Bool).getD ix' true) [(0,fun(g:Nat)=>.ptr (mpC [M1,M2,M3,M4,M5])),(3,fun(g:Nat)=>.ptr (frC f)),(5,fun(g:Nat)=>.lit (.map (some g)))] (fun(j':Nat) (g:Nat)=>match j' with | 0=>[] | 1=>[OB.set keyS g (ZbB vs (f.text::(Qq f.hyps).map Hy.text).flatten)] | _=>[OB.set keyS g (ZbB vs (f.text::(Qq f.hyps).map Hy.text).flatten)]) (fun(k':Nat) (g:Nat)=>match k' with | 0=>(.map (some g)) | 1=>(.map (some g)) | _=>undef) [9,10] 2 0 (fun _=>rfl) h hJ Yh rfl rfl rfl rfl rfl rfl (fun j' g hj p hp=>by rcases j' with _ | _ | _ | j'<;>first | exact hp | exact List.mem_cons_of_mem _ hp | exact List.mem_cons_of_mem _ (List.mem_cons_of_mem _ hp) | (exfalso;omega)) ⟨?o1_1_0,⟨?o1_1_1,⟨?o1_1_2,⟨?o1_1_3,⟨?o1_1_4,⟨?o1_1_5,⟨?o1_1_6,⟨?o1_1_7,⟨?o1_1_8,⟨?o1_1_9,⟨?o1_1_10,trivial⟩⟩⟩⟩⟩⟩⟩⟩⟩⟩⟩ ⟨?e1_1_0,⟨?e1_1_1,trivial⟩⟩ ⟨.old 0 0 _ rfl rfl,⟨.old 1 3 _ rfl rfl,⟨.eff 1 10 5 (fun g=>(.map (some g))) rfl rfl (fun _=>rfl) (fun _=>True.intro),trivial⟩⟩⟩ ?n1_1)
 exact oX rfl fun hx hl=>Yk rfl (hl.env 0 0 _ rfl rfl) hx
 exact oX rfl fun hx hl=>YL rfl (hl.D 0 11 rfl rfl) hx
 exact oX rfl fun hx hl=>ZT ZkT rfl (hl.D 1 12 rfl rfl) hx
 exact oX rfl fun hx hl=>ZA Zrw rfl (hl.D 2 13 rfl rfl) hx
 exact oX rfl fun hx hl=>ZT Zbl rfl (hl.env 1 3 _ rfl rfl) hx
 exact oX rfl fun hx hl=>ZA ZgD rfl (hl.D 4 15 rfl rfl) hx
 exact oX rfl fun hx hl=>ZT Ze5 rfl (hl.env 1 3 _ rfl rfl) hx
 exact oX rfl fun hx hl=>ZA X7 rfl (hl.D 6 17 rfl rfl) hx
 exact oY rfl fun hk hx hl=>ZeS (ZkE hJ (hs:=f.hyps) (t:=f.text) (h2)) Zuc rfl (Zr hS _ hk hx) (hx.1) (Za (hl.D 5 16 rfl rfl) (Za (hl.D 7 18 rfl rfl) Ze)) (jo hJ hx)
 exact Zi rfl
 exact Zi rfl
 case e1_1_0=>exact⟨_,rfl,rfl,rfl,rfl,fun _ _ w hk hx hl _=>Zp (ZuR (O:=[]) (R:=[]) (ZhS hJ (M:=M2) (vs:=vs) (l:=(f.text::(Qq f.hyps).map Hy.text)) ) Zud rfl hS hJ0 (ZG (hH _ (mo 0 rfl)) Zq) hk hx (Za (hl.D 3 14 rfl rfl) (Za (hl.D 8 19 rfl rfl) Ze))) fun v w' ⟨i,hp,hv⟩=>⟨i,rfl,fun k' hk'=>absurd hk' (Nat.not_lt_zero _),fun _=>hv.lit,hp⟩⟩
 case e1_1_1=>exact⟨_,rfl,rfl,rfl,rfl,fun g _ w hk hx _ hs=>Zp (Zbo (.inl rfl) (hs 0 9 _ 20 (by omega) rfl rfl rfl) hk hx) fun v w' hp=>⟨g,rfl,fun _ _=>rfl,fun _=>hp.1,hp.2⟩⟩
 clear a w h
 intro z1
 dsimp only[List.map]
 refine nx (qso tb hJ [0,1,2,1000] [_] [_,_,_,_] ?_)
 refine Zj (ZI tb hJ [0,1,2,3,1001,1002,1003] [_,_,.int (f.hyps.length:Nat),_] [2] [_,_,_,_,_,_,_] rfl ⟨YG ZN,trivial⟩ ?_)
 refine ln 4 fun hl1=>?_
 refine Zf (lpo (ι:=Nat×Nat) (fun(k,n)=>(k≤f.hyps.length)∧(n=(Zf2 (f.hyps.take k)).length)∧((f.hyps.take k).all (ZkK (Zjo vs f))=true)∧(n≤k)) (fun(_,_)=>[OB.set keyS z1 (ZbB vs (f.text::(Qq f.hyps).map Hy.text).flatten)]) (fun(k,n)=>[(24,.int (k:Nat)),(6,.int (n:Nat))]) (fun(k,_)=>f.hyps.length-k) [0,1,2,4,5,6,3] [_,_,_,_,_] (0,0) ⟨Nat.zero_le _,rfl,rfl,Nat.zero_le _⟩ ?_)
 rintro⟨k,n⟩ ⟨f1_1,f1_2,f1_3,f1_4⟩
 refine qso tb hJ [0,1,2,3,4,5,6,1000] [_] [_,_,_,_,_,_,_,_] ?_
 refine cjS 7 (fun hb1=>?_) fun hb1=>?_
 ·
  try simp at hb1
  refine Zc (nx (Zj (Zf (tsq ?_))))
  refine sq (.ptr (hyC (ge f.hyps k))) rfl rfl (lb rfl) (fun _ _ h=>Yg (i:=(k:Int)) ZR rfl (h.get 3 rfl) (h.get 5 rfl) (Int.natCast_nonneg _) (Yy (xs:=f.hyps) (k:=k) sfz) rfl h.x) ?_
  refine snK 1 tb rfl ?_
  refine Qi (cs:=hyC (ge f.hyps k)) Za9 rfl rfl rfl (lb rfl) rfl rfl rfl (by decide) (m:=0) rfl rfl (fun a w h=>Zr hS _ h.keep h.x _ (Nat.le_refl _)) (fun a w h w' hk'=>Yw hJ _ _ hk' h.x) ?_
  refine seK [0,3,4,5,6,7,8,9] [_,_,_,_,_,_,_,_] rfl ?_
  refine nx (qso tb hJ [0,1,2,3,4,5,6,7,1001] [_,_] [_,_,_,_,_,_,_,_,_] ?_)
  refine cj 8 (fun hb2=>?_) fun hb2=>?_
  ·
   try simp at hb2
   refine Zj (ZI tb hJ [1,2,3,4,5,6,7,1002,1006] [_,_,_,.ptr [.lit (.string (ge ((ge f.hyps k).text) 1))],_,.bool (decide ((ge ((ge f.hyps k).text) 1)∈(ZbB vs (f.text::(Qq f.hyps).map Hy.text).flatten))),_] [3,5] [_,_,_,_,_,_,_,_,_] rfl ⟨iIx (k:=1) Zn (hk:=by have:=h4 _ (ZF (by omega)) hb2;omega),fun _ _ _ hx hl _=>Z8 (Kd:=keyS) (xs:=(ZbB vs (f.text::(Qq f.hyps).map Hy.text).flatten)) ZV ZM (ge ((ge f.hyps k).text) 1) rfl (Zd hx (mo 0 rfl)) (hl.D 0 30 rfl rfl) (hl.D 4 34 rfl rfl) hx,trivial⟩ ?_)
   refine ln 7 fun hl2=>?_
   refine cj 8 (fun hb3=>?_) fun hb3=>?_
   ·
    have q3:Zet vs f=70:=setE_h (ZeX hb1 (by simp only[ZkK,hb2,Bool.not_true,Bool.false_or];exact decide_eq_false (Zji hb3)))
    refine qso tb hJ [1000] [_] [_] ?_
    exact Zg (Qw (m:=0) rfl rfl (eI (q3.symm)))
   ·
    refine Zc (nx (YQ tb hJ [0,1,2,3,4,5,1002] [_,.int (n+1:Nat),_] [1] [_,_,_,_,_,_,_] rfl ⟨Yv (h0:=by omega),trivial⟩ ?_))
    refine nx (YQ tb hJ [0,1,2,3,4,6,1001] [.int (k+1:Nat),_] [0] [_,_,_,_,_,_,_] rfl ⟨Yv,trivial⟩ ?_)
    exact Xi (k+1,n+1) [0,1,2,3,4,6,5] ⟨by omega,by rw[Zf2,Yo (by omega),f1_2];simp[Zf2,hb2],by rw[Zco (by omega),f1_3];simp only[ZkK,hb2,Bool.not_true,Bool.false_or,Bool.true_and];exact decide_eq_true (ZhW hb3),by omega⟩
  ·
   try simp at hb2
   refine Zc (nx (YQ tb hJ [1,2,3,4,5,7,1001] [.int (k+1:Nat),_] [0] [_,_,_,_,_,_,_] rfl ⟨Yv,trivial⟩ ?_))
   exact Xi (k+1,n) [0,1,2,3,4,6,5] ⟨by omega,by rw[Zf2,Yo (by omega),f1_2];simp[Zf2,hb2],by rw[Zco (by omega),f1_3];simp[ZkK,hb2],by omega⟩
 ·
  try simp at hb1
  have e1:f.hyps.all (ZkK (Zjo vs f))=true:=by rw[←ZC (xs:=f.hyps) (by omega)];exact f1_3
  have f1_2':n=(Zf2 f.hyps).length:=by rw[f1_2,ZC (by omega)]
  refine Zx (nx (Zj (ZI tb hJ [0,1,2,1003] [_,_,.int ((ZbB vs (f.text::(Qq f.hyps).map Hy.text).flatten).length:Nat),_] [2] [_,_,_,_] rfl ⟨fun _ _ _ hx hl _=>Zo9 Zhx rfl (Zd hx (mo 0 rfl)) (hl.D 1 41 rfl rfl) hx,trivial⟩ ?_)))
  refine cj 3 (fun hb4=>?_) fun hb4=>?_
  ·
   have hb4a:¬ n=(Zjo vs f).length:=fun e=>Zji hb4 (congrArg Int.ofNat e)
   have q3:Zet vs f=70:=setE_n (by rw[←f1_2'];exact hb4a)
   refine qso tb hJ [1000] [_] [_] ?_
   exact Zg (Qw (m:=0) rfl rfl (eI (q3.symm)))
  ·
   have hb4a:n=(Zjo vs f).length:=Int.ofNat.inj (ZhW hb4)
   refine Zc (nx (Zj (ZI tb hJ [0,1,2,1001,1002,1003] [_,_,.int (f.wide.length:Nat),_] [2] [_,_,_,_,_,_] rfl ⟨YG Ya,trivial⟩ ?_)))
   refine ln 3 fun hl3=>?_
   refine Zf (lpo (ι:=Nat) (fun k=>(k≤f.wide.length)∧(∀ j,j<k→Zov vs f.wide j=false)) (fun _=>[OB.set keyS z1 (ZbB vs (f.text::(Qq f.hyps).map Hy.text).flatten)]) (fun k=>[(47,.int (k:Nat))]) (fun k=>f.wide.length-k) [0,1,2,3,4,5] [_,_,_,_,_] 0 ⟨Nat.zero_le _,fun j hj=>by omega⟩ ?_)
   rintro k ⟨f2_1,f2_2⟩
   refine qso tb hJ [0,1,2,3,4,5,1000] [_] [_,_,_,_,_,_,_] ?_
   refine cjS 6 (fun hb5=>?_) fun hb5=>?_
   ·
    try simp at hb5
    refine Zc (nx (Zj (Zf (tsq ?_))))
    refine snK 1 tb rfl ?_
    refine sq (.ptr (prC (ge f.wide k))) rfl rfl (lb rfl) (fun _ _ h=>Yg (i:=(k:Int)) ZD rfl (h.get 4 rfl) (h.get 6 rfl) (Int.natCast_nonneg _) (Yy (xs:=f.wide) (k:=k) sfz) rfl h.x) ?_
    refine snK 1 tb rfl ?_
    refine ZP QB hJ rfl rfl rfl (lb rfl) fun b2=>?_
    refine snK 1 tb rfl ?_
    refine ZE (b:=b2) (off:=0) (cs:=[.lit (.string (⟨#[]⟩:ByteArray)),.lit (.string (⟨#[]⟩:ByteArray))]) (es:=[.lit (.string ((ge f.wide k).a)),.lit (.string ((ge f.wide k).b))]) (news:=[.lit (.string ((ge f.wide k).a)),.lit (.string ((ge f.wide k).b))]) hJ hJ0 Xf rfl rfl rfl (lb rfl) rfl (fun a w h=>⟨(h.get 1 rfl),(h.get 2 rfl)⟩) ?_
    refine kw (fun h=>Ym hS h (m:=1) (s:=10) rfl) ?_
    refine seK [0,1,5,6,7,8,9,10] [_,_,_,_,_,_,_,_] rfl ?_
    refine nx (ZI tb hJ [2,3,4,5,6,7,1039] [_,_,_,_,_,_,_,_,_,_,_,_,.bool (decide ((ge f.wide k).a∈vs)),_,_,_,_,_,_,_,_,_,.bool (decide ((ge f.wide k).b∈vs)),_,_,_,_,_,_,_,_,_,.int ((k:Int)-(1:Int)),.ptr (prC (ge f.wide ((k:Int)-(1:Int)).toNat)),_,_,.int (Zg9 (ge f.wide ((k:Int)-(1:Int)).toNat) (ge f.wide k)),_,_,_] [12,22,32,33,36] [_,_,_,_,_,_,_] rfl ⟨fun a _ hk hx hl hc=>Z8 (Kd:=keyS) (xs:=vs) ZV ZM ((ge f.wide k).a) rfl (Yf hH hk hx (mo 0 rfl)) (hl.D 9 61 rfl hc) (hl.D 11 63 rfl hc) hx,fun _ _ hk hx hl hc=>Z8 (Kd:=keyS) (xs:=vs) ZV ZM ((ge f.wide k).b) rfl (Yf hH hk hx (mo 0 rfl)) (hl.D 19 71 rfl hc) (hl.D 21 73 rfl hc) hx,fun a _ _ hx hl hc=>Zeu (i:=(k:Int)) (j:=(1:Int)) rfl (hl.D 31 83 rfl hc) (Rel.of_lit (Go.Value.int Go.IntKind.i64 1)) (by have hc':(((((!Op.bytesLess ((ge f.wide k).a).toList ((ge f.wide k).b).toList)|| (!(decide ((ge f.wide k).a∈vs))))|| (!(decide ((ge f.wide k).b∈vs))))==false)&& ((decide ((0:Int)< (k:Int)))==true))=true:=hc;(try simp at hc');(first | omega | (simp;omega) | grind[ZF])) (by have hc':(((((!Op.bytesLess ((ge f.wide k).a).toList ((ge f.wide k).b).toList)|| (!(decide ((ge f.wide k).a∈vs))))|| (!(decide ((ge f.wide k).b∈vs))))==false)&& ((decide ((0:Int)< (k:Int)))==true))=true:=hc;(try simp at hc');(first | omega | (simp;omega) | grind[ZF])) hx,fun a _ _ hx hl hc=>Yg (i:=(k:Int)-(1:Int)) ZD rfl (hl.D 30 82 rfl hc) (hl.D 32 84 rfl hc) (by have hc':(((((!Op.bytesLess ((ge f.wide k).a).toList ((ge f.wide k).b).toList)|| (!(decide ((ge f.wide k).a∈vs))))|| (!(decide ((ge f.wide k).b∈vs))))==false)&& ((decide ((0:Int)< (k:Int)))==true))=true:=hc;(try simp at hc');(first | omega | (simp;omega) | grind[ZF])) (ZdE (xs:=f.wide) (i:=(k:Int)-(1:Int)) (by have hc':(((((!Op.bytesLess ((ge f.wide k).a).toList ((ge f.wide k).b).toList)|| (!(decide ((ge f.wide k).a∈vs))))|| (!(decide ((ge f.wide k).b∈vs))))==false)&& ((decide ((0:Int)< (k:Int)))==true))=true:=hc;(try simp at hc');(first | omega | (simp;omega) | grind[ZF])) (by have hc':(((((!Op.bytesLess ((ge f.wide k).a).toList ((ge f.wide k).b).toList)|| (!(decide ((ge f.wide k).a∈vs))))|| (!(decide ((ge f.wide k).b∈vs))))==false)&& ((decide ((0:Int)< (k:Int)))==true))=true:=hc;(try simp at hc');(first | omega | (simp;omega) | grind[ZF]))) rfl hx,iFo hS hJ (Zew hJ (x:=(ge f.wide ((k:Int)-(1:Int)).toNat)) (y:=(ge f.wide k)) ) Zub,trivial⟩ ?_)
    refine cj 6 (fun hb6=>?_) fun hb6=>?_
    ·
     have q3:Zet vs f=70:=setE_w hb5 hb6
     refine qso tb hJ [1000] [_] [_] ?_
     exact Zg (Qw (m:=0) rfl rfl (eI (q3.symm)))
    ·
     refine Zc (nx (YQ tb hJ [0,1,2,3,4,1001] [.int (k+1:Nat),_] [0] [_,_,_,_,_,_] rfl ⟨Yv,trivial⟩ ?_))
     exact Xi (k+1) [0,1,2,3,4,5] ⟨by omega,ZZ f2_2 hb6⟩
   ·
    try simp at hb5
    refine Zx (nx (Zj (ZI tb hJ [1001,1005,1007] [_,_,_,_,_,.rd (Xm (f.wide.filter (inV (ZbB vs (f.text::(Qq f.hyps).map Hy.text).flatten)))),.bool (decide (f.apart=(f.wide.filter (inV (ZbB vs (f.text::(Qq f.hyps).map Hy.text).flatten))))),_] [5,6] [_,_,_] rfl ⟨fun _ _ hk hx hl _=>Y9 (Zpj hJ (M:=z1) (ms:=(ZbB vs (f.text::(Qq f.hyps).map Hy.text).flatten)) (l:=f.wide) (h3)) Zt9 rfl (Zr hS _ hk hx) (hx.1) (ZG (Zd hx (mo 0 rfl)) Zq) (Za (hl.D 2 95 rfl rfl) (Za (hl.D 4 97 rfl rfl) Ze)) (jo hJ hx),iFo hS hJ (ZpB hJ (xs:=f.apart) (ys:=(f.wide.filter (inV (ZbB vs (f.text::(Qq f.hyps).map Hy.text).flatten)))) ) Zua,trivial⟩ ?_)))
    refine ln 0 fun hl4=>?_
    refine ln 1 fun hl5=>?_
    refine cj 2 (fun hb7=>?_) fun hb7=>?_
    ·
     have q3:Zet vs f=70:=setE_a (Zji hb7)
     refine qso tb hJ [1000] [_] [_] ?_
     exact Zg (Qw (m:=0) rfl rfl (eI (q3.symm)))
    ·
     have q3:Zet vs f=0:=Zsw e1 (by rw[←f1_2'];exact hb4a) (fun j hj=>f2_2 j (by omega)) (ZhW hb7)
     refine Zc (nx (qso tb hJ [1000] [_] [_] ?_))
     exact Zg (Qw (m:=0) rfl rfl (eI (q3.symm)))
theorem Zpr {J:World→Prop} (hJ:Stab J) (s:ByteArray) (hG:X8 J):Fn Tryz.prog J 43 [.str s] (.bool (!XY s)):=by
 refine Zu (N:=6) Tryz.func43 rfl rfl (lb rfl) fun S w0 hS hJ0=>?_
 clear hJ0
 refine qs tb hJ [0] [_] [_] ?_
 refine hqs tb hJ [1003] [_,.bool (XY s),_,_] [1] [_] rfl ⟨iFn hS hJ (ZmE hJ (s:=s) (hG)) Zun,trivial⟩ ?_
 exact Zg (rtn (m:=0) rfl rfl (eB (by first | rfl | grind[ZF])))
theorem Zpq {J:World→Prop} (hJ:Stab J) (M1:Nat) (M2:Nat) (M3:Nat) (M4:Nat) (M5:Nat) (hm:List (ByteArray×Hy)) (y:Hy)  :FnR Tryz.prog J 47 [OB.mH M4 hm] [.agg (hyC y),.ptr [.ptr (mpC [M1,M2,M3,M4,M5])]] (.bool ((ZB hm y.label).isSome)):=by
 refine Z9 (N:=17) Tryz.func47 rfl rfl (lb rfl) fun S w0 hS hJ0 hH=>?_
 refine tw Yj ?_
 refine ZI tb hJ [1,1000] [.ptr (hyC y),_] [0] [_,_] rfl ⟨fun _ _ hk hx hl _=>YP rfl (hl.env 0 0 _ rfl rfl) (Zr hS _ hk hx _ (Nat.le_refl _)) (jo hJ hx),trivial⟩ ?_
 refine Zj (fun a w h=>YO (γ:=Nat) (fun ix'=>([.ptr (mpC [M1,M2,M3,M4,M5]),.ptr (mpC [M1,M2,M3,M4,M5]),.ptr (mpC [M4,M5]),.lit (.map (some M4)),.ptr (hyC y),.str y.label,.tup [.agg (hyC ((ZB hm y.label).getD default)),.bool ((ZB hm y.label).isSome)],.tup [.agg (hyC ((ZB hm y.label).getD default)),.bool ((ZB hm y.label).isSome)],.agg (hyC ((ZB hm y.label).getD default)),.bool ((ZB hm y.label).isSome),.any,.any,.bool ((ZB hm y.label).isSome)]:List AV).getD ix' .any) (fun ix'=>([true,true,true,true,true,true,true,true,true,true,true,true,true]:List Bool).getD ix' true) [(5,fun(g:Nat)=>.bool ((ZB hm y.label).isSome))] (fun(j':Nat) (g:Nat)=>match j' with | 0=>[] | 1=>[OB.var g [.lit (.string (⟨#[]⟩:ByteArray)),.lit (.bool false),Zb ([]:List ByteArray)]] | _=>[OB.var g [.lit (.string (((ZB hm y.label).getD default).label)),.lit (.bool (((ZB hm y.label).getD default).floating)),Zb (((ZB hm y.label).getD default).text)]]) (fun(k':Nat) (g:Nat)=>match k' with | 0=>(.pointer (some ⟨g,0,none⟩)) | 1=>undef | _=>undef) [10,11] 2 0 (fun _=>rfl) h hJ Yh rfl rfl rfl rfl rfl rfl (fun j' g hj p hp=>by rcases j' with _ | _ | _ | j'<;>first | exact hp | exact List.mem_cons_of_mem _ hp | exact List.mem_cons_of_mem _ (List.mem_cons_of_mem _ hp) | (exfalso;omega)) ⟨?o1_1_0,⟨?o1_1_1,⟨?o1_1_2,⟨?o1_1_3,⟨?o1_1_4,⟨?o1_1_5,⟨?o1_1_6,⟨?o1_1_7,⟨?o1_1_8,⟨?o1_1_9,⟨?o1_1_10,⟨?o1_1_11,⟨?o1_1_12,trivial⟩⟩⟩⟩⟩⟩⟩⟩⟩⟩⟩⟩⟩ ⟨?e1_1_0,⟨?e1_1_1,trivial⟩⟩ ⟨.new 12 5 _ rfl rfl rfl,trivial⟩ ?n1_1)
 exact oX rfl fun hx hl=>Zb5 ZgB rfl (hl.env 0 1 _ rfl rfl) hx
 exact oX rfl fun hx hl=>YL rfl (hl.D 0 7 rfl rfl) hx
 exact oX rfl fun hx hl=>ZT Zad rfl (hl.D 1 8 rfl rfl) hx
 exact oX rfl fun hx hl=>ZA ZgA rfl (hl.D 2 9 rfl rfl) hx
 exact oX rfl fun hx hl=>ZT Zbj rfl (hl.env 1 2 _ rfl rfl) hx
 exact oX rfl fun hx hl=>ZA Q1 rfl (hl.D 4 11 rfl rfl) hx
 exact oY rfl fun hk hx hl=>XE (Kd:=keyS) (f:=(fun z':Hy=>AV.agg (hyC z'))) (L:=hm) Ql Zak y.label rfl (Yf hH hk hx (mo 0 rfl)) (hl.D 3 10 rfl rfl) (hl.D 5 12 rfl rfl) hx
 exact oX rfl fun hx hl=>Yk rfl (hl.D 6 13 rfl rfl) hx
 exact oX rfl fun hx hl=>YY rfl (hl.D 7 6 rfl rfl) rfl hx
 exact oX rfl fun hx hl=>YY rfl (hl.D 7 6 rfl rfl) rfl hx
 exact Zi rfl
 exact Zi rfl
 exact oX rfl fun hx hl=>XI rfl (hl.D 9 15 rfl rfl) hx
 case e1_1_0=>exact⟨_,rfl,rfl,rfl,rfl,fun g _ w hk hx _ _=>Zp (ZbM Y2 hJ rfl hk hx) fun v w' ⟨g',hv,hp⟩=>⟨g',rfl,fun k' hk'=>absurd hk' (Nat.not_lt_zero _),fun _=>hv,hp⟩⟩
 case e1_1_1=>exact⟨_,rfl,rfl,rfl,rfl,fun g _ w hk hx hl hs=>(by obtain⟨us2,hv2,hr3⟩:=Zap (cs:=[.lit (.string (((ZB hm y.label).getD default).label)),.lit (.bool (((ZB hm y.label).getD default).floating)),Zb (((ZB hm y.label).getD default).text)]) (hl.D 8 14 rfl rfl);exact Zp (XJ (S':=S) (off:=0) (cs:=[.lit (.string (⟨#[]⟩:ByteArray)),.lit (.bool false),Zb ([]:List ByteArray)]) (news:=[.lit (.string (((ZB hm y.label).getD default).label)),.lit (.bool (((ZB hm y.label).getD default).floating)),Zb (((ZB hm y.label).getD default).text)]) (es:=[.lit (.string (((ZB hm y.label).getD default).label)),.lit (.bool (((ZB hm y.label).getD default).floating)),Zb (((ZB hm y.label).getD default).text)]) (us:=us2) hJ hJ0 Xp rfl hk hx (ZdG (hs 0 10 _ 4 (by omega) rfl rfl rfl)) (by rw[hv2];rfl) hr3 (lb rfl) rfl) fun v w' hp=>⟨g,rfl,fun _ _=>rfl,fun e=>(by cases e),hp⟩)⟩
 clear a w h
 intro b1
 dsimp only[List.map]
 refine kw Zy ?_
 refine nx (qso tb hJ [1001] [_,_] [_] ?_)
 exact Zg (Qw (m:=0) rfl rfl rfl)
theorem Zs2 {J:World→Prop} (hJ:Stab J) (n:Nat) (b:n*48≤140737488351232):FnM (ι:=Value) Tryz.prog J 58 [] [.lit (.slice none 0 0),.int (n:Nat)] [] (fun i'=>.lit (i')) (fun i'=>[OB.row i' 84 3 (([]:List Hy).map hyC)]):=by
 refine ZX (N:=27) Tryz.func58 rfl rfl (lb rfl) fun S w0 R hS hJ0 hH=>?_
 refine Z6 (B:=St All (SO S (R)) w0 27 [(0,.lit (.slice none 0 0)),(1,.int (n:Nat))] (XO J S w0.heap.size (R))) ?_ fun a w h=>h
 refine qso tb hJ [0,1] [_] [_,_] ?_
 refine Zj (qso tb hJ [0,1,1001] [_,_] [_,_,_] ?_)
 refine cj 2 (fun hb1=>?_) fun hb1=>?_
 try simp at hb1
 exact False.elim (by omega)
 try simp at hb1
 refine Zc (nx (Zj (ZI tb hJ [0,1007] [_,_,.int (0:Nat),_,.int (0:Nat),.int (((0:Nat):Int)-((0:Nat):Int)),.int ((n:Int)-((0:Nat):Int)-((0:Nat):Int)),_] [2,4,5,6] [_,_] rfl ⟨fun _ _ _ hx hl _=>Zi5 ZN rfl (hl.D 1 9 rfl rfl) hx,fun _ _ _ hx hl _=>Zi2 ZN rfl (hl.D 3 11 rfl rfl) hx,iSub,iSub,trivial⟩ ?_)))
 refine tw (sa 1 rfl (congrArg AV.int (show(n:Int)-((0:Nat):Int)-((0:Nat):Int)=(n:Int)from by omega))) ?_
 refine qso tb hJ [0,1,1001] [_,_] [_,_,_] ?_
 refine cj 2 (fun hb2=>?_) fun hb2=>?_
 try simp at hb2
 refine Zw (snK 2 tb rfl ?_)
 refine sq (.int (0:Nat)) rfl rfl (lb rfl) (fun _ _ h=>Zi5 ZN rfl (h.get 0 rfl) h.x) ?_
 refine sq (.lit (.slice none 0 0)) rfl rfl (lb rfl) (fun _ _ h=>Zpb ZR rfl (h.get 2 rfl) (h.get 0 rfl) h.x) ?_
 refine snK 1 tb rfl ?_
 refine Zsq (m:=n) Zei X9 hJ rfl rfl rfl (lb rfl) (by omega) (by omega) (by omega) (fun a w h=>⟨(h.get 1 rfl),(h.get 0 rfl)⟩) fun v1=>?_
 refine snK 1 tb rfl ?_
 refine sq (.int (0:Nat)) rfl rfl (lb rfl) (fun _ _ h=>Zi2 ZN rfl (h.get 0 rfl) h.x) ?_
 refine sq (.lit (Za6 v1 0)) rfl rfl (lb rfl) (fun _ _ h=>Zgl (m:=0) ZR rfl (Zd h.x (mo 0 rfl)) (by first | rfl | (rw[List.length_map];exact(rfl))) (h.get 2 rfl) (h.get 0 rfl) h.x) ?_
 refine snK 1 tb rfl ?_
 refine seK [0] [_] rfl ?_
 refine nx (qso tb hJ [1001] [_,_] [_] ?_)
 exact Zg (fun a w h=>ZQ  (m:=0) (Za6 v1 0) rfl h rfl rfl)
 try simp at hb2
 refine Zc (nx (qso tb hJ [1001] [_,_] [_] ?_))
 refine tw (Z7 84 3 hJ) ?_
 exact Zg (fun a w h=>ZQ  (m:=0) (.slice none 0 0) rfl h rfl rfl)
theorem Zgy {J:World→Prop} (hJ:Stab J) (ls:List (List Hy)) (b:ls.flatten.length*48≤140737488351232):Fn Tryz.prog J 38 [.rd (Ztp ls)] (.rd (YW ls.flatten)):=by
 refine Zu (N:=36) Tryz.func38 rfl rfl (lb rfl) fun S w0 hS hJ0=>?_
 refine tw Yj ?_
 refine ln 0 fun hl1=>?_
 refine qso tb hJ [0] [_] [_] ?_
 refine qso tb hJ [0,1000] [_] [_,_] ?_
 refine Zj (ZI tb hJ [0,1,1000,1001,1002] [_,.int (ls.length:Nat),_] [1] [_,_,_,_,_] rfl ⟨YG Zdu,trivial⟩ ?_)
 refine Zf (lpo (ι:=Nat×Nat) (fun(k,z)=>(k≤ls.length)∧(z=(ls.take k).flatten.length)) (fun(_,_)=>[]) (fun(k,z)=>[(11,.int (k:Nat)),(3,.int (z:Nat))]) (fun(k,_)=>ls.length-k) [0,2,3,4,1] [_,_,_] (0,0) ⟨Nat.zero_le _,by simp⟩ ?_)
 rintro⟨k,z⟩ ⟨f1_1,f1_2⟩
 refine qso tb hJ [0,1,2,3,4,1000] [_] [_,_,_,_,_,_] ?_
 refine cjS 5 (fun hb1=>?_) fun hb1=>?_
 try simp at hb1
 refine Zc (nx (Zj (Zf (ZI tb hJ [0,1,2,3,4,1001,1002] [.ptr [YW (ge ls k)],_,_] [0] [_,_,_,_,_,_,_] rfl ⟨iIx Qu,trivial⟩ ?_))))
 refine ln 5 fun hl2=>?_
 refine ZI tb hJ [0,1,2,3,1004] [_,_,.int ((ge ls k).length:Nat),.int (z+(ge ls k).length:Nat),_] [2,3] [_,_,_,_,_] rfl ⟨YG ZN,Yv (h0:=by have:=QX ls (k+1);rw[ZO (by omega)]at this;simp only[List.flatten_append,List.length_append,List.flatten_cons,List.flatten_nil,List.append_nil]at this;omega),trivial⟩ ?_
 refine qso tb hJ [0,1,2,3,4,1001] [_,_] [_,_,_,_,_,_] ?_
 refine cj 5 (fun hb2=>?_) fun hb2=>?_
 try simp at hb2
 exact False.elim (by omega)
 try simp at hb2
 refine Zc (nx (YQ tb hJ [0,1,2,4,1001] [.int (k+1:Nat),_] [0] [_,_,_,_,_] rfl ⟨Yv,trivial⟩ ?_))
 exact Xi (k+1,z+(ge ls k).length) [0,1,2,4,3] ⟨by omega,by rw[f1_2,ZO (by omega)];simp⟩
 try simp at hb1
 refine Zx (nx (tsq ?_))
 refine snK 1 tb rfl ?_
 refine Y7 (O:=[]) (R:=[]) (Zs2 hJ (n:=z) (by rw[f1_2];exact Nat.le_trans (Nat.mul_le_mul_right 48 (QX ls k)) b)) Zuf rfl rfl rfl (lb rfl) hS hJ0 Zq (fun a w h=>(Za (Rel.of_lit (Go.Value.slice none 0 0)) (Za (h.get 0 rfl) Ze))) fun z1=>?_
 refine snK 1 tb rfl ?_
 refine seK [0,3] [_,_] rfl ?_
 refine nx (Zj (ZI tb hJ [0,1000,1001,1002] [_,.int (ls.length:Nat),_] [1] [_,_,_,_] rfl ⟨YG Zdu,trivial⟩ ?_))
 refine Zf (lpo (ι:=Nat×Value×(List Hy)) (fun(k,_,out)=>(k≤ls.length)∧(out=(ls.take k).flatten)) (fun(_,vo,out)=>[OB.row vo 84 3 (out.map hyC)]) (fun(k,vo,_)=>[(27,.int (k:Nat)),(6,.lit vo)]) (fun(k,_,_)=>ls.length-k) [1,2,3,0] [_,_] (0,z1,([]:List Hy)) ⟨Nat.zero_le _,by simp⟩ ?_)
 rintro⟨k,vo,out⟩ ⟨f2_1,f2_2⟩
 refine qso tb hJ [0,1,2,3,1000] [_] [_,_,_,_,_] ?_
 refine cjS 4 (fun hb3=>?_) fun hb3=>?_
 try simp at hb3
 refine Zc (nx (Zj (Zf (ZI tb hJ [0,1,2,3,1001,1002] [.ptr [YW (ge ls k)],_,_] [0] [_,_,_,_,_,_] rfl ⟨iIx Qu,trivial⟩ ?_))))
 refine ln 4 fun hl3=>?_
 refine Zw (snK 2 tb rfl ?_)
 refine YX (f:=hyC) (m:=1) (s:=31) out (ge ls k) (fun _=>rfl) Zei hJ hJ0 rfl rfl rfl (lb rfl) rfl rfl (fun a w h=>(h.get 0 rfl)) (by have:=QX ls (k+1);rw[ZO (by omega)]at this;simp only[List.flatten_append,List.length_append,List.flatten_cons,List.flatten_nil,List.append_nil]at this;rw[f2_2];omega) (by have:=QX ls (k+1);rw[ZO (by omega)]at this;simp only[List.flatten_append,List.length_append,List.flatten_cons,List.flatten_nil,List.append_nil]at this;rw[f2_2];omega) fun v2=>?_
 refine snK 1 tb rfl ?_
 refine seK [0,4,5,6] [_,_,_,_] rfl ?_
 refine nx (YQ tb hJ [0,1,2,1001] [.int (k+1:Nat),_] [0] [_,_,_,_] rfl ⟨Yv,trivial⟩ ?_)
 exact Xi (k+1,v2,out++(ge ls k)) [1,2,3,0] ⟨by omega,by rw[f2_2,ZO (by omega)];simp⟩
 try simp at hb3
 refine Zx (nx (qso tb hJ [1001] [_,_] [_] ?_))
 refine tw (fun h=>Yq hS h (m:=0) (s:=2) rfl) ?_
 exact Zg (Qw (m:=0) rfl rfl (congrArg (fun z=>AV.rd (YW z)) (show out=ls.flatten from by rw[f2_2,ZC (by omega)])))
theorem ZpC {J:World→Prop} (hJ:Stab J) (M5:Nat) (T1:Nat) (tm:List (ByteArray×ByteArray)) (ts:List (ByteArray×ByteArray)) (hq:∀ q'∈ts.map (·.1),q'.size≤9223372036854775807):FnM (ι:= { q':List (ByteArray×ByteArray) // ∀ k',ZB q' k'=if(ZB ts k').isSome then ZB ts k' else ZB tm k' }) Tryz.prog J 49 [] [.lit (.map (some M5)),.lit (.map (some T1))] [OB.mT M5 tm,OB.mT T1 ts] (fun _=>.tup []) (fun i'=>[OB.mT M5 (i'.1),OB.mT T1 ts]):=by
 refine ZX (N:=16) Tryz.func49 rfl rfl (lb rfl) fun S w0 R hS hJ0 hH=>?_
 refine Z6 (B:=St All (SO S (OB.mT M5 tm::OB.mT T1 ts::R)) w0 16 [(0,.lit (.map (some M5))),(1,.lit (.map (some T1)))] (XO J S w0.heap.size (OB.mT M5 tm::OB.mT T1 ts::R))) ?_ fun a w h=>h
 refine tsq ?_
 refine snK 1 tb rfl ?_
 refine kw pm1 ?_
 refine ZiN (Kd:=keyS) (f:=(fun z':ByteArray=>AV.str z')) (L:=ts) Zhw hJ hJ0 rfl rfl rfl (lb rfl) (fun a w h=>(h.get 0 rfl)) fun b1=>?_
 refine seK [0,2] [_,_] rfl ?_
 refine nx (Zf (lpo (ι:=(List ByteArray)×(List (ByteArray×ByteArray))) (fun(vis,tn)=>(∀ q',ZB tn q'=if q'∈vis then ZB ts q' else ZB tm q')∧(vis.Nodup)∧(∀ q'∈vis,q'∈ts.map (·.1))) (fun(vis,tn)=>(OB.iter b1 keyS (fun z':ByteArray=>AV.str z') T1 ts vis::OB.mT M5 tn::R)) (fun(_,_)=>[]) (fun(vis,_)=>ts.length-vis.length) [0,1] [_,_] (([]:List ByteArray),tm) ⟨fun q'=>by simp,by simp,fun q' h=>by simp at h⟩ ?_))
 rintro⟨vis,tn⟩ ⟨f1_1,f1_2,f1_3⟩
 refine tsq ?_
 refine ZlO (Kd:=keyS) (f:=(fun z':ByteArray=>AV.str z')) (L:=ts) (vis:=vis) (fun k' hk'=>hq k' hk') hJ hJ0 rfl rfl rfl (lb rfl) (fun a w h=>(h.get 0 rfl)) fun z2 h0z2 h1z2=>?_
 refine sq (.bool z2.1) rfl rfl (lb rfl) (fun _ _ h=>YY rfl (h.get 0 rfl) rfl h.x) ?_
 refine seK [0,2,3] [_,_,_] rfl ?_
 refine nx (cjS 0 (fun hb1=>?_) fun hb1=>?_)
 refine tw (ob0 (congrArg (fun z'=>OB.iter b1 keyS (fun z':ByteArray=>AV.str z') T1 ts (z')) (show(if z2.1 then vis++[z2.2]else vis)=(vis++[z2.2])from by rw[hb1];rfl))) ?_
 refine Zc (nx (Zf (ZI tb hJ [1,2,1003,1004] [.tup [.str z2.2,.str ((ZB ts z2.2).getD default)],_,_,_,_] [0] [_,_,_,_] rfl ⟨fun _ _ _ hx hl _=>Zmc (Kd:=keyS) (f:=(fun z':ByteArray=>AV.str z')) (L:=ts) (k:=z2.2) rfl (Zd hx (mo 0 rfl)) (hq z2.2 (by have:=(h1z2 hb1).2;rw[Xq]at this;simpa using this)) (hl.env 1 7 _ rfl rfl) hx,trivial⟩ ?_)))
 refine Zw (snK 3 tb rfl ?_)
 refine kw pm1 ?_
 refine ZiO (f:=(fun z':ByteArray=>AV.str z')) Zaw hJ hJ0 z2.2 ((ZB ts z2.2).getD default) rfl rfl (.inl rfl) (fun a w h=>⟨(h.get 2 rfl),(h.get 1 rfl),(h.get 0 rfl)⟩) ?_
 refine seK [3,4] [_,_] rfl ?_
 refine kw pm1 ?_
 exact Xi (vis++[z2.2],QT tn z2.2 ((ZB ts z2.2).getD default)) [0,1] ⟨ZnG f1_1 (h1z2 hb1),by rw[List.nodup_append];exact⟨f1_2,by simp,fun x hx y hy e=>by rw[List.mem_singleton.1 hy]at e;subst e;exact(h1z2 hb1).1 hx⟩,fun q' hq'=>by rcases List.mem_append.1 hq' with h | h;exact f1_3 q' h;rw[List.mem_singleton.1 h];have:=(h1z2 hb1).2;rw[Xq]at this;simpa using this⟩ (hm:=(show ts.length-(vis++[z2.2]).length<ts.length-vis.length from ZnH f1_2 f1_3 (h1z2 hb1)))
 refine tw (ob0 (congrArg (fun z'=>OB.iter b1 keyS (fun z':ByteArray=>AV.str z') T1 ts (z')) (show(if z2.1 then vis++[z2.2]else vis)=vis from by rw[hb1];rfl))) ?_
 refine Zx (kw ZeH ?_)
 refine kw pm1 ?_
 exact fun a w h=>Xt  ⟨tn,by intro k';rw[f1_1];by_cases hk9:(ZB ts k').isSome=true;(rw[if_pos hk9,if_pos (h0z2 hb1 k' hk9)]);(rw[if_neg hk9];by_cases hv9:k'∈vis;(exact absurd (by rw[Xq];simpa using f1_3 k' hv9) hk9);rw[if_neg hv9])⟩ rfl h rfl
end Go.Proofs.YtapelgeodldlcaaGreatDoor
namespace Go.Proofs.YtapelgeodldlcaaGreatDoor
abbrev alH (f:Fr):List Hy:=f.hyps++f.dummies
def lsK (l:List Hy):List ByteArray:=l.foldl (fun s h=>XT s h.label) []
def tsK (l:List Hy):List (ByteArray×ByteArray):=l.foldl (fun t h=>if h.floating then QT t (ge h.text 1) (ge h.text 0)else t) []
def hmK (hm:List (ByteArray×Hy)) (l:List Hy):List (ByteArray×Hy):=l.foldl (fun m h=>QT m h.label h) hm
def hyK (cs vs fs:List ByteArray) (hm:List (ByteArray×Hy)) (tm:List (ByteArray×ByteArray)) (f:Fr) (i:Nat):Int:=
 Zfy cs vs (XT fs f.label) hm tm (lsK ((alH f).take i)) (tsK ((alH f).take i)) (ge (alH f) i) (decide (((f.hyps.length:Nat):Int)≤((i:Nat):Int)))
def ZuP (f:Fr):Bool:=decide ((0:Int)< ((f.proof.length:Nat):Int))&& ((!f.thm||decide ((8000:Int)< ((f.proof.length:Nat):Int)))||f.proof.any fun s=>!XY s)
def Zd1 (cs vs fs:List ByteArray) (hm:List (ByteArray×Hy)) (tm:List (ByteArray×ByteArray)) (f:Fr) (bf:List Hy):Int:=
 if !Zc3 f.label then 2 else if((ZB hm f.label).isSome|| (decide (f.label∈cs)||decide (f.label∈vs)))||decide (f.label∈fs)then 6
 else if decide ((40:Int)< ((f.hyps.length:Nat):Int))||decide ((40:Int)< ((f.dummies.length:Nat):Int))then 4
 else if !decide (XC (alH f).length (hyK cs vs fs hm tm f)=0)then XC (alH f).length (hyK cs vs fs hm tm f)
 else if !decide (Zke cs vs f.text=0)then Zke cs vs f.text
 else if !decide (Zet vs f=0)then Zet vs f
 else if ZuP f then 2
 else if((Qq f.hyps).drop (ZfE (bf.map Hy.label) ((Qq f.hyps).map Hy.label))).any fun y=>(ZB hm y.label).isSome then 7 else 0
theorem ZgV {cs vs fs:List ByteArray} {hm:List (ByteArray×Hy)} {tm:List (ByteArray×ByteArray)} {ls:List ByteArray} {ts:List (ByteArray×ByteArray)} {y:Hy} {dm:Bool} (h:Zfy cs vs fs hm tm ls ts y dm=0):Zab y dm=false:=by
 cases hf:Zab y dm with
 | false=>rfl
 | true=>simp[Zfy,hf]at h
theorem Znr {y:Hy} {dm:Bool} (h:Zab y dm=false):y.text.length≤200:=by
 cases hf:y.floating with
 | true=>have:=YC h hf;omega
 | false=>simp[Zab,hf]at h;omega
theorem Zfu (l:List Hy) (y:Hy):lsK (l++[y])=XT (lsK l) y.label:=by simp[lsK]
theorem ZbU (l:List Hy) (y:Hy):tsK (l++[y])=if y.floating then QT (tsK l) (ge y.text 1) (ge y.text 0)else tsK l:=by simp[tsK]
theorem Zp7 (hm:List (ByteArray×Hy)) (l:List Hy) (y:Hy):hmK hm (l++[y])=QT (hmK hm l) y.label y:=by simp[hmK]
theorem ZoJ:∀(l:List Hy),(∀ y∈l,y.floating=true→y.text.length=2)→(∀ y∈l,∀ s∈y.text,s.size≤9223372036854775807)→∀ q∈(tsK l).map (·.1),q.size≤9223372036854775807:=by
 intro l
 rw[←List.reverse_reverse l]
 induction l.reverse with
 | nil=>simp[tsK]
 | cons y m ih=>
  intro h1 h2 q hq
  rw[List.reverse_cons]at h1 h2 hq
  rw[ZbU]at hq
  have ih':=ih (fun z hz=>h1 z (by simp at hz ⊢;exact .inl hz)) (fun z hz=>h2 z (by simp at hz ⊢;exact .inl hz))
  by_cases hf:y.floating=true
  · rw[if_pos hf,Zm3]at hq
    split at hq
    · exact ih' q hq
    · rcases List.mem_append.1 hq with h | h
      · exact ih' q h
      · rw[List.mem_singleton.1 h]
        exact h2 y (by simp) _ (ZF (by have:=h1 y (by simp) hf;omega))
  · rw[if_neg hf]at hq;exact ih' q hq
def Zqi (tm ts:List (ByteArray×ByteArray)):List (ByteArray×ByteArray):=ts.foldr (fun p m=>QT m p.1 p.2) tm
theorem Zg8 (tm:List (ByteArray×ByteArray)):∀(ts:List (ByteArray×ByteArray)) (k:ByteArray),ZB (Zqi tm ts) k=if(ZB ts k).isSome then ZB ts k else ZB tm k
 | [],k=>by simp[Zqi,X0]
 | p::ts,k=>by
  have ih:=Zg8 tm ts k
  simp only[Zqi,List.foldr_cons,Zat,Xr]at ih ⊢
  by_cases h:k=p.1
  · simp[h]
  · simp only[if_neg h];exact ih
end Go.Proofs.YtapelgeodldlcaaGreatDoor
set_option maxHeartbeats 8000000
set_option maxRecDepth 100000
namespace Go.Proofs.YtapelgeodldlcaaGreatDoor
open Go.RowKit
theorem ZsW {J:World→Prop} (hJ:Stab J) (M1:Nat) (M2:Nat) (M3:Nat) (M4:Nat) (M5:Nat) (cs:List ByteArray) (vs:List ByteArray) (fs:List ByteArray) (hm:List (ByteArray×Hy)) (tm:List (ByteArray×ByteArray)) (f:Fr) (bf:List Hy) (hw:f.wide.length*32≤140737488351232) (hG:X8 J):FnM (ι:= { q':List ByteArray×List (ByteArray×Hy)×List (ByteArray×ByteArray) // Zd1 cs vs fs hm tm f bf=0→q'.1=XT fs f.label∧q'.2.1=hmK hm (alH f)∧∀ k',ZB q'.2.2 k'=if(ZB (tsK (alH f)) k').isSome then ZB (tsK (alH f)) k' else ZB tm k' }) Tryz.prog J 21 [] [.ptr (mpC [M1,M2,M3,M4,M5]),.agg (frC f),.rd (YW bf)] [OB.set keyS M1 cs,OB.set keyS M2 vs,OB.set keyS M3 fs,OB.mH M4 hm,OB.mT M5 tm] (fun _=>.int (Zd1 cs vs fs hm tm f bf)) (fun i'=>[OB.set keyS M1 cs,OB.set keyS M2 vs,OB.set keyS M3 (i'.1.1),OB.mH M4 (i'.1.2.1),OB.mT M5 (i'.1.2.2)]):=by
 refine ZX (N:=183) Tryz.func21 rfl rfl (lb rfl) fun S w0 R hS hJ0 hH=>?_
 refine Z6 (B:=St All (SO S (OB.set keyS M1 cs::OB.set keyS M2 vs::OB.set keyS M3 fs::OB.mH M4 hm::OB.mT M5 tm::R)) w0 183 [(0,.ptr (mpC [M1,M2,M3,M4,M5])),(1,.agg (frC f)),(2,.rd (YW bf))] (XO J S w0.heap.size (OB.set keyS M1 cs::OB.set keyS M2 vs::OB.set keyS M3 fs::OB.mH M4 hm::OB.mT M5 tm::R))) ?_ fun a w h=>h
 refine ln 2 fun hl1=>?_
 refine Zhz (fun a w h=>Zp8 (h.get 1 rfl)) fun hsm=>?_
 refine ZI tb hJ [2,1000,1001] [.ptr [.ptr (mpC [M1,M2,M3,M4,M5])],.ptr (frC f),_] [0,1] [_,_,_] rfl ⟨fun _ _ hk hx hl _=>Zmj rfl (hl.env 0 0 _ rfl rfl) (Zr hS _ hk hx _ (Nat.le_refl _)) (jo hJ hx),fun _ _ hk hx hl _=>YP rfl (hl.env 1 1 _ rfl rfl) (Zr hS _ hk hx _ (Nat.le_refl _)) (jo hJ hx),trivial⟩ ?_
 refine Zj (ZI tb hJ [0,1,2,1003] [_,_,.bool (Zc3 f.label),_] [2] [_,_,_,_] rfl ⟨iFo hS hJ (Zb7 hJ (s:=f.label) ) ZfI,trivial⟩ ?_)
 refine cj 3 (fun hb1=>?_) fun hb1=>?_
 ·
  have e9:Zd1 cs vs fs hm tm f bf=2:=by rw[Zd1,if_pos hb1]
  refine qso tb hJ [1000] [_] [_] ?_
  exact Zg (fun a w h=>ZQ  (m:=0) ⟨(fs,hm,tm),by first | (intro h9;rw[e9]at h9;exact absurd h9 (by first | decide | exact nz)) | (intro _;exact⟨rfl,by rw[f2_2,ZC (by omega)],fun k'=>by rw[NOGHOST.2 k',e3]⟩)⟩ rfl h rfl (eI (e9.symm)))
 ·
  refine Zc (nx (Zj (Zj (fun a w h=>YO (γ:=Nat) (fun ix'=>([.ptr (mpC [M1,M2,M3,M4,M5]),.ptr (mpC [M1,M2,M3,M4,M5]),.ptr (mpC [M4,M5]),.lit (.map (some M4)),.ptr (frC f),.str f.label,.tup [.agg (hyC ((ZB hm f.label).getD default)),.bool ((ZB hm f.label).isSome)],.tup [.agg (hyC ((ZB hm f.label).getD default)),.bool ((ZB hm f.label).isSome)],.agg (hyC ((ZB hm f.label).getD default)),.bool ((ZB hm f.label).isSome),.any,.any,.bool ((ZB hm f.label).isSome)]:List AV).getD ix' .any) (fun ix'=>([true,true,true,true,true,true,true,true,true,true,true,true,true]:List Bool).getD ix' true) [(2,fun(g:Nat)=>.rd (YW bf)),(3,fun(g:Nat)=>.ptr [.ptr (mpC [M1,M2,M3,M4,M5])]),(4,fun(g:Nat)=>.ptr (frC f)),(8,fun(g:Nat)=>.bool ((ZB hm f.label).isSome))] (fun(j':Nat) (g:Nat)=>match j' with | 0=>(OB.set keyS M1 cs::OB.set keyS M2 vs::OB.set keyS M3 fs::OB.mH M4 hm::OB.mT M5 tm::R) | 1=>(OB.var g [.lit (.string (⟨#[]⟩:ByteArray)),.lit (.bool false),Zb ([]:List ByteArray)]::OB.set keyS M1 cs::OB.set keyS M2 vs::OB.set keyS M3 fs::OB.mH M4 hm::OB.mT M5 tm::R) | _=>(OB.var g [.lit (.string (((ZB hm f.label).getD default).label)),.lit (.bool (((ZB hm f.label).getD default).floating)),Zb (((ZB hm f.label).getD default).text)]::OB.set keyS M1 cs::OB.set keyS M2 vs::OB.set keyS M3 fs::OB.mH M4 hm::OB.mT M5 tm::R)) (fun(k':Nat) (g:Nat)=>match k' with | 0=>(.pointer (some ⟨g,0,none⟩)) | 1=>undef | _=>undef) [10,11] 2 0 (fun _=>rfl) h hJ Yh rfl rfl rfl rfl rfl rfl (fun j' g hj p hp=>by rcases j' with _ | _ | _ | j'<;>first | exact hp | exact List.mem_cons_of_mem _ hp | exact List.mem_cons_of_mem _ (List.mem_cons_of_mem _ hp) | (exfalso;omega)) ⟨?o3_1_0,⟨?o3_1_1,⟨?o3_1_2,⟨?o3_1_3,⟨?o3_1_4,⟨?o3_1_5,⟨?o3_1_6,⟨?o3_1_7,⟨?o3_1_8,⟨?o3_1_9,⟨?o3_1_10,⟨?o3_1_11,⟨?o3_1_12,trivial⟩⟩⟩⟩⟩⟩⟩⟩⟩⟩⟩⟩⟩ ⟨?e3_1_0,⟨?e3_1_1,trivial⟩⟩ ⟨.old 0 2 _ rfl rfl,⟨.old 1 3 _ rfl rfl,⟨.old 2 4 _ rfl rfl,⟨.new 12 8 _ rfl rfl rfl,trivial⟩⟩⟩⟩ ?n3_1))))
  exact oX rfl fun hx hl=>Zb5 ZgB rfl (hl.env 1 3 _ rfl rfl) hx
  exact oX rfl fun hx hl=>YL rfl (hl.D 0 24 rfl rfl) hx
  exact oX rfl fun hx hl=>ZT Zad rfl (hl.D 1 25 rfl rfl) hx
  exact oX rfl fun hx hl=>ZA ZgA rfl (hl.D 2 26 rfl rfl) hx
  exact oX rfl fun hx hl=>ZT Zbm rfl (hl.env 2 4 _ rfl rfl) hx
  exact oX rfl fun hx hl=>ZA Q1 rfl (hl.D 4 28 rfl rfl) hx
  exact fun _ O' hO'=>⟨rfl,fun _ _ _ hx hl _=>XE (Kd:=keyS) (f:=(fun z':Hy=>AV.agg (hyC z'))) (L:=hm) Ql Zak f.label rfl (Zd hx (hO' _ (mo 3 rfl))) (hl.D 3 27 rfl rfl) (hl.D 5 29 rfl rfl) hx⟩
  exact oX rfl fun hx hl=>Yk rfl (hl.D 6 30 rfl rfl) hx
  exact oX rfl fun hx hl=>YY rfl (hl.D 7 23 rfl rfl) rfl hx
  exact oX rfl fun hx hl=>YY rfl (hl.D 7 23 rfl rfl) rfl hx
  exact Zi rfl
  exact Zi rfl
  exact oX rfl fun hx hl=>XI rfl (hl.D 9 32 rfl rfl) hx
  case e3_1_0=>exact⟨_,rfl,rfl,rfl,rfl,fun g _ w hk hx _ _=>Zp (ZbM Y2 hJ rfl hk hx) fun v w' ⟨g',hv,hp⟩=>⟨g',rfl,fun k' hk'=>absurd hk' (Nat.not_lt_zero _),fun _=>hv,hp⟩⟩
  case e3_1_1=>exact⟨_,rfl,rfl,rfl,rfl,fun g _ w hk hx hl hs=>(by obtain⟨us2,hv2,hr3⟩:=Zap (cs:=[.lit (.string (((ZB hm f.label).getD default).label)),.lit (.bool (((ZB hm f.label).getD default).floating)),Zb (((ZB hm f.label).getD default).text)]) (hl.D 8 31 rfl rfl);exact Zp (XJ (S':=S) (off:=0) (cs:=[.lit (.string (⟨#[]⟩:ByteArray)),.lit (.bool false),Zb ([]:List ByteArray)]) (news:=[.lit (.string (((ZB hm f.label).getD default).label)),.lit (.bool (((ZB hm f.label).getD default).floating)),Zb (((ZB hm f.label).getD default).text)]) (es:=[.lit (.string (((ZB hm f.label).getD default).label)),.lit (.bool (((ZB hm f.label).getD default).floating)),Zb (((ZB hm f.label).getD default).text)]) (us:=us2) hJ hJ0 Xp rfl hk hx (ZdG (hs 0 10 _ 7 (by omega) rfl rfl rfl)) (by rw[hv2];rfl) hr3 (lb rfl) rfl) fun v w' hp=>⟨g,rfl,fun _ _=>rfl,fun e=>(by cases e),hp⟩)⟩
  clear a w h
  intro b1
  dsimp only[List.map]
  refine kw Zy ?_
  refine nx (ZI tb hJ [0,1,2,1015] [_,_,_,_,_,.bool (decide (f.label∈cs)||decide (f.label∈vs)),_,_,_,_,_,_,_,_,.bool (decide (f.label∈fs)),_] [5,14] [_,_,_,_] rfl ⟨fun _ _ hk hx hl hc=>Y9 (Zbf hJ (M1:=M1) (M2:=M2) (M3:=M3) (M4:=M4) (M5:=M5) (cs:=cs) (vs:=vs) (s:=f.label) ) ZfJ rfl (Zr hS _ hk hx) (hx.1) (ZG (Zd hx (mo 0 rfl)) (ZG (Zd hx (mo 1 rfl)) Zq)) (Za (hl.D 2 35 rfl hc) (Za (hl.D 4 37 rfl hc) Ze)) (jo hJ hx),fun _ _ _ hx hl hc=>Z8 (Kd:=keyS) (xs:=fs) ZV ZM f.label rfl (Zd hx (mo 2 rfl)) (hl.D 11 44 rfl hc) (hl.D 13 46 rfl hc) hx,trivial⟩ ?_)
  refine cj 3 (fun hb2=>?_) fun hb2=>?_
  ·
   have e9:Zd1 cs vs fs hm tm f bf=6:=by rw[Zd1,if_neg (by rw[hb1];decide),if_pos hb2]
   refine qso tb hJ [1000] [_] [_] ?_
   exact Zg (fun a w h=>ZQ  (m:=0) ⟨(fs,hm,tm),by first | (intro h9;rw[e9]at h9;exact absurd h9 (by first | decide | exact nz)) | (intro _;exact⟨rfl,by rw[f2_2,ZC (by omega)],fun k'=>by rw[NOGHOST.2 k',e3]⟩)⟩ rfl h rfl (eI (e9.symm)))
  ·
   refine Zc (nx (Zj (ZI tb hJ [0,1,2,1001,1009] [_,_,.int (f.hyps.length:Nat),_,_,_,_,.int (f.dummies.length:Nat),_,_] [2,7] [_,_,_,_,_] rfl ⟨YG ZN,YG ZN,trivial⟩ ?_)))
   refine ln 3 fun hl2=>?_
   refine cj 4 (fun hb3=>?_) fun hb3=>?_
   ·
    have e9:Zd1 cs vs fs hm tm f bf=4:=by rw[Zd1,if_neg (by rw[hb1];decide),if_neg (by rw[hb2];decide),if_pos hb3]
    refine qso tb hJ [1000] [_] [_] ?_
    exact Zg (fun a w h=>ZQ  (m:=0) ⟨(fs,hm,tm),by first | (intro h9;rw[e9]at h9;exact absurd h9 (by first | decide | exact nz)) | (intro _;exact⟨rfl,by rw[f2_2,ZC (by omega)],fun k'=>by rw[NOGHOST.2 k',e3]⟩)⟩ rfl h rfl (eI (e9.symm)))
   ·
    have hb3a:f.hyps.length≤40∧f.dummies.length≤40:=by simp at hb3;omega
    refine Zc (nx (tw pm2 ?_))
    refine Zj (fun a w h=>YO (γ:=Unit) (fun ix'=>([.ptr (mpC [M1,M2,M3,M4,M5]),.ptr (mpC [M1,M2,M3,M4,M5]),.ptr (mpC [M3,M4,M5]),.lit (.map (some M3)),.ptr (frC f),.str f.label,.any]:List AV).getD ix' .any) (fun ix'=>([true,true,true,true,true,true,true]:List Bool).getD ix' true) [(2,fun(g:Unit)=>.rd (YW bf)),(3,fun(g:Unit)=>.ptr [.ptr (mpC [M1,M2,M3,M4,M5])]),(4,fun(g:Unit)=>.ptr (frC f))] (fun(j':Nat) (g:Unit)=>match j' with | 0=>(OB.set keyS M3 fs::OB.set keyS M1 cs::OB.set keyS M2 vs::OB.mH M4 hm::OB.mT M5 tm::R) | _=>(OB.set keyS M3 (XT fs f.label)::OB.set keyS M1 cs::OB.set keyS M2 vs::OB.mH M4 hm::OB.mT M5 tm::R)) (fun(k':Nat) (g:Unit)=>match k' with | 0=>undef | _=>undef) [6] 0 () (fun _=>rfl) h hJ Yh rfl rfl rfl rfl rfl rfl (fun j' g hj p hp=>by rcases j' with _ | _ | _ | j'<;>first | exact hp | exact List.mem_cons_of_mem _ hp | exact List.mem_cons_of_mem _ (List.mem_cons_of_mem _ hp) | (exfalso;omega)) ⟨?o8_2_0,⟨?o8_2_1,⟨?o8_2_2,⟨?o8_2_3,⟨?o8_2_4,⟨?o8_2_5,⟨?o8_2_6,trivial⟩⟩⟩⟩⟩⟩⟩ ⟨?e8_2_0,trivial⟩ ⟨.old 0 2 _ rfl rfl,⟨.old 1 3 _ rfl rfl,⟨.old 2 4 _ rfl rfl,trivial⟩⟩⟩ ?n8_2)
    exact oX rfl fun hx hl=>Zb5 ZgB rfl (hl.env 1 3 _ rfl rfl) hx
    exact oX rfl fun hx hl=>YL rfl (hl.D 0 59 rfl rfl) hx
    exact oX rfl fun hx hl=>ZT ZkS rfl (hl.D 1 60 rfl rfl) hx
    exact oX rfl fun hx hl=>ZA Zrw rfl (hl.D 2 61 rfl rfl) hx
    exact oX rfl fun hx hl=>ZT Zbm rfl (hl.env 2 4 _ rfl rfl) hx
    exact oX rfl fun hx hl=>ZA Q1 rfl (hl.D 4 63 rfl rfl) hx
    exact Zi rfl
    case e8_2_0=>exact⟨_,rfl,rfl,rfl,rfl,fun g _ w hk hx hl _=>Zp (d_putS ZV hJ hJ0 f.label (.inl rfl) hk hx (hl.D 3 62 rfl rfl) (hl.D 5 64 rfl rfl) (Rel.of_lit (Go.Value.bool true))) fun v w' ⟨_,hp⟩=>⟨g,rfl,fun _ _=>rfl,fun e=>(by cases e),hp⟩⟩
    clear a w h
    intro _
    dsimp only[List.map]
    refine nx (tsq ?_)
    refine QC keyS hJ rfl rfl rfl (lb rfl) fun m2=>?_
    refine ZeJ keyS (fun z':ByteArray=>AV.str z') hJ rfl rfl rfl (lb rfl) fun m3=>?_
    refine sq (.agg [.lit (.map (some m2)),.lit (.map (some m3))]) rfl rfl (lb rfl) (fun a _ h=>ZbI (us:=[a.eval (Go.Operand.tmp 65),a.eval (Go.Operand.tmp 66)]) Zk5 rfl (by simp) (Zz (h.get 1 rfl) (Zz (h.get 0 rfl) Yb)) rfl h.x) ?_
    refine ZP Zj6 hJ rfl rfl rfl (lb rfl) fun b4=>?_
    refine ZE (b:=b4) (off:=0) (cs:=[.lit (.map none),.lit (.map none)]) (es:=[.lit (.map (some m2)),.lit (.map (some m3))]) (news:=[.lit (.map (some m2)),.lit (.map (some m3))]) hJ hJ0 ZlQ rfl rfl rfl (lb rfl) rfl (fun a w h=>⟨(h.get 0 rfl),(h.get 1 rfl)⟩) ?_
    refine kw (fun h=>Ym hS h (m:=0) (s:=9) rfl) ?_
    refine seK [0,4,5,6] [_,_,_,_] rfl ?_
    refine nx (Zj (Zj (YQ tb hJ [0,1,2,3,1003,1004,1005,1006,1007] [_,_,_,_,.rd (Ztp ([f.hyps,f.dummies]:List (List Hy))),.rd (YW (([f.hyps,f.dummies]:List (List Hy)).flatten)),.int ((([f.hyps,f.dummies]:List (List Hy)).flatten).length:Nat),_] [4,5,6] [_,_,_,_,_,_,_,_,_] rfl ⟨fun a _ hk hx hl _=>Qt (k:=2) (us:=[a.eval (Go.Operand.tmp 69),a.eval (Go.Operand.tmp 71)]) Qu ZeD rfl (by simp) (Zz (hl.D 1 69 rfl rfl) (Zz (hl.D 3 71 rfl rfl) Yb)) rfl (by decide) (by decide) (Zr hS _ hk hx _ (Nat.le_refl _)) (jo hJ hx),iFo hS hJ (Zgy hJ (ls:=([f.hyps,f.dummies]:List (List Hy))) (by refine ZhF ?_;simp;omega)) Zn4,YG ZN,trivial⟩ ?_)))
    refine kw (sa 6 rfl (congrArg (fun z'=>AV.rd (YW z')) (show(([f.hyps,f.dummies]:List (List Hy)).flatten)=(alH f)from by simp))) ?_
    refine kw (sa 7 rfl (congrArg AV.int (show(((([f.hyps,f.dummies]:List (List Hy)).flatten).length:Nat):Int)=(((alH f).length:Nat):Int)from by simp))) ?_
    refine nx (ln 4 fun hl3=>?_)
    refine ln 5 fun hl4=>?_
    refine ln 6 fun hl5=>?_
    refine Zf (lpo (ι:=Nat×(List ByteArray)×(List (ByteArray×ByteArray))) (fun(k,ls,ts)=>(k≤(alH f).length)∧(ls=lsK ((alH f).take k))∧(ts=tsK ((alH f).take k))∧(∀ j,j<k→hyK cs vs fs hm tm f j=0)) (fun(_,ls,ts)=>(OB.mT m3 ts::OB.set keyS m2 ls::OB.set keyS M3 (XT fs f.label)::OB.set keyS M1 cs::OB.set keyS M2 vs::OB.mH M4 hm::OB.mT M5 tm::R)) (fun(k,_,_)=>[(75,.int (k:Nat))]) (fun(k,_,_)=>(alH f).length-k) [0,1,2,3,6,7,8] [_,_,_,_,_,_] (0,([]:List ByteArray),([]:List (ByteArray×ByteArray))) ⟨Nat.zero_le _,rfl,rfl,fun j hj=>by omega⟩ ?_)
    rintro⟨k,ls,ts⟩ ⟨f1_1,f1_2,f1_3,f1_4⟩
    refine qso tb hJ [0,1,2,3,4,5,6,1000] [_] [_,_,_,_,_,_,_,_] ?_
    refine cjS 7 (fun hb4=>?_) fun hb4=>?_
    ·
     have hk4:k< (alH f).length:=Int.ofNat_lt.1 (of_decide_eq_true hb4)
     refine Zc (nx (Zj (Zf (tsq ?_))))
     refine snK 1 tb rfl ?_
     refine sq (.ptr (hyC (ge (alH f) k))) rfl rfl (lb rfl) (fun _ _ h=>Yg (i:=(k:Int)) ZR rfl (h.get 5 rfl) (h.get 7 rfl) (Int.natCast_nonneg _) (Yy (xs:=alH f) (k:=k) sfz) rfl h.x) ?_
     refine snK 1 tb rfl ?_
     refine ZP Y2 hJ rfl rfl rfl (lb rfl) fun b5=>?_
     refine snK 1 tb rfl ?_
     refine ZE (b:=b5) (off:=0) (cs:=[.lit (.string (⟨#[]⟩:ByteArray)),.lit (.bool false),Zb ([]:List ByteArray)]) (es:=[.lit (.string ((ge (alH f) k).label)),.lit (.bool ((ge (alH f) k).floating)),Zb ((ge (alH f) k).text)]) (news:=[.lit (.string ((ge (alH f) k).label)),.lit (.bool ((ge (alH f) k).floating)),Zb ((ge (alH f) k).text)]) hJ hJ0 Xp rfl rfl rfl (lb rfl) rfl (fun a w h=>⟨(h.get 1 rfl),(h.get 2 rfl)⟩) ?_
     refine kw (fun h=>Ym hS h (m:=1) (s:=11) rfl) ?_
     refine seK [0,1,5,6,7,8,9,10,11] [_,_,_,_,_,_,_,_,_] rfl ?_
     refine nx (Zj (ZI tb hJ [0,2,3,4,5,6,7,8,1009] [_,_,_,_,_,_,.int (f.hyps.length:Nat),_,.int (Zfy cs vs (XT fs f.label) hm tm ls ts (ge (alH f) k) (decide ((f.hyps.length:Int)≤(k:Int)))),_] [6,8] [_,_,_,_,_,_,_,_,_] rfl ⟨YG ZN,fun _ _ hk hx hl _=>Y9 (p_hyp hJ (M1:=M1) (M2:=M2) (M3:=M3) (M4:=M4) (M5:=M5) (L1:=m2) (T1:=m3) (cs:=cs) (vs:=vs) (fs:=(XT fs f.label)) (hm:=hm) (tm:=tm) (ls:=ls) (ts:=ts) (y:=(ge (alH f) k)) (dm:=(decide ((f.hyps.length:Int)≤(k:Int)))) ) Zuq rfl (Zr hS _ hk hx) (hx.1) (ZG (Zd hx (mo 3 rfl)) (ZG (Zd hx (mo 4 rfl)) (ZG (Zd hx (mo 2 rfl)) (ZG (Zd hx (mo 5 rfl)) (ZG (Zd hx (mo 6 rfl)) (ZG (Zd hx (mo 1 rfl)) (ZG (Zd hx (mo 0 rfl)) Zq))))))) (Za (hl.D 0 80 rfl rfl) (Za (hl.D 1 81 rfl rfl) (Za (hl.D 2 82 rfl rfl) (Za (hl.D 7 87 rfl rfl) Ze)))) (jo hJ hx),trivial⟩ ?_))
     refine qso tb hJ [0,1,2,3,4,5,6,7,8,1001] [_,_] [_,_,_,_,_,_,_,_,_,_] ?_
     refine cj 9 (fun hb5=>?_) fun hb5=>?_
     ·
      have nz:=Zji hb5
      have e0:hyK cs vs fs hm tm f k=Zfy cs vs (XT fs f.label) hm tm ls ts (ge (alH f) k) (decide ((f.hyps.length:Int)≤(k:Int))):=by rw[hyK,←f1_2,←f1_3]
      have e5:XC (alH f).length (hyK cs vs fs hm tm f)=hyK cs vs fs hm tm f k:=QA (by omega) f1_4 (by rw[e0];exact nz)
      have e9:Zd1 cs vs fs hm tm f bf=Zfy cs vs (XT fs f.label) hm tm ls ts (ge (alH f) k) (decide ((f.hyps.length:Int)≤(k:Int))):=by rw[Zd1,if_neg (by rw[hb1];decide),if_neg (by rw[hb2];decide),if_neg (by rw[hb3];decide),if_pos (by rw[e5,e0];exact hb5),e5,e0]
      refine qso tb hJ [1001] [_,_] [_] ?_
      refine tw Zy ?_
      refine tw Zy ?_
      refine tw pm4 ?_
      refine tw pm4 ?_
      refine tw pm2 ?_
      refine tw pm4 ?_
      refine tw pm4 ?_
      exact Zg (fun a w h=>ZQ  (m:=0) ⟨((XT fs f.label),hm,tm),by first | (intro h9;rw[e9]at h9;exact absurd h9 (by first | decide | exact nz)) | (intro _;exact⟨rfl,by rw[f2_2,ZC (by omega)],fun k'=>by rw[NOGHOST.2 k',e3]⟩)⟩ rfl h rfl (eI (e9.symm)))
     ·
      have q5:=ZhW hb5
      have hf5:=ZgV q5
      refine Zc (nx (tsq ?_))
      refine snK 4 tb rfl ?_
      refine kw pm1 ?_
      refine Q0 ZV hJ hJ0 ((ge (alH f) k).label) rfl rfl (.inl rfl) (fun a w h=>⟨(h.get 2 rfl),(h.get 0 rfl),(Rel.of_lit (Go.Value.bool true))⟩) ?_
      refine seK [4,5,6,7,8,9,10,11] [_,_,_,_,_,_,_,_] rfl ?_
      refine nx (qso tb hJ [0,1,2,3,4,5,6,7,1001] [_,_] [_,_,_,_,_,_,_,_,_] ?_)
      refine cj 8 (fun hb6=>?_) fun hb6=>?_
      ·
       try simp at hb6
       refine tw pm1 ?_
       refine fun a w h=>YO (γ:=Unit) (fun ix'=>([.ptr [.lit (.map (some m3))],.lit (.map (some m3)),.ptr [Zb ((ge (alH f) k).text)],.rd (Zb ((ge (alH f) k).text)),.ptr [.lit (.string (ge ((ge (alH f) k).text) 1))],.str (ge ((ge (alH f) k).text) 1),.ptr [Zb ((ge (alH f) k).text)],.rd (Zb ((ge (alH f) k).text)),.ptr [.lit (.string (ge ((ge (alH f) k).text) 0))],.str (ge ((ge (alH f) k).text) 0),.any]:List AV).getD ix' .any) (fun _=>true) [(9,fun(g:Unit)=>.ptr (mpC [m2,m3])),(2,fun(g:Unit)=>.rd (YW bf)),(3,fun(g:Unit)=>.ptr [.ptr (mpC [M1,M2,M3,M4,M5])]),(4,fun(g:Unit)=>.ptr (frC f)),(73,fun(g:Unit)=>.rd (YW (alH f))),(74,fun(g:Unit)=>.int ((alH f).length:Nat)),(75,fun(g:Unit)=>.int (k:Nat))] (fun(j':Nat) (g:Unit)=>match j' with | 0=>(OB.mT m3 ts::OB.set keyS m2 (XT ls ((ge (alH f) k).label))::OB.set keyS M3 (XT fs f.label)::OB.set keyS M1 cs::OB.set keyS M2 vs::OB.mH M4 hm::OB.mT M5 tm::R) | _=>(OB.mT m3 (QT ts (ge ((ge (alH f) k).text) 1) (ge ((ge (alH f) k).text) 0))::OB.set keyS m2 (XT ls ((ge (alH f) k).label))::OB.set keyS M3 (XT fs f.label)::OB.set keyS M1 cs::OB.set keyS M2 vs::OB.mH M4 hm::OB.mT M5 tm::R)) (fun(k':Nat) (g:Unit)=>match k' with | 0=>undef | _=>undef) [10] 0 () (fun _=>rfl) h hJ Yh rfl rfl rfl rfl rfl rfl (fun j' g hj p hp=>by rcases j' with _ | _ | _ | j'<;>first | exact hp | exact List.mem_cons_of_mem _ hp | exact List.mem_cons_of_mem _ (List.mem_cons_of_mem _ hp) | (exfalso;omega)) ⟨?_,⟨?_,⟨?_,⟨?_,⟨?_,⟨?_,⟨?_,⟨?_,⟨?_,⟨?_,⟨?_,trivial⟩⟩⟩⟩⟩⟩⟩⟩⟩⟩⟩ ⟨?e18_3_0,trivial⟩ ⟨.old 1 9 _ rfl rfl,⟨.old 2 2 _ rfl rfl,⟨.old 3 3 _ rfl rfl,⟨.old 4 4 _ rfl rfl,⟨.old 5 73 _ rfl rfl,⟨.old 6 74 _ rfl rfl,⟨.old 7 75 _ rfl rfl,trivial⟩⟩⟩⟩⟩⟩⟩ ?n18_3
       exact oX rfl fun hx hl=>ZT Ze4 rfl (hl.env 1 9 _ rfl rfl) hx
       exact oX rfl fun hx hl=>ZA ZmQ rfl (hl.D 0 98 rfl rfl) hx
       exact oX rfl fun hx hl=>ZT Zac rfl (hl.env 0 11 _ rfl rfl) hx
       exact oX rfl fun hx hl=>ZA X7 rfl (hl.D 2 100 rfl rfl) hx
       exact oX rfl fun hx hl=>Yg (i:=((1:Nat):Int)) Zn rfl (hl.D 3 101 rfl rfl) (Rel.of_lit (Go.Value.int Go.IntKind.i64 1)) (Int.natCast_nonneg _) (Yy (xs:=(ge (alH f) k).text) (k:=1) (by have:=YC hf5 hb6;omega)) rfl hx
       exact oX rfl fun hx hl=>ZA Q1 rfl (hl.D 4 102 rfl rfl) hx
       exact oX rfl fun hx hl=>ZT Zac rfl (hl.env 0 11 _ rfl rfl) hx
       exact oX rfl fun hx hl=>ZA X7 rfl (hl.D 6 104 rfl rfl) hx
       exact oX rfl fun hx hl=>Yg (i:=((0:Nat):Int)) Zn rfl (hl.D 7 105 rfl rfl) (Rel.of_lit (Go.Value.int Go.IntKind.i64 0)) (Int.natCast_nonneg _) (Yy (xs:=(ge (alH f) k).text) (k:=0) (by have:=YC hf5 hb6;omega)) rfl hx
       exact oX rfl fun hx hl=>ZA Q1 rfl (hl.D 8 106 rfl rfl) hx
       exact Zi rfl
       case e18_3_0=>exact⟨_,rfl,rfl,rfl,rfl,fun g _ w hk hx hl _=>Zp (ZnF (f:=(fun z':ByteArray=>AV.str z')) Zaw hJ hJ0 (ge ((ge (alH f) k).text) 1) (ge ((ge (alH f) k).text) 0) (.inl rfl) hk hx (hl.D 1 99 rfl rfl) (hl.D 5 103 rfl rfl) (hl.D 9 107 rfl rfl)) fun v w' ⟨_,hp⟩=>⟨g,rfl,fun _ _=>rfl,fun e=>(by cases e),hp⟩⟩
       clear a w h
       intro _
       dsimp only[List.map]
       refine nx (YQ tb hJ [0,1,2,3,4,5,1001] [.int (k+1:Nat),_] [0] [_,_,_,_,_,_,_] rfl ⟨Yv,trivial⟩ ?_)
       exact Xi (k+1,XT ls ((ge (alH f) k).label),QT ts (ge ((ge (alH f) k).text) 1) (ge ((ge (alH f) k).text) 0)) [0,1,2,3,4,5,6] ⟨by omega,by rw[ZO (by omega),Zfu,←f1_2],by rw[ZO (by omega),ZbU,←f1_3,if_pos hb6],ZZ f1_4 (by rw[hyK,←f1_2,←f1_3];exact q5)⟩
      ·
       try simp at hb6
       refine Zc (nx (YQ tb hJ [1,2,3,4,5,6,1001] [.int (k+1:Nat),_] [0] [_,_,_,_,_,_,_] rfl ⟨Yv,trivial⟩ ?_))
       refine kw pm6 ?_
       refine kw pm6 ?_
       refine kw pm6 ?_
       refine kw pm6 ?_
       refine kw pm6 ?_
       refine kw pm5 ?_
       refine kw pm6 ?_
       exact Xi (k+1,XT ls ((ge (alH f) k).label),ts) [0,1,2,3,4,5,6] ⟨by omega,by rw[ZO (by omega),Zfu,←f1_2],by rw[ZO (by omega),ZbU,←f1_3,if_neg (by simp[hb6])],ZZ f1_4 (by rw[hyK,←f1_2,←f1_3];exact q5)⟩
    ·
     have hk4:(alH f).length≤k:=by have:=of_decide_eq_false hb4;omega
     have e4:XC (alH f).length (hyK cs vs fs hm tm f)=0:=Zae fun j hj=>f1_4 j (by omega)
     have e3:ts=tsK (alH f):=by rw[f1_3,ZC (by omega)]
     have hfm:∀ y∈alH f,∃ dm,Zab y dm=false:=fun y hy=>by obtain⟨j,hj,rfl⟩:=XQ hy;exact⟨_,ZgV (f1_4 j (by omega))⟩
     have h2t:∀ y∈alH f,y.floating=true→y.text.length=2:=fun y hy hf=>by obtain⟨dm,hd⟩:=hfm y hy;exact YC hd hf
     refine Zx (nx (Zj (ZI tb hJ [0,1,2,3,1002,1004] [_,_,_,.int (Zke cs vs f.text),_] [3] [_,_,_,_,_,_] rfl ⟨fun _ _ hk hx hl _=>Y9 (Zrp hJ (M1:=M1) (M2:=M2) (M3:=M3) (M4:=M4) (M5:=M5) (cs:=cs) (vs:=vs) (l:=f.text) ) Zn3 rfl (Zr hS _ hk hx) (hx.1) (ZG (Zd hx (mo 3 rfl)) (ZG (Zd hx (mo 4 rfl)) Zq)) (Za (hl.D 0 109 rfl rfl) (Za (hl.D 2 111 rfl rfl) Ze)) (jo hJ hx),trivial⟩ ?_)))
     refine ln 4 fun hl6=>?_
     refine qso tb hJ [0,1,2,3,5,1001] [_,_] [_,_,_,_,_,_] ?_
     refine cj 5 (fun hb7=>?_) fun hb7=>?_
     ·
      have nz:=Zji hb7
      have e9:Zd1 cs vs fs hm tm f bf=Zke cs vs f.text:=by rw[Zd1,if_neg (by rw[hb1];decide),if_neg (by rw[hb2];decide),if_neg (by rw[hb3];decide),if_neg (by rw[e4];decide),if_pos hb7]
      refine qso tb hJ [1001] [_,_] [_] ?_
      refine tw Zy ?_
      refine tw Zy ?_
      refine tw pm4 ?_
      refine tw pm4 ?_
      refine tw pm2 ?_
      refine tw pm4 ?_
      refine tw pm4 ?_
      exact Zg (fun a w h=>ZQ  (m:=0) ⟨((XT fs f.label),hm,tm),by first | (intro h9;rw[e9]at h9;exact absurd h9 (by first | decide | exact nz)) | (intro _;exact⟨rfl,by rw[f2_2,ZC (by omega)],fun k'=>by rw[NOGHOST.2 k',e3]⟩)⟩ rfl h rfl (eI (e9.symm)))
     ·
      refine Zc (nx (Zj (ZI tb hJ [0,1,2,3,1003] [_,_,.int (Zet vs f),_] [2] [_,_,_,_,_] rfl ⟨fun _ _ hk hx hl _=>Y9 (p_sets hJ (M1:=M1) (M2:=M2) (M3:=M3) (M4:=M4) (M5:=M5) (vs:=vs) (f:=f) (hb3a.1) (hw) (fun x hx=>h2t x (List.mem_append_left _ hx))) Zup rfl (Zr hS _ hk hx) (hx.1) (ZG (Zd hx (mo 4 rfl)) Zq) (Za (hl.D 0 116 rfl rfl) (Za (hl.D 1 117 rfl rfl) Ze)) (jo hJ hx),trivial⟩ ?_)))
      refine qso tb hJ [0,1,2,3,4,1001] [_,_] [_,_,_,_,_,_] ?_
      refine cj 5 (fun hb8=>?_) fun hb8=>?_
      ·
       have nz:=Zji hb8
       have e9:Zd1 cs vs fs hm tm f bf=Zet vs f:=by rw[Zd1,if_neg (by rw[hb1];decide),if_neg (by rw[hb2];decide),if_neg (by rw[hb3];decide),if_neg (by rw[e4];decide),if_neg (by rw[hb7];decide),if_pos hb8]
       refine qso tb hJ [1001] [_,_] [_] ?_
       refine tw Zy ?_
       refine tw Zy ?_
       refine tw pm4 ?_
       refine tw pm4 ?_
       refine tw pm2 ?_
       refine tw pm4 ?_
       refine tw pm4 ?_
       exact Zg (fun a w h=>ZQ  (m:=0) ⟨((XT fs f.label),hm,tm),by first | (intro h9;rw[e9]at h9;exact absurd h9 (by first | decide | exact nz)) | (intro _;exact⟨rfl,by rw[f2_2,ZC (by omega)],fun k'=>by rw[NOGHOST.2 k',e3]⟩)⟩ rfl h rfl (eI (e9.symm)))
      ·
       refine Zc (nx (Zj (ZI tb hJ [0,1,2,3,1001,1019] [_,_,.int (f.proof.length:Nat),_,_,_,_,_,_,_,_,.int (f.proof.length:Nat),_,_,_,_,_,.bool (f.proof.any (fun s=>!XY s)),_,_] [2,11,17] [_,_,_,_,_,_] rfl ⟨YG Zv,YG Zv,fun _ _ hk hx hl hc=>Y9 (YZ hJ (xs:=f.proof) (f:=43) (caps:=[]) (Os:=[]) (p:=(fun s=>!XY s)) (fun q'=>(Zpr hJ q' hG).r) (Zuo)) ZcD rfl (Zr hS _ hk hx) (hx.1) Zq (Za (hl.D 16 138 rfl hc) (Za (QQ 43) Ze)) (jo hJ hx),trivial⟩ ?_)))
       refine ln 4 fun hl7=>?_
       refine cj 5 (fun hb9=>?_) fun hb9=>?_
       ·
        have e9:Zd1 cs vs fs hm tm f bf=2:=by rw[Zd1,if_neg (by rw[hb1];decide),if_neg (by rw[hb2];decide),if_neg (by rw[hb3];decide),if_neg (by rw[e4];decide),if_neg (by rw[hb7];decide),if_neg (by rw[hb8];decide),if_pos (show ZuP f=true from hb9)]
        refine qso tb hJ [1000] [_] [_] ?_
        refine tw Zy ?_
        refine tw Zy ?_
        refine tw pm4 ?_
        refine tw pm4 ?_
        refine tw pm2 ?_
        refine tw pm4 ?_
        refine tw pm4 ?_
        exact Zg (fun a w h=>ZQ  (m:=0) ⟨((XT fs f.label),hm,tm),by first | (intro h9;rw[e9]at h9;exact absurd h9 (by first | decide | exact nz)) | (intro _;exact⟨rfl,by rw[f2_2,ZC (by omega)],fun k'=>by rw[NOGHOST.2 k',e3]⟩)⟩ rfl h rfl (eI (e9.symm)))
       ·
        refine Zc (nx (ZI tb hJ [0,1,2,3,1001,1002] [_,.rd (YW (Qq f.hyps)),_] [1] [_,_,_,_,_,_] rfl ⟨iFo hS hJ (ZcL hJ (f:=f) (by refine ZhF ?_;omega)) Zn7,trivial⟩ ?_))
        refine ln 4 fun hl8=>?_
        refine ZI tb hJ [0,2,3,1008,1009] [_,_,_,.int (ZfE (bf.map Hy.label) ((Qq f.hyps).map Hy.label):Nat),_,.int ((Qq f.hyps).length:Nat),_,.int ((Qq f.hyps).length:Nat),.rd (YW ((Qq f.hyps).drop (ZfE (bf.map Hy.label) ((Qq f.hyps).map Hy.label)))),_] [3,5,7,8] [_,_,_,_,_] rfl ⟨iFo hS hJ (Zpt hJ (xs:=bf) (ys:=(Qq f.hyps)) ) Zum,YG ZN,YG ZN,fun _ _ _ hx hl _=>Zo7 (ys:=(Qq f.hyps).drop (ZfE (bf.map Hy.label) ((Qq f.hyps).map Hy.label))) (lo:=ZfE (bf.map Hy.label) ((Qq f.hyps).map Hy.label)) rfl ZR (fun _=>rfl) rfl (hl.D 0 144 rfl rfl) (hl.D 3 147 rfl rfl) (hl.D 5 149 rfl rfl) (hl.D 7 151 rfl rfl) (by have:=ZnJ (bf.map Hy.label) ((Qq f.hyps).map Hy.label);simpa using this) hx,trivial⟩ ?_
        refine ln 3 fun hl9=>?_
        refine Zj (ZI tb hJ [0,1,2,1002] [_,.fn 47 [.ptr [.ptr (mpC [M1,M2,M3,M4,M5])]],.bool (((Qq f.hyps).drop (ZfE (bf.map Hy.label) ((Qq f.hyps).map Hy.label))).any (fun y=>(ZB hm y.label).isSome))] [1,2] [_,_,_,_] rfl ⟨fun _ _ _ hx hl _=>Xy (caps:=[(Go.Operand.tmp 3)]) rfl (Za (hl.env 1 3 _ rfl rfl) Ze) hx,fun _ _ hk hx hl _=>Y9 (ZaV hJ (xs:=((Qq f.hyps).drop (ZfE (bf.map Hy.label) ((Qq f.hyps).map Hy.label)))) (f:=47) (caps:=[.ptr [.ptr (mpC [M1,M2,M3,M4,M5])]]) (Os:=[OB.mH M4 hm]) (p:=(fun y=>(ZB hm y.label).isSome)) (fun q'=>Zpq hJ M1 M2 M3 M4 M5 hm q') (Zul)) Zn2 rfl (Zr hS _ hk hx) (hx.1) (ZG (Zd hx (mo 5 rfl)) Zq) (Za (hl.D 0 153 rfl rfl) (Za (hl.D 1 154 rfl rfl) Ze)) (jo hJ hx),trivial⟩ ?_)
        refine cj 3 (fun hb10=>?_) fun hb10=>?_
        ·
         have e9:Zd1 cs vs fs hm tm f bf=7:=by rw[Zd1,if_neg (by rw[hb1];decide),if_neg (by rw[hb2];decide),if_neg (by rw[hb3];decide),if_neg (by rw[e4];decide),if_neg (by rw[hb7];decide),if_neg (by rw[hb8];decide),if_neg (by rw[show ZuP f=_ from hb9];decide),if_pos hb10]
         refine qso tb hJ [1000] [_] [_] ?_
         refine tw Zy ?_
         refine tw Zy ?_
         refine tw pm4 ?_
         refine tw pm4 ?_
         refine tw pm2 ?_
         refine tw pm4 ?_
         refine tw pm4 ?_
         exact Zg (fun a w h=>ZQ  (m:=0) ⟨((XT fs f.label),hm,tm),by first | (intro h9;rw[e9]at h9;exact absurd h9 (by first | decide | exact nz)) | (intro _;exact⟨rfl,by rw[f2_2,ZC (by omega)],fun k'=>by rw[NOGHOST.2 k',e3]⟩)⟩ rfl h rfl (eI (e9.symm)))
        ·
         have e9:Zd1 cs vs fs hm tm f bf=0:=by rw[Zd1,if_neg (by rw[hb1];decide),if_neg (by rw[hb2];decide),if_neg (by rw[hb3];decide),if_neg (by rw[e4];decide),if_neg (by rw[hb7];decide),if_neg (by rw[hb8];decide),if_neg (by rw[show ZuP f=_ from hb9];decide),if_neg (by rw[hb10];decide)]
         refine Zc (nx (Zj (Zj (YQ tb hJ [0,1,1005,1006,1007] [_,_,_,_,.rd (Ztp ([f.hyps,f.dummies]:List (List Hy))),.rd (YW (([f.hyps,f.dummies]:List (List Hy)).flatten)),.int ((([f.hyps,f.dummies]:List (List Hy)).flatten).length:Nat),_] [4,5,6] [_,_,_,_,_] rfl ⟨fun a _ hk hx hl _=>Qt (k:=2) (us:=[a.eval (Go.Operand.tmp 157),a.eval (Go.Operand.tmp 159)]) Qu ZeD rfl (by simp) (Zz (hl.D 1 157 rfl rfl) (Zz (hl.D 3 159 rfl rfl) Yb)) rfl (by decide) (by decide) (Zr hS _ hk hx _ (Nat.le_refl _)) (jo hJ hx),iFo hS hJ (Zgy hJ (ls:=([f.hyps,f.dummies]:List (List Hy))) (by refine ZhF ?_;simp;omega)) Zn4,YG ZN,trivial⟩ ?_))))
         refine kw (sa 2 rfl (congrArg (fun z'=>AV.rd (YW z')) (show(([f.hyps,f.dummies]:List (List Hy)).flatten)=(alH f)from by simp))) ?_
         refine kw (sa 3 rfl (congrArg AV.int (show(((([f.hyps,f.dummies]:List (List Hy)).flatten).length:Nat):Int)=(((alH f).length:Nat):Int)from by simp))) ?_
         refine nx (Zf (lpo (ι:=Nat×(List (ByteArray×Hy))) (fun(k,hn)=>(k≤(alH f).length)∧(hn=hmK hm ((alH f).take k))) (fun(_,hn)=>(OB.mT m3 ts::OB.set keyS m2 ls::OB.set keyS M3 (XT fs f.label)::OB.set keyS M1 cs::OB.set keyS M2 vs::OB.mH M4 hn::OB.mT M5 tm::R)) (fun(k,_)=>[(163,.int (k:Nat))]) (fun(k,_)=>(alH f).length-k) [0,1,2,3,4] [_,_,_,_] (0,hm) ⟨Nat.zero_le _,rfl⟩ ?_))
         rintro⟨k,hn⟩ ⟨f2_1,f2_2⟩
         refine qso tb hJ [0,1,2,3,4,1000] [_] [_,_,_,_,_,_] ?_
         refine cjS 5 (fun hb11=>?_) fun hb11=>?_
         ·
          have hk4:k< (alH f).length:=Int.ofNat_lt.1 (of_decide_eq_true hb11)
          refine Zc (nx (Zj (Zf (tsq ?_))))
          refine sq (.ptr (hyC (ge (alH f) k))) rfl rfl (lb rfl) (fun _ _ h=>Yg (i:=(k:Int)) ZR rfl (h.get 2 rfl) (h.get 4 rfl) (Int.natCast_nonneg _) (Yy (xs:=alH f) (k:=k) sfz) rfl h.x) ?_
          refine snK 1 tb rfl ?_
          refine Qi (cs:=hyC (ge (alH f) k)) Za9 rfl rfl rfl (lb rfl) rfl rfl rfl (by decide) (m:=0) rfl rfl (fun a w h=>Zr hS _ h.keep h.x _ (Nat.le_refl _)) (fun a w h w' hk'=>Yw hJ _ _ hk' h.x) ?_
          refine seK [0,3,4,5,6,7] [_,_,_,_,_,_] rfl ?_
          refine nx (tw pm5 ?_)
          refine fun a w h=>YO (γ:=Unit) (fun ix'=>([.ptr (mpC [M1,M2,M3,M4,M5]),.ptr (mpC [M1,M2,M3,M4,M5]),.ptr (mpC [M4,M5]),.lit (.map (some M4)),.ptr (hyC (ge (alH f) k)),.str ((ge (alH f) k).label),.agg (hyC (ge (alH f) k)),.agg (hyC (ge (alH f) k)),.any]:List AV).getD ix' .any) (fun _=>true) [(9,fun(g:Unit)=>.ptr (mpC [m2,m3])),(3,fun(g:Unit)=>.ptr [.ptr (mpC [M1,M2,M3,M4,M5])]),(161,fun(g:Unit)=>.rd (YW (alH f))),(162,fun(g:Unit)=>.int ((alH f).length:Nat)),(163,fun(g:Unit)=>.int (k:Nat))] (fun(j':Nat) (g:Unit)=>match j' with | 0=>(OB.mH M4 hn::OB.mT m3 ts::OB.set keyS m2 ls::OB.set keyS M3 (XT fs f.label)::OB.set keyS M1 cs::OB.set keyS M2 vs::OB.mT M5 tm::R) | _=>(OB.mH M4 (QT hn ((ge (alH f) k).label) (ge (alH f) k))::OB.mT m3 ts::OB.set keyS m2 ls::OB.set keyS M3 (XT fs f.label)::OB.set keyS M1 cs::OB.set keyS M2 vs::OB.mT M5 tm::R)) (fun(k':Nat) (g:Unit)=>match k' with | 0=>undef | _=>undef) [8] 0 () (fun _=>rfl) h hJ Yh rfl rfl rfl rfl rfl rfl (fun j' g hj p hp=>by rcases j' with _ | _ | _ | j'<;>first | exact hp | exact List.mem_cons_of_mem _ hp | exact List.mem_cons_of_mem _ (List.mem_cons_of_mem _ hp) | (exfalso;omega)) ⟨?_,⟨?_,⟨?_,⟨?_,⟨?_,⟨?_,⟨?_,⟨?_,⟨?_,trivial⟩⟩⟩⟩⟩⟩⟩⟩⟩ ⟨?e35_4_0,trivial⟩ ⟨.old 1 9 _ rfl rfl,⟨.old 2 3 _ rfl rfl,⟨.old 3 161 _ rfl rfl,⟨.old 4 162 _ rfl rfl,⟨.old 5 163 _ rfl rfl,trivial⟩⟩⟩⟩⟩ ?n35_4
          exact oX rfl fun hx hl=>Zb5 ZgB rfl (hl.env 2 3 _ rfl rfl) hx
          exact oX rfl fun hx hl=>YL rfl (hl.D 0 167 rfl rfl) hx
          exact oX rfl fun hx hl=>ZT Zad rfl (hl.D 1 168 rfl rfl) hx
          exact oX rfl fun hx hl=>ZA ZgA rfl (hl.D 2 169 rfl rfl) hx
          exact oX rfl fun hx hl=>ZT Zbj rfl (hl.env 0 18 _ rfl rfl) hx
          exact oX rfl fun hx hl=>ZA Q1 rfl (hl.D 4 171 rfl rfl) hx
          exact oX rfl fun hx hl=>ZbH Zbq rfl (hl.env 0 18 _ rfl rfl) (Nat.le_refl _) hx
          exact oY rfl fun hk hx hl=>ZeS (Zja hJ (y:=(ge (alH f) k)) (by refine Zst ?_;obtain⟨dm,hd⟩:=hfm _ (ZF (by omega:k< (alH f).length));have:=Znr hd;omega)) Zn1 rfl (Zr hS _ hk hx) (hx.1) (Za (hl.D 6 173 rfl rfl) Ze) (jo hJ hx)
          exact Zi rfl
          case e35_4_0=>exact⟨_,rfl,rfl,rfl,rfl,fun g _ w hk hx hl _=>Zp (ZnF (f:=(fun z':Hy=>AV.agg (hyC z'))) Ql hJ hJ0 ((ge (alH f) k).label) (ge (alH f) k) (.inl rfl) hk hx (hl.D 3 170 rfl rfl) (hl.D 5 172 rfl rfl) (hl.D 7 174 rfl rfl)) fun v w' ⟨_,hp⟩=>⟨g,rfl,fun _ _=>rfl,fun e=>(by cases e),hp⟩⟩
          clear a w h
          intro _
          dsimp only[List.map]
          refine nx (YQ tb hJ [0,1,2,3,1001] [.int (k+1:Nat),_] [0] [_,_,_,_,_] rfl ⟨Yv,trivial⟩ ?_)
          refine kw pm6 ?_
          refine kw pm1 ?_
          refine kw pm6 ?_
          refine kw pm6 ?_
          refine kw pm6 ?_
          refine kw pm6 ?_
          refine kw pm6 ?_
          exact Xi (k+1,QT hn ((ge (alH f) k).label) (ge (alH f) k)) [0,1,2,3,4] ⟨by omega,by rw[ZO (by omega),Zp7,←f2_2]⟩
         ·
          have hk4:(alH f).length≤k:=by have:=of_decide_eq_false hb11;omega
          refine Zx (nx (tw pm6 ?_))
          refine Zj (fun a w h=>YO (γ:= { q':List (ByteArray×ByteArray) // ∀ k',ZB q' k'=if(ZB ts k').isSome then ZB ts k' else ZB tm k' }) (fun ix'=>([.ptr (mpC [M1,M2,M3,M4,M5]),.ptr (mpC [M1,M2,M3,M4,M5]),.ptr [.lit (.map (some M5))],.lit (.map (some M5)),.ptr [.lit (.map (some m3))],.lit (.map (some m3)),.any]:List AV).getD ix' .any) (fun ix'=>([true,true,true,true,true,true,true]:List Bool).getD ix' true) [] (fun(j':Nat) (g: { q':List (ByteArray×ByteArray) // ∀ k',ZB q' k'=if(ZB ts k').isSome then ZB ts k' else ZB tm k' })=>match j' with | 0=>(OB.mT M5 tm::OB.mT m3 ts::OB.set keyS m2 ls::OB.set keyS M3 (XT fs f.label)::OB.set keyS M1 cs::OB.set keyS M2 vs::OB.mH M4 hn::R) | _=>(OB.mT M5 g.1::OB.mT m3 ts::OB.set keyS m2 ls::OB.set keyS M3 (XT fs f.label)::OB.set keyS M1 cs::OB.set keyS M2 vs::OB.mH M4 hn::R)) (fun(k':Nat) (g: { q':List (ByteArray×ByteArray) // ∀ k',ZB q' k'=if(ZB ts k').isSome then ZB ts k' else ZB tm k' })=>match k' with | 0=>(.tuple #[]) | _=>undef) [6] 0 ⟨Zqi tm ts,Zg8 tm ts⟩ (fun _=>rfl) h hJ Yh rfl rfl rfl rfl rfl rfl (fun j' g hj p hp=>by rcases j' with _ | _ | _ | j'<;>first | exact hp | exact List.mem_cons_of_mem _ hp | exact List.mem_cons_of_mem _ (List.mem_cons_of_mem _ hp) | (exfalso;omega)) ⟨?o37_5_0,⟨?o37_5_1,⟨?o37_5_2,⟨?o37_5_3,⟨?o37_5_4,⟨?o37_5_5,⟨?o37_5_6,trivial⟩⟩⟩⟩⟩⟩⟩ ⟨?e37_5_0,trivial⟩ trivial ?n37_5)
          exact oX rfl fun hx hl=>Zb5 ZgB rfl (hl.env 1 3 _ rfl rfl) hx
          exact oX rfl fun hx hl=>YL rfl (hl.D 0 176 rfl rfl) hx
          exact oX rfl fun hx hl=>ZT ZkR rfl (hl.D 1 177 rfl rfl) hx
          exact oX rfl fun hx hl=>ZA ZmQ rfl (hl.D 2 178 rfl rfl) hx
          exact oX rfl fun hx hl=>ZT Ze4 rfl (hl.env 0 9 _ rfl rfl) hx
          exact oX rfl fun hx hl=>ZA ZmQ rfl (hl.D 4 180 rfl rfl) hx
          exact Zi rfl
          case e37_5_0=>exact⟨_,rfl,rfl,rfl,rfl,fun _ _ w hk hx hl _=>Zp (ZuR (O:=[OB.mT M5 tm,OB.mT m3 ts]) (R:=(OB.set keyS m2 ls::OB.set keyS M3 (XT fs f.label)::OB.set keyS M1 cs::OB.set keyS M2 vs::OB.mH M4 hn::R)) (ZpC hJ (M5:=M5) (T1:=m3) (tm:=tm) (ts:=ts) (by rw[e3];exact ZoJ _ h2t hsm)) Zuk rfl hS hJ0 Zq hk hx (Za (hl.D 3 179 rfl rfl) (Za (hl.D 5 181 rfl rfl) Ze))) fun v w' ⟨i,hp,hv⟩=>⟨i,rfl,fun k' hk'=>absurd hk' (Nat.not_lt_zero _),fun _=>Zfj hv,hp⟩⟩
          clear a w h
          intro z6
          dsimp only[List.map]
          refine nx (qso tb hJ [1000] [_] [_] ?_)
          refine tw pm1 ?_
          refine tw Zy ?_
          refine tw pm1 ?_
          refine tw Zy ?_
          refine tw pm4 ?_
          refine tw pm2 ?_
          refine tw pm4 ?_
          refine tw pm4 ?_
          exact Zg (fun a w h=>ZQ  (m:=0) ⟨((XT fs f.label),hn,z6.1),by first | (intro h9;rw[e9]at h9;exact absurd h9 (by first | decide | exact nz)) | (intro _;exact⟨rfl,by rw[f2_2,ZC (by omega)],fun k'=>by rw[z6.2 k',e3]⟩)⟩ rfl h rfl (eI (e9.symm)))
end Go.Proofs.YtapelgeodldlcaaGreatDoor
namespace Go.Proofs.YtapelgeodldlcaaGreatDoor

theorem Zcm:∀ x:List UInt8,Op.bytesLess x x=false
 | []=>rfl
 | a::x=>by simp[Op.bytesLess,Zcm x]
theorem ZfS:∀ x y z:List UInt8,Op.bytesLess x y=true→Op.bytesLess y z=true→Op.bytesLess x z=true
 | _,_,[],_,h=>by cases ‹List UInt8› <;>simp[Op.bytesLess]at h
 | x,[],_::_,h,_=>by cases x<;>simp[Op.bytesLess]at h
 | [],_::_,_::_,_,_=>rfl
 | a::x,b::y,c::z,h1,h2=>by
  simp only[Op.bytesLess,Bool.or_eq_true,Bool.and_eq_true,decide_eq_true_eq,beq_iff_eq]at h1 h2 ⊢
  rcases h1 with h1 | ⟨rfl,h1⟩
  · rcases h2 with h2 | ⟨rfl,h2⟩
    · exact Or.inl (UInt8.lt_trans h1 h2)
    · exact Or.inl h1
  · rcases h2 with h2 | ⟨rfl,h2⟩
    · exact Or.inl h2
    · exact Or.inr ⟨rfl,ZfS x y z h1 h2⟩
theorem ZfT:∀ x y:List UInt8,Op.bytesLess x y=false→Op.bytesLess y x=false→x=y
 | [],[],_,_=>rfl
 | [],_::_,h,_=>by simp[Op.bytesLess]at h
 | _::_,[],_,h=>by simp[Op.bytesLess]at h
 | a::x,b::y,h1,h2=>by
  simp only[Op.bytesLess,Bool.or_eq_false_iff,Bool.and_eq_false_iff,decide_eq_false_iff_not]at h1 h2
  have hab:a=b:=by
   have h3:=h1.1
   have h4:=h2.1
   rw[UInt8.lt_iff_toNat_lt]at h3 h4
   exact UInt8.toNat_inj.1 (by omega)
  subst hab
  have h3:=h1.2
  have h4:=h2.2
  simp at h3 h4
  rw[ZfT x y h3 h4]
theorem toList_inj {a b:ByteArray} (h:a.toList=b.toList):a=b:=by
 rw[ByteArray.toList_eq,ByteArray.toList_eq]at h
 exact ByteArray.ext (Array.toList_inj.1 h)
theorem Q9 {x y z:Pr} (h1:ltP x y=true) (h2:ltP y z=true):ltP x z=true:=by
 simp only[ltP,Bool.or_eq_true,Bool.and_eq_true,decide_eq_true_eq]at h1 h2 ⊢
 rcases h1 with h1 | ⟨e1,h1⟩
 · rcases h2 with h2 | ⟨e2,h2⟩
   · exact .inl (ZfS _ _ _ h1 h2)
   · exact .inl (e2▸h1)
 · rcases h2 with h2 | ⟨e2,h2⟩
   · exact .inl (e1▸h2)
   · exact .inr ⟨e1.trans e2,ZfS _ _ _ h1 h2⟩
theorem ZgL {x y:Pr} (h1:ltP x y=false) (h2:Zor x y=false):ltP y x=true:=by
 simp only[ltP,Bool.or_eq_false_iff,Bool.and_eq_false_iff,decide_eq_false_iff_not]at h1
 simp only[ltP,Bool.or_eq_true,Bool.and_eq_true,decide_eq_true_eq]
 by_cases ha:x.a=y.a
 · right
   refine⟨ha.symm,?_⟩
   have h3:=h1.2.resolve_left (fun h=>h ha)
   cases hb:Op.bytesLess y.b.toList x.b.toList with
   | true=>rfl
   | false=>simp[Zor,ha,toList_inj (ZfT _ _ h3 hb)]at h2
 · left
   cases hb:Op.bytesLess y.a.toList x.a.toList with
   | true=>rfl
   | false=>exact absurd (toList_inj (ZfT _ _ h1.1 hb)) ha
def SrtP (l:List Pr):Prop:=l.Pairwise fun x y=>ltP x y=true
theorem Zi7:∀ {l:List Pr} {p x:Pr},x∈Zkz l p→x∈l∨x=p
 | [],p,x,h=>by simpa [Zkz]using h
 | y::l,p,x,h=>by
  simp only[Zkz]at h
  split at h
  · rcases List.mem_cons.1 h with rfl | h
    · exact .inl (by simp)
    · rcases Zi7 h with h | h
      · exact .inl (by simp[h])
      · exact .inr h
  · split at h
    · exact .inl h
    · rcases List.mem_cons.1 h with rfl | h
      · exact .inr rfl
      · exact .inl h
theorem Zi6:∀ {l:List Pr} {p:Pr},SrtP l→SrtP (Zkz l p)
 | [],_,_=>by simp[Zkz,SrtP]
 | y::l,p,h=>by
  have h':=List.pairwise_cons.1 h
  simp only[Zkz]
  by_cases h1:ltP y p=true
  · rw[if_pos h1]
    refine List.pairwise_cons.2 ⟨fun x hx=>?_,Zi6 h'.2⟩
    rcases Zi7 hx with hx | rfl
    · exact h'.1 x hx
    · exact h1
  · rw[if_neg h1]
    by_cases h2:Zor y p=true
    · rw[if_pos h2];exact h
    · rw[if_neg h2]
      have h3:=ZgL (by simpa using h1) (by simpa using h2)
      refine List.pairwise_cons.2 ⟨fun x hx=>?_,h⟩
      rcases List.mem_cons.1 hx with rfl | hx
      · exact h3
      · exact Q9 h3 (h'.1 x hx)
theorem Zce:∀(w:List Pr) {a:List Pr},SrtP a→SrtP (w.foldl Zkz a)
 | [],_,h=>h
 | _::w,_,h=>Zce w (Zi6 h)
theorem Zi8:∀ {l:List Pr} {p:Pr},(∀ x∈l,ltP x p=true)→Zkz l p=l++[p]
 | [],_,_=>rfl
 | y::l,p,h=>by
  have ih:Zkz l p=l++[p]:=Zi8 fun x hx=>h x (List.mem_cons_of_mem _ hx)
  simp only[Zkz,h y (by simp),if_true,ih,List.cons_append]
theorem ZcQ:∀(w a:List Pr),SrtP (a++w)→w.foldl Zkz a=a++w
 | [],a,_=>by simp
 | p::w,a,h=>by
  have h1:∀ x∈a,ltP x p=true:=fun x hx=>(List.pairwise_append.1 h).2.2 x hx p (by simp)
  rw[List.foldl_cons,Zi8 h1,ZcQ w (a++[p]) (by simpa using h)]
  simp
theorem Znh (w:List Pr):w=Zp3 w []↔SrtP w:=by
 unfold Zp3
 rw[List.append_nil]
 constructor
 · intro h
   rw[h]
   exact Zce w .nil
 · intro h
   rw[ZcQ w [] (by simpa using h)]
   simp
theorem ZlN {w:List Pr} (h:∀ i,0<i→i<w.length→ltP (ge w (i-1)) (ge w i)=true):SrtP w:=by
 have key:∀ d i,i+1+d<w.length→ltP (ge w i) (ge w (i+1+d))=true:=by
  intro d
  induction d with
  | zero=>intro i hi;simpa using h (i+1) (by omega) (by omega)
  | succ d ih=>
   intro i hi
   refine Q9 (ih i (by omega)) ?_
   have:=h (i+1+d+1) (by omega) (by omega)
   rw[show i+1+d+1-1=i+1+d by omega]at this
   exact this
 rw[SrtP,List.pairwise_iff_getElem]
 intro i j hi hj hij
 have:=key (j-i-1) i (by omega)
 rw[show i+1+(j-i-1)=j by omega]at this
 rwa [Xc hi,Xc hj]at this
theorem Zoe {vs:List ByteArray} {d:Db} (hv:vs=d.vars) (w:List Pr):((List.range w.length).all fun i=>!Zov vs w i)=(!w.any (badW d)&&decide (w=Zp3 w [])):=by
 subst hv
 have hk:∀ i,0<i→(0≤Zg9 (ge w (((i:Nat):Int)-1).toNat) (ge w i)↔ltP (ge w (i-1)) (ge w i)=false):=fun i h=>by
  rw[show(((i:Nat):Int)-1).toNat=i-1 by omega,←Zqm,decide_eq_false_iff_not];omega
 rw[Bool.eq_iff_iff]
 simp only[List.all_eq_true,List.mem_range,Bool.not_eq_true',Bool.and_eq_true,List.any_eq_false,decide_eq_true_eq,Znh]
 constructor
 · intro h
   refine⟨fun p hp=>?_,ZlN fun i h1 h2=>?_⟩
   · obtain⟨i,hi,rfl⟩:=XQ hp
     have:=h i hi
     simp only[Zov,Bool.or_eq_false_iff]at this
     simp only[badW,Bool.or_eq_true,not_or,Bool.not_eq_true]
     exact this.1
   · have:=h i h2
     simp only[Zov,Bool.or_eq_false_iff,Bool.and_eq_false_iff,decide_eq_false_iff_not]at this
     have h3:=this.2.resolve_left (by omega)
     rw[hk i h1]at h3
     simpa using h3
 · rintro⟨h1,h2⟩ i hi
   have h3:=h1 _ (ZF hi)
   simp only[badW,Bool.or_eq_true,not_or,Bool.not_eq_true]at h3
   simp only[Zov,Bool.or_eq_false_iff,Bool.and_eq_false_iff,decide_eq_false_iff_not]
   refine⟨h3,?_⟩
   by_cases h0:0<i
   · right
     rw[hk i h0]
     have:=List.pairwise_iff_getElem.1 h2 (i-1) i (by omega) hi (by omega)
     rw[Xc hi,Xc (by omega),this];decide
   · left;omega

structure TyI (l:List Hy) (tm:List (ByteArray×ByteArray)):Prop where
 hit:∀ x∈l,∀ v,ofB x [v]=true→ZB tm v=some (ge x.text 0)
 got:∀ v t,ZB tm v=some t→∃ x∈l,ofB x [v]=true∧ge x.text 0=t
structure HyI (l:List Hy) (hm:List (ByteArray×Hy)):Prop where
 hit:∀ x∈l,ZB hm x.label=some x
 got:∀ s x,ZB hm s=some x→x∈l∧x.label=s
structure KInv (d:Db) (k:Nat) (fs:List ByteArray) (hm:List (ByteArray×Hy)) (tm:List (ByteArray×ByteArray)) (bf:List Hy):Prop where
 fr:∀ s,s∈fs↔frL d k s=true
 hy:HyI (oth d k) hm
 ty:TyI (oth d k) tm
 bf:bf.map Hy.label=befL d k
theorem Znd (d:Db):KInv d 0 [] [] [] []:=⟨fun s=>by simp[frL],⟨fun x hx=>by simp[Zje]at hx,fun s x h=>by simp[X0]at h⟩,⟨fun x hx=>by simp[Zje]at hx,fun s x h=>by simp[X0]at h⟩,by simp[befL]⟩
theorem ofB_one {x:Hy} {v:ByteArray}:ofB x [v]=true↔x.floating=true∧x.text.length=2∧ge x.text 1=v:=by
 simp only[ofB,Bool.and_eq_true,decide_eq_true_eq,List.mem_singleton]
 constructor
 · rintro⟨⟨h1,h2⟩,h3⟩;exact⟨h1,by omega,h3⟩
 · rintro⟨h1,h2,h3⟩;exact⟨⟨h1,by omega⟩,h3⟩
theorem Za5 {l:List ByteArray} (h:l.length=2):l.drop 1=[ge l 1]:=by
 match l,h with
 | [a,b],_=>rfl
theorem Zno {d:Db} {k:Nat} {s:ByteArray}:hyL d k s=(oth d k).any fun x=>decide (x.label=s):=by
 simp only[hyL,oth,hysF]
 induction d.frames.take k with
 | nil=>rfl
 | cons f l ih=>rw[List.any_cons,ih,List.flatMap_cons,List.any_append (xs:=f.hyps++f.dummies)]
section
variable {d:Db} {k:Nat} {fs:List ByteArray} {hm:List (ByteArray×Hy)} {tm:List (ByteArray×ByteArray)} {bf:List Hy}
theorem HyI.some {l:List Hy} (h:HyI l hm) (s:ByteArray):(ZB hm s).isSome=l.any fun x=>decide (x.label=s):=by
 rw[Bool.eq_iff_iff,List.any_eq_true]
 constructor
 · intro e
   obtain⟨x,hx⟩:=Option.isSome_iff_exists.1 e
   have:=h.got s x hx
   exact⟨x,this.1,by simpa using this.2⟩
 · rintro⟨x,hx,e⟩
   simp only[decide_eq_true_eq]at e
   rw[←e,h.hit x hx];rfl
theorem TyI.bad {l:List Hy} (h:TyI l tm) (y:Hy) (h2:y.text.length=2):((ZB tm (ge y.text 1)).isSome&& !decide ((ZB tm (ge y.text 1)).getD default=ge y.text 0))=l.any (Ztr y):=by
 rw[Bool.eq_iff_iff,List.any_eq_true]
 unfold Ztr
 rw[Za5 h2]
 constructor
 · intro e
   simp only[Bool.and_eq_true,Bool.not_eq_true',decide_eq_false_iff_not]at e
   obtain⟨t,ht⟩:=Option.isSome_iff_exists.1 e.1
   obtain⟨x,hx,h3,h4⟩:=h.got _ _ ht
   refine⟨x,hx,?_⟩
   rw[ht]at e
   simp only[Option.getD_some]at e
   simp[h3,h4,e.2]
 · rintro⟨x,hx,e⟩
   simp only[Bool.and_eq_true,Bool.not_eq_true',decide_eq_false_iff_not]at e
   rw[h.hit x hx _ e.1]
   simp[e.2]
theorem TyI.have {l:List Hy} (h:TyI l tm) (y:Hy) (h2:y.text.length=2):(ZB tm (ge y.text 1)).isSome=l.any (hOf y):=by
 rw[Bool.eq_iff_iff,List.any_eq_true]
 unfold hOf
 rw[Za5 h2]
 constructor
 · intro e
   obtain⟨t,ht⟩:=Option.isSome_iff_exists.1 e
   obtain⟨x,hx,h3,_⟩:=h.got _ _ ht
   exact⟨x,hx,h3⟩
 · rintro⟨x,hx,e⟩
   rw[h.hit x hx _ e];rfl
theorem HyI.bad {l:List Hy} (h:HyI l hm) (y:Hy):((ZB hm y.label).isSome&& !ZrH ((ZB hm y.label).getD default) y)=l.any (Zts y):=by
 rw[Bool.eq_iff_iff,List.any_eq_true]
 unfold Zts
 constructor
 · intro e
   simp only[Bool.and_eq_true,Bool.not_eq_true']at e
   obtain⟨x,hx⟩:=Option.isSome_iff_exists.1 e.1
   have:=h.got _ _ hx
   rw[hx]at e
   exact⟨x,this.1,by simpa [this.2]using e.2⟩
 · rintro⟨x,hx,e⟩
   simp only[Bool.and_eq_true,Bool.not_eq_true',decide_eq_true_eq]at e
   rw[←e.1,h.hit x hx]
   simpa using e.2
theorem Ztf (l:List Hy) (s:ByteArray):s∈lsK l↔ ∃ x∈l,x.label=s:=by
 rw[←List.reverse_reverse l]
 induction l.reverse with
 | nil=>simp[lsK]
 | cons y m ih=>
  rw[List.reverse_cons,Zfu,mem_addS,ih]
  simp only[List.mem_append,List.mem_singleton]
  constructor
  · rintro(⟨x,h,e⟩ | rfl)
    · exact⟨x,.inl h,e⟩
    · exact⟨y,.inr rfl,rfl⟩
  · rintro⟨x,h | rfl,e⟩
    · exact .inl ⟨x,h,e⟩
    · exact .inr e.symm
theorem ZiG {l:List Hy} {ts:List (ByteArray×ByteArray)} {y:Hy} (h:TyI l ts) (h2:y.floating=true→y.text.length=2) (h3:y.floating=true→l.any (hOf y)=false):TyI (l++[y]) (if y.floating then QT ts (ge y.text 1) (ge y.text 0)else ts):=by
 by_cases hf:y.floating=true
 · rw[if_pos hf]
   have h2':=h2 hf
   have h3':=h3 hf
   rw[List.any_eq_false]at h3'
   refine⟨fun x hx v hv=>?_,fun v t hv=>?_⟩
   · rw[Zat]
     rcases List.mem_append.1 hx with hx | hx
     · have:¬ v=ge y.text 1:=fun e=>h3' x hx (by rw[hOf,Za5 h2',←e];exact hv)
       rw[if_neg this]
       exact h.hit x hx v hv
     · rw[List.mem_singleton.1 hx]at hv ⊢
       rw[if_pos (ofB_one.1 hv).2.2.symm]
   · rw[Zat]at hv
     split at hv
     · rename_i e
       refine⟨y,by simp,ofB_one.2 ⟨hf,h2',e.symm⟩,by simpa using hv⟩
     · obtain⟨x,hx,h4⟩:=h.got v t hv
       exact⟨x,by simp[hx],h4⟩
 · rw[if_neg hf]
   refine⟨fun x hx v hv=>?_,fun v t hv=>?_⟩
   · rcases List.mem_append.1 hx with hx | hx
     · exact h.hit x hx v hv
     · rw[List.mem_singleton.1 hx]at hv
       exact absurd (ofB_one.1 hv).1 hf
   · obtain⟨x,hx,h4⟩:=h.got v t hv
     exact⟨x,by simp[hx],h4⟩
theorem Zh7:∀(l:List Hy) (hm:List (ByteArray×Hy)) (x:Hy),(∀ y∈l,y.label=x.label→y=x)→(x∈l∨ZB hm x.label=some x)→ZB (hmK hm l) x.label=some x
 | [],_,_,_,h=>by simpa [hmK]using h
 | y::l,hm,x,h,h1=>by
  show ZB (hmK (QT hm y.label y) l) x.label=_
  refine Zh7 l _ x (fun z hz=>h z (by simp[hz])) ?_
  by_cases hx:x∈l
  · exact .inl hx
  · right
    rw[Zat]
    by_cases e:x.label=y.label
    · rw[if_pos e,h y (by simp) e.symm]
    · rw[if_neg e]
      refine h1.resolve_left fun hm'=>?_
      rcases List.mem_cons.1 hm' with rfl | h'
      · exact e rfl
      · exact hx h'
theorem Znp:∀(l:List Hy) (hm:List (ByteArray×Hy)) (s:ByteArray) (x:Hy),ZB (hmK hm l) s=some x→(x∈l∧x.label=s)∨ZB hm s=some x
 | [],_,_,_,h=>.inr h
 | y::l,hm,s,x,h=>by
  rcases Znp l (QT hm y.label y) s x h with⟨h1,h2⟩ | h1
  · exact .inl ⟨by simp[h1],h2⟩
  · rw[Zat]at h1
    split at h1
    · rename_i e
      have:y=x:=by simpa using h1
      subst this
      exact .inl ⟨by simp,e.symm⟩
    · exact .inr h1
theorem Zrz (g:Nat→Int):∀ n,(∀ j,j<n→g j=0)∨ ∃ i,(i<n∧g i≠0)∧∀ j,j<i→g j=0
 | 0=>.inl fun _ h=>absurd h (Nat.not_lt_zero _)
 | n+1=>by
  rcases Zrz g n with h | ⟨i,⟨h1,h2⟩,h3⟩
  · by_cases e:g n=0
    · exact .inl (ZZ h e)
    · exact .inr ⟨n,⟨by omega,e⟩,h⟩
  · exact .inr ⟨i,⟨by omega,h2⟩,h3⟩
theorem Zg2 {n:Nat} {g h:Nat→Int} (hh:∀ i,i<n→(∀ j,j<i→g j=0)→g i=h i):XC n g=XC n h:=by
 by_cases e:∃ i,i<n∧g i≠0
 · obtain⟨i,hi,hmin⟩:∃ i,(i<n∧g i≠0)∧∀ j,j<i→g j=0:=by
    rcases Zrz g n with h0 | h0
    · obtain⟨i,hi,hn⟩:=e
      exact absurd (h0 i hi) hn
    · exact h0
   have h0:∀ j,j<i→h j=0:=fun j hj=>by rw[←hh j (by omega) fun q hq=>hmin q (by omega)];exact hmin j hj
   have h1:=hh i hi.1 hmin
   rw[QA hi.1 hmin hi.2,QA hi.1 h0 (by rw[←h1];exact hi.2),h1]
 · have h0:∀ j,j<n→g j=0:=fun j hj=>Classical.byContradiction fun h=>e ⟨j,hj,h⟩
   rw[Zae h0,Zae fun j hj=>by rw[←hh j hj fun q hq=>h0 q (by omega)];exact h0 j hj]
end
section
variable {d:Db} {k:Nat} {fs:List ByteArray} {hm:List (ByteArray×Hy)} {tm:List (ByteArray×ByteArray)} {bf:List Hy}
theorem KInv.fr' (h:KInv d k fs hm tm bf) (hk:k<d.frames.length) (s:ByteArray):s∈XT fs (ge d.frames k).label↔frL d (k+1) s=true:=by
 rw[mem_addS,frL,Zcn hk,Bool.or_eq_true,h.fr s,frL,decide_eq_true_eq]
 exact or_congr Iff.rfl eq_comm
theorem Zjv (h:KInv d k fs hm tm bf) (hk:k<d.frames.length) {y:Hy} {bs:List Hy} {ts:List (ByteArray×ByteArray)} {dm:Bool} (ht:TyI bs ts):
 Zfy d.consts d.vars (XT fs (ge d.frames k).label) hm tm (lsK bs) ts y dm=Zp6 d k y bs dm:=by
 unfold Zfy Zp6
 by_cases h1:Zab y dm=true
 · rw[if_pos h1,if_pos h1]
 rw[if_neg h1,if_neg h1]
 have h1':Zab y dm=false:=by simpa using h1
 have q1:(((decide (y.label∈d.consts)||decide (y.label∈d.vars))||decide (y.label∈XT fs (ge d.frames k).label))||decide (y.label∈lsK bs))=((frL d (k+1) y.label||Zer d y.label)||bs.any (ZrJ y)):=by
  rw[show decide (y.label∈XT fs (ge d.frames k).label)=frL d (k+1) y.label by rw[Bool.eq_iff_iff,decide_eq_true_eq];exact h.fr' hk _,
   show decide (y.label∈lsK bs)=bs.any (ZrJ y) by rw[Bool.eq_iff_iff,decide_eq_true_eq,Ztf,List.any_eq_true];simp[ZrJ],←Zer,Bool.or_comm (Zer d y.label)]
 rw[q1]
 by_cases h2:(frL d (k+1) y.label||Zer d y.label)=true
 · rw[if_pos (by rw[h2];rfl),if_pos h2]
 rw[if_neg h2,show(frL d (k+1) y.label||Zer d y.label)=false by simpa using h2,Bool.false_or]
 by_cases h3:bs.any (ZrJ y)=true
 · rw[if_pos h3,if_pos h3]
 rw[if_neg h3,if_neg h3]
 change (if ZgX d y then 12 else _)=_
 by_cases h4:ZgX d y=true
 · rw[if_pos h4,if_pos h4]
 rw[if_neg h4,if_neg h4,h.hy.bad]
 cases hf:y.floating with
 | true=>
  have hl:=YC h1' hf
  simp only[Bool.not_true,Bool.false_and,Bool.false_eq_true,if_false,Bool.true_and]
  rw[h.ty.bad y hl,ht.bad y hl,ht.have y hl,List.any_append]
 | false=>
  simp only[Bool.not_false,Bool.false_and,Bool.false_eq_true,if_false,Bool.true_and]
  have hl:(decide (((y.text.length:Nat):Int)=0)||decide (200< ((y.text.length:Nat):Int)))=false:=by
   have:=h1'
   simp only[Zab,hf,Bool.not_false,Bool.true_and,Bool.or_eq_false_iff]at this
   simpa using this.2
  rw[Zf3,hl]
  simp
theorem Zd0 {d:Db} {k:Nat} {y:Hy} {bs:List Hy} {dm:Bool} (h:Zp6 d k y bs dm=0):
 bs.any (ZrJ y)=false∧(y.floating=true→(oth d k++bs).any (Ztr y)=false∧bs.any (hOf y)=false)∧(oth d k).any (Zts y)=false:=by
 unfold Zp6 at h
 by_cases h1:Zab y dm=true
 · rw[if_pos h1]at h;exact absurd h (by decide)
 rw[if_neg h1]at h
 by_cases h2:(frL d (k+1) y.label||Zer d y.label)=true
 · rw[if_pos h2]at h;exact absurd h (by decide)
 rw[if_neg h2]at h
 by_cases h3:bs.any (ZrJ y)=true
 · rw[if_pos h3]at h;exact absurd h (by decide)
 rw[if_neg h3]at h
 by_cases h4:ZgX d y=true
 · rw[if_pos h4]at h;exact absurd h (by decide)
 rw[if_neg h4]at h
 by_cases h5:(!y.floating&& !decide (Zbw d y.text=0))=true
 · rw[if_pos h5]at h;simp[h]at h5
 rw[if_neg h5]at h
 by_cases h6:(y.floating&& (oth d k++bs).any (Ztr y))=true
 · rw[if_pos h6]at h;exact absurd h (by decide)
 rw[if_neg h6]at h
 by_cases h7:(y.floating&&bs.any (hOf y))=true
 · rw[if_pos h7]at h;exact absurd h (by decide)
 rw[if_neg h7]at h
 by_cases h8:(oth d k).any (Zts y)=true
 · rw[if_pos h8]at h;exact absurd h (by decide)
 exact⟨(Bool.not_eq_true _).mp h3,fun hf=>⟨by rw[hf,Bool.true_and]at h6;exact(Bool.not_eq_true _).mp h6,by rw[hf,Bool.true_and]at h7;exact(Bool.not_eq_true _).mp h7⟩,(Bool.not_eq_true _).mp h8⟩
theorem Zm5 (h:∀ j,j< (alH (ge d.frames k)).length→ZrB d k j=0):∀ i,i≤(alH (ge d.frames k)).length→TyI ((alH (ge d.frames k)).take i) (tsK ((alH (ge d.frames k)).take i)):=by
 intro i
 induction i with
 | zero=>intro _;exact⟨fun x hx=>by simp at hx,fun v t ht=>by simp[tsK,X0]at ht⟩
 | succ i ih=>
  intro hi
  have h0:=h i (by omega)
  rw[ZO (by omega),ZbU]
  exact ZiG (ih (by omega)) (fun hf=>YC (Zcc h0) hf) fun hf=>((Zd0 h0).2.1 hf).2
theorem ZpS (h:KInv d k fs hm tm bf) (hk:k<d.frames.length):XC (alH (ge d.frames k)).length (hyK d.consts d.vars fs hm tm (ge d.frames k))=ZrC d k:=by
 have key:∀ i,i< (alH (ge d.frames k)).length→(∀ j,j<i→ZrB d k j=0)→hyK d.consts d.vars fs hm tm (ge d.frames k) i=ZrB d k i∧TyI ((alH (ge d.frames k)).take i) (tsK ((alH (ge d.frames k)).take i)):=by
  intro i
  induction i with
  | zero=>
   intro _ _
   have ht:TyI ((alH (ge d.frames k)).take 0) (tsK ((alH (ge d.frames k)).take 0)):=⟨fun x hx=>by simp at hx,fun v t ht=>by simp[tsK,X0]at ht⟩
   exact⟨Zjv h hk ht,ht⟩
  | succ i ih=>
   intro hi hj
   have h0:=hj i (by omega)
   have ht:TyI ((alH (ge d.frames k)).take (i+1)) (tsK ((alH (ge d.frames k)).take (i+1))):=by
    rw[ZO (by omega),ZbU]
    exact ZiG (ih (by omega) fun j hj'=>hj j (by omega)).2 (fun hf=>YC (Zcc h0) hf) fun hf=>((Zd0 h0).2.1 hf).2
   exact⟨Zjv h hk ht,ht⟩
 exact(Zg2 fun i hi hj=>(key i hi hj).1.symm).symm
theorem Zkd:∀ {l:List Hy},(∀ i,i<l.length→(ge l i).floating=true→(ge l i).text.length=2∧(l.take i).any (hOf (ge l i))=false)→(Zf2 l).Nodup:=by
 intro l h
 have key:∀ i,i≤l.length→(Zf2 (l.take i)).Nodup:=by
  intro i
  induction i with
  | zero=>intro _;simp[Zf2]
  | succ i ih=>
   intro hi
   rw[Zf2,Yo (by omega),List.map_append]
   by_cases hf:(ge l i).floating=true
   · simp only[hf,if_true,List.map_cons,List.map_nil]
     rw[List.nodup_append]
     refine⟨ih (by omega),by simp,fun x hx z hz e=>?_⟩
     rw[List.mem_singleton.1 hz]at e
     obtain⟨w,hw,rfl⟩:=List.mem_map.1 hx
     rw[List.mem_filter]at hw
     have h1:=h i (by omega) hf
     have h2:=List.any_eq_false.1 h1.2 w hw.1
     refine h2 ?_
     rw[hOf,Za5 h1.1]
     obtain⟨q,hq,rfl⟩:=XQ hw.1
     have hq':q<i:=by simp at hq;omega
     have e2:ge (l.take i) q=ge l q:=by simp[ge,List.getD_eq_getElem?_getD,hq']
     rw[e2]at hw e ⊢
     exact ofB_one.2 ⟨by simpa using hw.2,(h q (by omega) (by simpa using hw.2)).1,e⟩
   · simp only[hf,Bool.false_eq_true,if_false,List.map_nil,List.append_nil]
     exact ih (by omega)
 have:=key l.length (Nat.le_refl _)
 rwa [ZC (Nat.le_refl _)]at this
theorem Ztu {α:Type} [Inhabited α] {xs ys:List α} {i:Nat} (h:i<xs.length):ge (xs++ys) i=ge xs i:=by
 simp[ge,List.getD_eq_getElem?_getD,List.getElem?_append_left h]
theorem Zsv (h:∀ j,j< (alH (ge d.frames k)).length→ZrB d k j=0):Zrf d.vars (ge d.frames k)=Zso d (ge d.frames k):=by
 have hf0:∀ i,i< (ge d.frames k).hyps.length→(ge (ge d.frames k).hyps i).floating=true→(ge (ge d.frames k).hyps i).text.length=2∧((ge d.frames k).hyps.take i).any (hOf (ge (ge d.frames k).hyps i))=false:=fun i hi hf=>by
  have h0:=h i (by simp[alH];omega)
  rw[ZrB]at h0
  rw[Ztu hi]at h0
  rw[List.take_append_of_le_length (by omega)]at h0
  exact⟨YC (Zcc h0) hf,((Zd0 h0).2.1 hf).2⟩
 have hnd:=Zkd hf0
 have hm0:Zjo d.vars (ge d.frames k)=Zcz d (ge d.frames k):=rfl
 have hmn:(Zcz d (ge d.frames k)).Nodup:=(ZmS _ _).1
 unfold Zrf Zso
 rw[Zoe rfl,hm0]
 have e1:(ge d.frames k).hyps.all (ZkK (Zcz d (ge d.frames k)))=(ge d.frames k).hyps.all (hIn (Zcz d (ge d.frames k))):=by
  rw[Bool.eq_iff_iff,List.all_eq_true,List.all_eq_true]
  refine forall_congr' fun x=>⟨fun hx hm=>?_,fun hx hm=>?_⟩<;>have:=hx hm
  · obtain⟨i,hi,rfl⟩:=XQ hm
    cases hf:(ge (ge d.frames k).hyps i).floating with
    | false=>simp[hIn,hf]
    | true=>
     simp only[ZkK,hf,Bool.not_true,Bool.false_or,decide_eq_true_eq]at this
     simp[hIn,ofB,hf,(hf0 i hi hf).1,this]
  · obtain⟨i,hi,rfl⟩:=XQ hm
    cases hf:(ge (ge d.frames k).hyps i).floating with
    | false=>simp[ZkK,hf]
    | true=>
     simp only[hIn,ofB,hf,Bool.not_true,Bool.false_or,Bool.true_and,Bool.and_eq_true,decide_eq_true_eq]at this
     simp[ZkK,hf,this.2]
 rw[e1]
 by_cases ha:(ge d.frames k).hyps.all (hIn (Zcz d (ge d.frames k)))=true
 · have hsub:∀ s∈Zf2 (ge d.frames k).hyps,s∈Zcz d (ge d.frames k):=fun s hs=>by
    obtain⟨x,hx,rfl⟩:=List.mem_map.1 hs
    rw[List.mem_filter]at hx
    have:=List.all_eq_true.1 (e1.trans ha) x hx.1
    simpa [ZkK,hx.2]using this
   have e2:decide ((Zf2 (ge d.frames k).hyps).length=(Zcz d (ge d.frames k)).length)=(Zcz d (ge d.frames k)).all fun s=>decide (s∈Zf2 (ge d.frames k).hyps):=by
    rw[Bool.eq_iff_iff,decide_eq_true_eq,List.all_eq_true]
    constructor
    · intro e s hs
      rw[decide_eq_true_eq]
      refine Classical.byContradiction fun hn=>?_
      have:=Zb9 (ys:=(Zcz d (ge d.frames k)).erase s) hnd fun z hz=>(List.mem_erase_of_ne (fun e':z=s=>hn (by rw[←e'];exact hz))).2 (hsub z hz)
      rw[List.length_erase_of_mem hs]at this
      have:=List.length_pos_of_mem hs
      omega
    · intro e
      have h1:=Zb9 hnd hsub
      have h2:=Zb9 hmn fun s hs=>by simpa using e s hs
      omega
   rw[e2,ha]
   simp only[Bool.true_and,Bool.and_assoc]
 · rw[show(ge d.frames k).hyps.all (hIn (Zcz d (ge d.frames k)))=false by simpa using ha]
   rfl
theorem ZcC (h:KInv d k fs hm tm bf) (hk:k<d.frames.length):Zd1 d.consts d.vars fs hm tm (ge d.frames k) bf=frE d k:=by
 unfold Zd1 frE Ztv
 by_cases h1:(!Zc3 (ge d.frames k).label)=true
 · rw[if_pos h1,if_pos h1]
 rw[if_neg h1,if_neg h1,h.hy.some,←Zno]
 have q:((hyL d k (ge d.frames k).label|| (decide ((ge d.frames k).label∈d.consts)||decide ((ge d.frames k).label∈d.vars)))||decide ((ge d.frames k).label∈fs))=((frL d k (ge d.frames k).label||hyL d k (ge d.frames k).label)||Zer d (ge d.frames k).label):=by
  rw[show decide ((ge d.frames k).label∈fs)=frL d k (ge d.frames k).label by rw[Bool.eq_iff_iff,decide_eq_true_eq];exact h.fr _,←Zer]
  cases hyL d k (ge d.frames k).label<;>cases frL d k (ge d.frames k).label<;>cases Zer d (ge d.frames k).label<;>rfl
 rw[q]
 by_cases h2:((frL d k (ge d.frames k).label||hyL d k (ge d.frames k).label)||Zer d (ge d.frames k).label)=true
 · rw[if_pos h2,if_pos h2]
 rw[if_neg h2,if_neg h2]
 by_cases h3:(decide ((40:Int)< (((ge d.frames k).hyps.length:Nat):Int))||decide ((40:Int)< (((ge d.frames k).dummies.length:Nat):Int)))=true
 · rw[if_pos h3,if_pos h3]
 rw[if_neg h3,if_neg h3,ZpS h hk]
 by_cases h4:(!decide (ZrC d k=0))=true
 · rw[if_pos h4,if_pos h4]
 rw[if_neg h4,if_neg h4,Zf3]
 have h4':∀ j,j< (alH (ge d.frames k)).length→ZrB d k j=0:=Qz (n:=(alH (ge d.frames k)).length) (show ZrC d k=0 by simpa using h4)
 by_cases h5:(decide ((((ge d.frames k).text.length:Nat):Int)=0)||decide (200< (((ge d.frames k).text.length:Nat):Int)))=true
 · rw[if_pos h5,if_pos h5,if_pos (by decide)]
 rw[if_neg h5,if_neg h5]
 by_cases h6:(!decide (Zbw d (ge d.frames k).text=0))=true
 · rw[if_pos h6,if_pos h6]
 rw[if_neg h6,if_neg h6,Zet,Zsv h4']
 by_cases h7:Zso d (ge d.frames k)=true
 · rw[if_pos h7,if_neg (show ¬ (!decide ((0:Int)=0))=true by decide),if_neg (show ¬ (!Zso d (ge d.frames k))=true by simp[h7])]
   have e8:ZuP (ge d.frames k)=(((decide (0< (((ge d.frames k).proof.length:Nat):Int))&& !(ge d.frames k).thm)||decide (8000< (((ge d.frames k).proof.length:Nat):Int)))|| !(ge d.frames k).proof.all XY):=by
    rw[show(!(ge d.frames k).proof.all XY)=(ge d.frames k).proof.any fun s=>!XY s from List.not_all_eq_any_not ..]
    unfold ZuP
    by_cases h0:(ge d.frames k).proof=[]
    · simp[h0]
    · have:0< (ge d.frames k).proof.length:=List.length_pos_iff.2 h0
      simp[this]
   have e9:(((Qq (ge d.frames k).hyps).drop (ZfE (bf.map Hy.label) ((Qq (ge d.frames k).hyps).map Hy.label))).any fun y=>(ZB hm y.label).isSome)=ordB d k (ge d.frames k):=by
    rw[ordB,h.bf,←List.map_drop,List.any_map]
    congr 1
    funext y
    rw[h.hy.some,←Zno];rfl
   rw[e8,e9]
   by_cases h8:((decide (0< (((ge d.frames k).proof.length:Nat):Int))&& !(ge d.frames k).thm)||decide (8000< (((ge d.frames k).proof.length:Nat):Int)))=true
   · rw[if_pos (by rw[h8];rfl),if_pos h8]
   · rw[if_neg h8,show((decide (0< (((ge d.frames k).proof.length:Nat):Int))&& !(ge d.frames k).thm)||decide (8000< (((ge d.frames k).proof.length:Nat):Int)))=false by simpa using h8,Bool.false_or]
 · rw[if_neg h7,if_pos (show(!decide ((70:Int)=0))=true by decide),if_pos (show(!Zso d (ge d.frames k))=true by simpa using h7)]
theorem Zp9 (h:frE d k=0):∀ j,j< (alH (ge d.frames k)).length→ZrB d k j=0:=by
 refine Qz (n:=(alH (ge d.frames k)).length) ?_
 change ZrC d k=0
 unfold frE Ztv at h
 refine Classical.byContradiction fun hn=>?_
 by_cases h1:(!Zc3 (ge d.frames k).label)=true
 · rw[if_pos h1]at h;exact absurd h (by decide)
 rw[if_neg h1]at h
 by_cases h2:((frL d k (ge d.frames k).label||hyL d k (ge d.frames k).label)||Zer d (ge d.frames k).label)=true
 · rw[if_pos h2]at h;exact absurd h (by decide)
 rw[if_neg h2]at h
 by_cases h3:(decide ((40:Int)< (((ge d.frames k).hyps.length:Nat):Int))||decide ((40:Int)< (((ge d.frames k).dummies.length:Nat):Int)))=true
 · rw[if_pos h3]at h;exact absurd h (by decide)
 rw[if_neg h3,if_pos (by simpa using hn)]at h
 exact hn h
theorem Zne (h:KInv d k fs hm tm bf) (hk:k<d.frames.length) (h0:frE d k=0) {tn:List (ByteArray×ByteArray)}
 (ht:∀ v,ZB tn v=if(ZB (tsK (alH (ge d.frames k))) v).isSome then ZB (tsK (alH (ge d.frames k))) v else ZB tm v):
 KInv d (k+1) (XT fs (ge d.frames k).label) (hmK hm (alH (ge d.frames k))) tn (Qq (ge d.frames k).hyps):=by
 have hl:=Zp9 h0
 have hT:=Zm5 hl (alH (ge d.frames k)).length (Nat.le_refl _)
 rw[ZC (Nat.le_refl _)]at hT
 have hat:∀ y∈alH (ge d.frames k),(y.floating=true→(oth d k).any (Ztr y)=false)∧(oth d k).any (Zts y)=false:=fun y hy=>by
  obtain⟨j,hj,rfl⟩:=XQ hy
  have:=Zd0 (hl j hj)
  refine⟨fun hf=>?_,this.2.2⟩
  have:=(this.2.1 hf).1
  rw[List.any_append,Bool.or_eq_false_iff]at this
  exact this.1
 have hdist:∀ x∈alH (ge d.frames k),∀ y∈alH (ge d.frames k),y.label=x.label→y=x:=fun x hx y hy e=>by
  obtain⟨i,hi,rfl⟩:=XQ hx
  obtain⟨j,hj,rfl⟩:=XQ hy
  have key:∀ p q,p<q→q< (alH (ge d.frames k)).length→(ge (alH (ge d.frames k)) p).label≠(ge (alH (ge d.frames k)) q).label:=fun p q hpq hq e=>by
   have:=(Zd0 (hl q hq)).1
   rw[List.any_eq_false]at this
   refine this (ge (alH (ge d.frames k)) p) ?_ (by simpa [ZrJ]using e)
   have e2:ge ((alH (ge d.frames k)).take q) p=ge (alH (ge d.frames k)) p:=by simp[ge,List.getD_eq_getElem?_getD,hpq]
   rw[←e2]
   exact ZF (show p< ((alH (ge d.frames k)).take q).length by rw[List.length_take];omega)
  rcases Nat.lt_trichotomy i j with h1 | h1 | h1
  · exact absurd e.symm (key i j h1 hj)
  · rw[h1]
  · exact absurd e (key j i h1 hi)
 have hsam:∀ x∈oth d k,∀ y∈alH (ge d.frames k),y.label=x.label→y=x:=fun x hx y hy e=>by
  have:=List.any_eq_false.1 (hat y hy).2 x hx
  simp only[Zts,Bool.and_eq_true,Bool.not_eq_true',decide_eq_true_eq,not_and,Bool.not_eq_false]at this
  exact(hyEq_iff.1 (this e.symm)).symm
 refine⟨h.fr' hk,⟨fun x hx=>?_,fun s x hx=>?_⟩,⟨fun x hx v hv=>?_,fun v t hv=>?_⟩,?_⟩
 · rw[Zdg hk]at hx
   rcases List.mem_append.1 hx with hx | hx
   · exact Zh7 _ _ _ (hsam x hx) (.inr (h.hy.hit x hx))
   · exact Zh7 _ _ _ (hdist x hx) (.inl hx)
 · rw[Zdg hk]
   rcases Znp _ _ _ _ hx with⟨h1,h2⟩ | h1
   · exact⟨List.mem_append_right _ h1,h2⟩
   · have:=h.hy.got _ _ h1
     exact⟨List.mem_append_left _ this.1,this.2⟩
 · rw[Zdg hk]at hx
   rw[ht]
   rcases List.mem_append.1 hx with hx | hx
   · cases hs:ZB (tsK (alH (ge d.frames k))) v with
     | none=>simpa using h.ty.hit x hx v hv
     | some t=>
      obtain⟨y,hy,h1,h2⟩:=hT.got v t hs
      have hy1:=ofB_one.1 h1
      have:=List.any_eq_false.1 ((hat y hy).1 hy1.1) x hx
      simp only[Ztr,Za5 hy1.2.1,hy1.2.2,hv,Bool.true_and,Bool.not_eq_true',decide_eq_false_iff_not,Classical.not_not]at this
      simp[this,h2]
   · rw[hT.hit x hx v hv];rfl
 · rw[Zdg hk]
   rw[ht]at hv
   split at hv
   · obtain⟨y,hy,h1⟩:=hT.got v t hv
     exact⟨y,List.mem_append_right _ hy,h1⟩
   · obtain⟨y,hy,h1⟩:=h.ty.got v t hv
     exact⟨y,List.mem_append_left _ hy,h1⟩
 · rw[befL,if_neg (by omega),Nat.add_sub_cancel]
end
end Go.Proofs.YtapelgeodldlcaaGreatDoor
