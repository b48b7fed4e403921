/-
  Part of the proof that MinimizeChecks returns true. Conditions: none.
-/
import Derived.Test.YtdfadihhfppjaaaGreatDoorBET
import Derived.Test.YtdfadihhfppjaaaGreatDoorBEO
set_option maxRecDepth 100000
set_option maxHeartbeats 8000000
open List (append_nil flatten_cons flatten_nil length_append length_map length_set)
namespace Go.Proofs
open Go.Shelf
def Tryz.lays106_ren:Go.Shelf.Ren:=⟨fun | 106=>241 | 213=>256 | 265=>263 | n=>n,fun | 9=>9 | 3=>3 | n=>n,fun | n=>n⟩
theorem Tryz.lays106:Go.Proofs.Lays.n106 Tryz.prog Tryz.lays106_ren:= {
 mixed:=by kernel_rfl
 f106:=Tryz.func241.trans (congrArg some (by kernel_rfl))
 f213:=Tryz.func256.trans (congrArg some (by kernel_rfl))
 f265:=Tryz.func263.trans (congrArg some (by kernel_rfl))
 t3:=Tryz.underlying3
 a3:=Tryz.isAgg3
 z3:=Tryz.sizeOf3
 v3:=Tryz.zeroValue3
 t9:=Tryz.underlying9
 a9:=Tryz.isAgg9
 z9:=Tryz.sizeOf9
 v9:=Tryz.zeroValue9 }
open Go.RowKit in
theorem Tryz.strings_Compare (a b:ByteArray) (w:World):
 Calls Tryz.prog 241 #[.string a,.string b] w λe w'=>e= .returned (.int .i64 (Lib.compareBytes a.data.toList b.data.toList))/\w'=w:=Any.strings_Compare Tryz.lays106 a b w
end Go.Proofs
namespace Go.Proofs.YtdfadihhfppjaaaGreatDoor
open Go.Proofs.Tryz (prog)
open Go.RowKit
theorem G1 {J:WP} (_:aR J) (x y:BA):Fn prog J 241 [.str x,.str y] (.int (oK x y)):=λS w vs hS hJ0 h=>by
 simp only[bi]at h
 obtain⟨u,_,rfl,h1,u2,_,rfl,h2,rfl⟩:=h
 rw[h1.lit,h2.lit]
 exact Calls.mono (Tryz.strings_Compare x y w) λe w' ⟨he,hw⟩=>⟨_,he,Rel.aH _,hw▸Keeps.refl _ _,hw▸hJ0⟩
section
variable {J:WP} (V:aR J)
include V
theorem Tc (x y:Pr)  :Fn prog J 217 [.agg (aS x),.agg (aS y)] (.int (oL x y)):=by
 refine fE Tryz.func217 λS w0 hS hJ0=>?_
 clear hJ0
 refine aJ tb V [1000,1001] [.ptr (aS x),.ptr (aS y),_] [0,1] U2 Y ⟨d9 hS V,d9 hS V,U⟩ ?_
 refine af (aJ tb V [0,1,1005] (V4 [.int (oK x.a y.a),_]) [4] U3 Y ⟨dh hS V (G1 V (x:=x.a) (y:=y.a) ) (cO Tryz.func241),U⟩ ?_)
 refine qs tb V [0,1,2,1001] U2 U4 ?_
 refine cj 3 ?_ ?_<;>intro hb1<;>try simp at hb1
 ·refine qs tb V [1001] U2 [_] ?_
  exact aU 0 (hE:=eI (by grind[oL]))
 ·refine ak (nx (aJ tb V [1005] (V4 [.int (oK x.b y.b),_]) [4] [_] Y ⟨dh hS V (G1 V (x:=x.b) (y:=y.b) ) (cO Tryz.func241),U⟩ ?_))
  exact aU 0 (hE:=eI (by grind[oL]))
theorem Hp (x y:Hy)  :Fn prog J 213 [.agg (aP x),.agg (aP y)] (.bool (k7 x y)):=by
 refine fE Tryz.func213 λS w0 hS hJ0=>?_
 clear hJ0
 refine aJ tb V [1000,1001] [.ptr (aP x),.ptr (aP y),_] [0,1] U2 Y ⟨d9 hS V,d9 hS V,U⟩ ?_
 refine aJ tb V [1019] (pC [.bool (x.bn==y.bn),_,_,_,_,_,_,.bool (decide (x.ac=y.ac)),_,_]) [10,17] [_] Y ⟨λ_ _ _ Z hl hc=>HU Jm Y (hl.D 7 12 Y hc) (hl.D 9 14 Y hc) Z,dh hS V (xo V x.ac y.ac) (cO Tryz.func58),U⟩ ?_
 exact aU 0 (hE:=eB (by first | rfl | grind[aE]))
theorem Tj (hs:List Hy) (t:List BA) (b:hs.length<=40):Fn prog J 216 [.rd (bX hs),.rd (ai t)] (.rd (cu (t::(bS hs).map Hy.ac))):=by
 refine fE Tryz.func216 λS w0 hS hJ0=>?_
 refine tw cc (ln 0 λcr=>?_)
 refine ln 1 λ_=>?_
 refine aj tb V [0,1] [_] U2 ?_
 refine aL (ao 1 tb Y (IR eG ra V Y Y Y (lb Y) (λ_ _ h=>(h.get 0 Y)) λv1=>ao 1 tb Y (aA [0,3] U2 Y (nx (af (au tb V [0,1000,1001,1002] [_,.int (hs.length:Nat),_] [1] U4 Y ⟨aC cW,U⟩ ?_))))))
 refine ax (lpo (ι:=Nat×Value×(List (List BA))) (λ(k,_,out)=>(k<=hs.length)/\(out=t::(bS (hs.take k)).map Hy.ac)/\(out.length<=k+1)) (λ(_,v,out)=>[OB.row v 22 1 (out.map kN)]) (λ(k,v,_)=>[(12,.int (k:Nat)),(5,.lit v)]) (λ(k,_,_)=>hs.length-k) [1,2,3,0] U2 (0,v1,[t]) ⟨aI,by simp[bS],by simp⟩ ?_)
 rintro⟨k,v,out⟩ ⟨aQ,ah,bh⟩
 refine aj tb V [0,1,2,3,1000] [_] U5 ?_
 refine cE 4 ?_ ?_<;>intro hb1<;>try simp at hb1
 ·refine ak (nx (af (ax (aL (sy (.ptr (aP (G hs k))) (λh=>cb (i:=(k:Int)) cL Y (h.get 0 Y) (h.get 2 Y) bK (cl (xs:=hs) (k:=k) ay) Y h.x) ?_)))))
  refine ao 1 tb Y (iX (cs:=aP (G hs k)) sJ Y Y Y (lb Y) Y Y Y dz (m:=0) Y Y (λa w h=>aK hS _ h.keep h.x _ aV) (λa w h w' hk'=>fo V _ _ hk' h.x) (aA [0,3,4,5,6] U5 Y (nx (aj tb V (r5 [1002]) U3 U6 ?_))))
  refine cj 5 ?_ ?_<;>intro hb2<;>try simp at hb2
  ·refine cC (ao 3 tb Y (sy (.rd (cu ([(G hs k).ac]))) (λh=>fz eG ra Y (h.get 0 Y) (aK hS _ h.keep h.x _ aV) (jo V h.x)) ?_))
   refine fN (f:=kN) (m:=3) (s:=19) out ([(G hs k).ac]) (λ_=>Y) sP V hJ0 Y Y Y (lb Y) Y Y (λa w h=>(h.get 0 Y)) ay ay λv2=>ao 1 tb Y (aA [0,2,3,7,8,9] U6 Y (nx (ln 1 λhl3=>?_)))
   refine ln 2 λ_=>?_
   refine aT tb V [0,3,4,1001] [.int (k+1:Nat),_] [0] U4 Y ⟨aM,U⟩ ?_
   exact br (k+1,v2,out++([(G hs k).ac])) [1,2,3,0] ⟨oz,by rw[bS,kW oz,ah];simp[bS,hb2],by simp;omega⟩
  ·refine ak (nx (aT tb V [1,2,4,1001] [.int (k+1:Nat),_] [0] U4 Y ⟨aM,U⟩ ?_))
   exact br (k+1,v,out) [0,1,3,2] ⟨oz,by rw[bS,kW oz,ah];simp[bS,hb2],oz⟩
 ·refine aW (nx (aj tb V [1001] U2 [_] ?_))
  exact tw (λh=>dU hS h (m:=0) (s:=4) Y) (bH 0 (hE:=congrArg (λz=>AV.rd (cu z)) (show out=(t::(bS hs).map Hy.ac)from by rw[ah,cS oz])))
theorem Tx (M:Nat) (vs:List BA) (l:List (List BA))  :fc (ι:=Nat) prog J 215 [OB.set aB M vs] [.lit (.map (some M)),.rd (cu l)] [] (λi'=>.lit (.map (some (i')))) (λi'=>[OB.set aB (i') (dt vs l.flatten)]):=by
 refine ji Tryz.func215 λS w0 R hS hJ0 hH=>?_
 refine g5 (B:=So J S w0 31 (R) [(0,.lit (.map (some M))),(1,.rd (cu l))]) ?_ λa w h=>h
 refine ln 1 λ_=>?_
 refine au tb V [0,1] [.rd (.lit (.map none))] [0] U2 Y ⟨λ_ _ _ Z _ _=>gY Y (Rel.aH (.map none)) Z,U⟩ ?_
 refine aL (qS aB V Y Y Y (lb Y) λm1=>ao 1 tb Y (aA [0,2,3] U3 Y (nx (af (au tb V [0,1,1000,1001,1002] [_,.int (l.length:Nat),_] [1] U5 Y ⟨aC sH,U⟩ ?_)))))
 refine ax (lpo (ι:=Nat×(List BA)) (λ(k,ys)=>(k<=l.length)/\(ys=dt vs (l.take k).flatten)) (λ(_,ys)=>(OB.set aB m1 ys::R)) (λ(k,_)=>[(13,.int (k:Nat))]) (λ(k,_)=>l.length-k) (r5 []) U4 (0,([]:List BA)) ⟨aI,by simp[dt]⟩ ?_)
 rintro⟨k,ys⟩ ⟨aQ,ah⟩
 refine aj tb V (r5 [1000]) [_] U6 ?_
 refine cE 5 ?_ ?_<;>intro hb1<;>try simp at hb1
 ·refine ak (nx (af (ax (au tb V (r5 [1001,1002]) [.ptr [ai (G l k)],_,_] [0] U7 Y ⟨bq eG,U⟩ ?_))))
  refine ln 5 λ_=>?_
  refine au tb V (r5 [1000,1001,1002]) [_,.int ((G l k).length:Nat),_] [1] U8 Y ⟨aC b7,U⟩ ?_
  refine ax (lpo (ι:=Nat×(List BA)) (λ(j,zs)=>(j<=(G l k).length)/\(zs=dt vs ((l.take k).flatten++(G l k).take j))) (λ(_,zs)=>(OB.set aB m1 zs::R)) (λ(j,_)=>[(19,.int (j:Nat))]) (λ(j,_)=>(G l k).length-j) (r8 []) U7 (0,ys) ⟨aI,by simp[ah]⟩ ?_)
  rintro⟨j,zs⟩ ⟨fD,bu⟩
  refine aj tb V (r8 [1000]) [_] U9 ?_
  refine cE 8 ?_ ?_<;>intro hb2<;>try simp at hb2
  ·refine ak (nx (af (ax (au tb V (r8 [1002]) [.ptr [lS (G (G l k) j)],_,_] [0] U9 Y ⟨bq bz,U⟩ ?_))))
   refine au tb V (r9 [1002]) [_,_,.bool (decide ((G (G l k) j)∈vs))] [2] fp Y ⟨λ_ _ hk Z hl _=>jL (Kd:=aB) (xs:=vs) iT jQ (G (G l k) j) Y (dC hH hk Z (mo 0 Y)) (hl.D 0 23 Y Y) (hl.D 1 24 Y Y) Z,U⟩ ?_
   refine cj 9 ?_ ?_<;>intro aD<;>try simp at aD
   ·refine cC (ao 2 tb Y (sz iT V hJ0 (G (G l k) j) Y Y (.inl Y) (λa w h=>⟨(h.get 1 Y),(h.get 0 Y),(Rel.aH (.bool true))⟩) (aA [2,3,4,5,6,7,8,9] U8 Y (nx (aT tb V (r7 [1001]) [.int (j+1:Nat),_] [0] U8 Y ⟨aM,U⟩ ?_)))))
    exact br (j+1,cX zs (G (G l k) j)) (r8 []) ⟨oz,by rw[dF oz,<-List.append_assoc,uj,<-bu];first | (simp[aD,cX];done) | (simp[aD,cX];grind)⟩
   ·refine ak (nx (aT tb V (r7 [1001]) [.int (j+1:Nat),_] [0] U8 Y ⟨aM,U⟩ ?_))
    exact br (j+1,zs) (r8 []) ⟨oz,by rw[dF oz,<-List.append_assoc,uj,<-bu];first | (simp;done) | (simp[aD];done) | (simp;grind)⟩
  ·refine aW (nx (aT tb V [0,1,2,3,1001] [.int (k+1:Nat),_] [0] U5 Y ⟨aM,U⟩ ?_))
   exact br (k+1,zs) (r5 []) ⟨oz,by rw[bu,cS (xs:=G l k) oz,dF oz];simp⟩
 ·refine aW (nx (aj tb V [1001] U2 [_] ?_))
  exact tw (jr (congrArg (λz'=>OB.set aB m1 (z')) (show ys=(dt vs l.flatten)from by rw[ah,cS oz]))) (aX (λa w h=>dx  (m:=0) m1 Y h Y Y))
theorem TH (M:Nat) (ms:List BA) (p:Pr)  :cD prog J 244 [OB.set aB M ms] [.agg (aS p),.ptr [.lit (.map (some M))]] (.bool (!decide (p.a∈ms)|| !decide (p.b∈ms))):=by
 refine eV Tryz.func244 λS w0 hS hJ0 hH=>?_
 clear hJ0
 refine aJ tb V [1,1000] [.ptr (aS p),_] [0] U2 Y ⟨d9 hS V,U⟩ ?_
 refine aJ tb V [1012] (V3 [.bool (decide (p.a∈ms)),_,_,_,_,_,.bool (decide (p.b∈ms)),_,_,_]) [3,9] [_] Y ⟨λa _ hk Z hl _=>jL (Kd:=aB) (xs:=ms) iT jQ p.a Y (f7 hH hk (mo 0 Y)) (hl.D 0 4 Y Y) (hl.D 2 6 Y Y) Z,λ_ _ hk Z hl hc=>jL (Kd:=aB) (xs:=ms) iT jQ p.b Y (f7 hH hk (mo 0 Y)) (hl.D 6 10 Y hc) (hl.D 8 12 Y hc) Z,U⟩ ?_
 exact aU 0 (hE:=eB (by first | rfl | grind[aE]))
theorem TG (M:Nat) (ms:List BA) (l:List Pr) (b:l.length*32<=140737488351232):cD prog J 219 [OB.set aB M ms] [.lit (.map (some M)),.rd (bM l)] (.rd (bM (l.filter (i7 ms)))):=by
 refine eV Tryz.func219 λS w0 hS hJ0 hH=>?_
 refine tw cc (ln 1 λcr=>?_)
 refine au tb V [1,1000] [.ptr [.lit (.map (some M))],_] [0] U2 Y ⟨λ_ _ hk Z hl _=>ld Y (hl.env 0 0 _ Y Y) (aK hS _ hk Z _ aV) (jo V Z),U⟩ ?_
 refine aL (ao 1 tb Y (iI (O:=[]) (R:=[]) (Ss V l (b)) (cO Tryz.func243) Y Y Y (lb Y) hS hJ0 b8 (λa w h=>(aq (h.get 0 Y) aN)) λz1=>sy (.fn 244 [.ptr [.lit (.map (some M))]]) (λh=>lf (caps:=[(.tmp 2)]) Y (aq (h.get 3 Y) aN) h.x) (iI (O:=[OB.row z1 162 2 (l.map aS)]) (R:=[]) (SE V z1 l 244 [.ptr [.lit (.map (some M))]] [] [OB.set aB M ms] (λx':Pr=>!decide (x'.a∈ms)|| !decide (x'.b∈ms)) (λq'=>TH V M ms q') ((cO Tryz.func244)) oz) (cO Tryz.func242) Y Y Y (lb Y) hS hJ0 (dJ (hH _ (mo 0 Y)) b8) (λa w h=>(aq (h.get 1 Y) (aq (h.get 0 Y) aN))) λ_=>ao 1 tb Y (aA [0,1] U2 Y (nx (ln 0 λhl2=>?_))))))
 exact bH 0 (hE:=congrArg (λz=>AV.rd (bM z)) (show(l.filter λx'=>!(λx':Pr=>!decide (x'.a∈ms)|| !decide (x'.b∈ms)) x')=(l.filter (i7 ms))from by congr 1;funext x';simp[i7]))
theorem Te (y:Hy)  :Fn prog J 184 [.agg (aP y)] (.bool y.bn):=by
 refine fE Tryz.func184 λS w0 hS hJ0=>?_
 clear hJ0
 refine aJ tb V [1000] [.ptr (aP y),_] [0] [_] Y ⟨d9 hS V,U⟩ ?_
 refine qs tb V [1002] U3 [_] ?_
 exact aU 0 (hE:=Y)
theorem He (f:Fr) (b:f.aa.length*48<=140737488351232):Fn prog J 139 [.agg (a8 f)] (.rd (bX (bS f.aa))):=by
 refine fE Tryz.func139 λS w0 hS hJ0=>?_
 refine tw cc (au tb V [1000] [.ptr (a8 f),_] [0] [_] Y ⟨cY hS V,U⟩ ?_)
 refine aL (ao 2 tb Y (iI (O:=[]) (R:=[]) (Sr V f.aa (b)) (cO Tryz.func183) Y Y Y (lb Y) hS hJ0 b8 (λa w h=>(aq (h.get 0 Y) aN)) λz1=>iI (O:=[OB.row z1 119 3 (f.aa.map aP)]) (R:=[]) (SD V z1 f.aa 184 [] [] [] (λx':Hy=>x'.bn) (λq'=>(Te V q').r) ((cO Tryz.func184)) oz) (cO Tryz.func182) Y Y Y (lb Y) hS hJ0 b8 (λa w h=>(aq (h.get 0 Y) (aq (np 184) aN))) λ_=>ao 1 tb Y (aA [0,1,3] U3 Y (nx (ln 0 λcr=>?_)))))
 refine ln 2 λ_=>?_
 exact bH 0 (hE:=congrArg (λz=>AV.rd (bX z)) (show(f.aa.filter λx'=>!(λx':Hy=>x'.bn) x')=(bS f.aa)from Y))
theorem Ta (xs ys:List Hy)  :Fn prog J 179 [.rd (bX xs),.rd (bX ys)] (.int (gC (xs.map Hy.ae) (ys.map Hy.ae):Nat)):=by
 refine fE Tryz.func179 λS w0 hS hJ0=>?_
 clear hJ0
 refine ln 0 λ_=>?_
 refine ln 1 λ_=>?_
 refine qs tb V [0,1] [_] U2 ?_
 refine qs tb V [0,1,1000] [_] U3 ?_
 refine af (ax (lp (ι:=Nat) (λk=>(k<=xs.length)/\(k<=ys.length)/\(∀ j,j<k->(G xs j).ae=(G ys j).ae)) (λk=>[(5,.int (k:Nat))]) (λk=>xs.length-k) [0,1,2] U2 0 ⟨aI,aI,λj hj=>by omega⟩ ?_))
 rintro k ⟨aQ,ah,bh⟩
 refine af (aJ tb V [0,1,2,1022] [_,_,.int (xs.length:Nat),_,_,_,_,.int (ys.length:Nat),_,_,_,_,_,.ptr (aP (G xs k)),_,_,_,_,.ptr (aP (G ys k)),_,_,_,_] [2,7,13,18] U4 Y ⟨aC cW,aC cW,cT cL (hk:=λ(aF:(((decide ((k:Int)< (xs.length:Int)))&& (decide ((k:Int)< (ys.length:Int))))==true)=true)=>by(try simp at aF);first | omega | (simp;omega) | grind[aE]),cT cL (hk:=λ(aF:(((decide ((k:Int)< (xs.length:Int)))&& (decide ((k:Int)< (ys.length:Int))))==true)=true)=>by(try simp at aF);first | omega | (simp;omega) | grind[aE]),U⟩ ?_)
 refine cj 3 ?_ ?_<;>intro hb1<;>try simp at hb1
 ·refine ak (nx (ax (dK tb V [0,1,1002] [_,.int (k+1:Nat),_] [1] U3 Y ⟨aM,U⟩ ?_)))
  exact dM (k+1) [0,1,2] ⟨oz,oz,cB bh (by simp_all)⟩
 ·refine aW (nx (qs tb V [1001] U2 [_] ?_))
  exact aU 0 (hE:=eI (by exact congrArg _ (y7 (xs.map Hy.ae) (ys.map Hy.ae) k (by simpa using aQ) (by simpa using ah) (λj hj=>by rw[ww oz,ww oz];exact bh j hj) (by rw[length_map,length_map];rintro⟨h1,h2,h3⟩;rw[ww h1,ww h2]at h3;simp_all))))
theorem Hd (y:Hy) (b:y.ac.length*16<=140737488351232):Fn prog J 113 [.agg (aP y)] (.agg (aP y)):=by
 refine fE Tryz.func113 λS w0 hS hJ0=>?_
 refine tw cc (aL (qQ (cs:=[lS y.ae,lB y.bn,ai y.ac]) V Y Y Y (lb Y) (λa w h=>(h.get 0 Y)) λb1=>cx kR V Y Y Y (lb Y) λb2=>aA [0,1] U2 Y (nx (aL (sy (.at b1 2) (λh=>cy lX Y (h.get 1 Y) h.x) ?_)))))
 refine sy (.rd (ai y.ac)) (λh=>cg ip Y (aG h.x (mo 1 Y)) (h.get 0 Y) Y h.x) ?_
 refine iI (O:=[]) (R:=[OB.var b2 [lS (⟨#[]⟩:BA),lB false,ai ([]:List BA)],OB.var b1 (aP y)]) (G0 V y.ac ay) (cO Tryz.func87) Y Y Y (lb Y) hS hJ0 b8 (λa w h=>(aq (h.get 0 Y) aN)) λz3=>sy (.at b1 2) (λh=>cy lX Y (h.get 4 Y) h.x) (kw du (kw bO (kw (λh=>dU hS h (m:=1) (s:=5) Y) (gI (b:=b1) (off:=2) (es:=U3) V hJ0 Vt Y Y Y (lb Y) Y (λa w h=>⟨(h.get 1 Y),(h.get 0 Y)⟩) (aA [0,2,4,5] U4 Y (nx (ln 0 λcr=>?_)))))))
 refine aL (sy (.agg [lS y.ae,lB y.bn,ai y.ac]) (λh=>fA (ds:=[lS y.ae,lB y.bn,ai y.ac]) nF Y (aG h.x (mo 0 Y)) (h.get 3 Y) Y Y h.x) ?_)
 refine kw bO (ce (b:=b2) (off:=0) (es:=U3) (news:=U3) V hJ0 jx Y Y Y (lb Y) Y (λa w h=>⟨(h.get 3 Y),(h.get 0 Y)⟩) (aA [3] [_] Y (nx (aX (λa w h=>j0 (m:=0) Y nF h Y Y Y)))))
theorem Hq (M1 M2:Nat) (M3 M4 M5:Nat) (cs vs l:List BA)  :cD prog J 175 [OB.set aB M1 cs,OB.set aB M2 vs] [.ptr (dq [M1,M2,M3,M4,M5]),.rd (ai l)] (.int (li cs vs l)):=by
 refine eV Tryz.func175 λS w0 hS hJ0 hH=>?_
 clear hJ0
 refine ln 1 λ_=>?_
 refine aJ tb V [1,1000] [.ptr [.ptr (dq [M1,M2,M3,M4,M5])],_] [0] U2 Y ⟨λ_ _ hk Z hl _=>xx Y (hl.env 0 0 _ Y Y) (hS _ hk.size) (js V Z),U⟩ ?_
 refine af (ax (aJ tb V [0,1,1008] [_,.int (l.length:Nat),_,_,_,.int (l.length:Nat),_,_,_] [1,5] U3 Y ⟨aC b7,aC b7,U⟩ ?_))
 refine cj 2 ?_ ?_<;>intro hb1
 ·refine qs tb V [1000] [_] [_] ?_
  exact aU 0 (hE:=eI (by grind[li]))
 ·refine aJ tb V [1015] (V5 [.ptr [lS (G l 0)],_,.bool (decide ((G l 0)∈cs)),_,_,_,.rd (ai (l.drop 1)),.fn 214 [.ptr [.ptr (dq [M1,M2,M3,M4,M5])]],.bool ((l.drop 1).any (λs=>!(decide (s∈cs)||decide (s∈vs)))),_,_]) [5,7,11,12,13] [_] Y ⟨bq (k:=0) bz,λ_ _ hk Z hl _=>jL (Kd:=aB) (xs:=cs) iT jQ (G l 0) Y (f7 hH hk (mo 0 Y)) (hl.D 3 18 Y Y) (hl.D 6 21 Y Y) Z,λ_ _ _ Z hl hc=>iW (ys:=l.drop 1) (lo:=1) (hi:=l.length) (by rw[List.take_length]) bz (λ_=>Y) Y (hl.D 10 25 Y hc) (Rel.aH (.int .i64 1)) Y (by have aF:((!(decide ((G l 0)∈cs)))==false)=true:=hc;(try simp at aF);(first | omega | (simp;omega) | grind[aE])) (by have aF:((!(decide ((G l 0)∈cs)))==false)=true:=hc;(try simp at aF);(first | omega | (simp;omega) | grind[aE])) Z,λ_ _ _ Z hl _=>lf (caps:=[(.tmp 2)]) Y (aq (hl.env 1 2 _ Y Y) aN) Z,λ_ _ hk Z hl hc=>dv (uv V (l.drop 1) 214 [.ptr [.ptr (dq [M1,M2,M3,M4,M5])]] [OB.set aB M1 cs,OB.set aB M2 vs] (λs=>!(decide (s∈cs)||decide (s∈vs))) (λq'=>TD V M1 M2 M3 M4 M5 cs vs q') ((cO Tryz.func214))) (cO Tryz.func135) Y (nm hS hk) (Z) (dJ (f7 hH hk (mo 0 Y)) (dJ (f7 hH hk (mo 1 Y)) b8)) (aq (hl.D 11 26 Y hc) (aq (hl.D 12 27 Y hc) aN)) (js V Z),U⟩ ?_
  refine cj 0 ?_ ?_<;>intro hb2
  ·refine qs tb V [1000] [_] [_] ?_
   exact aU 0 (hE:=eI (by grind[li]))
  ·refine ak (nx (qs tb V [1000] [_] [_] ?_))
   exact aU 0 (hE:=eI (by grind[li]))
end
section
variable {J:WP} (V:aR J)
include V
theorem S9   :Fn prog J 239 [] (.agg (kj.map gi)):=by
 refine fE Tryz.func239 λS w0 hS hJ0=>?_
 refine tw cc (aL (cx Jw V Y Y Y (lb Y) λb1=>aA [0] [_] Y (nx (af (aj tb V [0,1000] [_] U2 ?_)))))
 refine ax (lpo (ι:=Nat×(List UInt8)) (λ(k,xs)=>(k<=256)/\(xs.length=256)/\(∀ j,j<k->G xs j=gN (UInt8.ofNat j))/\(∀ j,k<=j->j<256->G xs j=0)) (λ(_,xs)=>[OB.var b1 (xs.map gi)]) (λ(k,_)=>[(3,.int (k:Nat))]) (λ(k,_)=>256-k) [0,1] [_] (0,(List.replicate 256 (0:UInt8))) ⟨aI,by simp,λj hj=>by omega,λj _ h=>by rw[cF (by simpa using h)];exact List.getElem_replicate _⟩ ?_)
 rintro⟨k,xs⟩ ⟨aQ,ah,bh,ic⟩
 refine aj tb V [0,1,1000] [_] U3 ?_
 refine cE 2 ?_ ?_<;>intro hb1<;>try simp at hb1
 ·refine ak (nx (af (ax (aj tb V [0,1,1001] U2 U3 ?_))))
  refine au tb V [0,1,2,1002] [_,.rd (.lit (.int .u8 ((UInt8.ofNat k).toNat:Int))),_] [1] U4 Y ⟨λ_ _ _ Z hl _=>T6 (k:=k) yi WC Y (hl.D 0 6 Y Y) ay Z,U⟩ ?_
  refine ax (aj tb V [0,1,2,3,1014] pB U5 ?_)
  refine cj 4 ?_ ?_<;>intro hb2
  ·replace hb2:yR (UInt8.ofNat k)=true:=hb2
   refine cC (ao 1 tb Y (sy (.at b1 k) (λh=>uD (i:=k) sQ Y (h.get 1 Y) (h.get 0 Y) ay h.x) ?_))
   refine gI (b:=b1) (off:=k) (c:=gi (1:UInt8)) V hJ0 xU Y Y Y (by rw[length_map];exact ay) (vm ay) (λa w h=>⟨(h.get 0 Y),(Rel.aH (.int .u8 1))⟩) (aA [2,3] U2 Y (nx (aT tb V [0,1001] [.int (k+1:Nat),_] [0] U2 Y ⟨aM,U⟩ ?_)))
   exact br (k+1,xs.set k (1:UInt8)) [0,1] ⟨oz,by rw[length_set];exact ah,vL ah oz bh (by simp[gN,hb2]),vK ah oz ic⟩
  ·replace hb2:yR (UInt8.ofNat k)=false:=hb2
   refine aj tb V [0,1,2,3,1002] U3 U5 ?_
   refine cj 4 ?_ ?_<;>intro aD
   ·replace aD:yS (UInt8.ofNat k)=true:=aD
    refine cC (ao 1 tb Y (sy (.at b1 k) (λh=>uD (i:=k) sQ Y (h.get 1 Y) (h.get 0 Y) ay h.x) ?_))
    refine gI (b:=b1) (off:=k) (c:=gi (4:UInt8)) V hJ0 xU Y Y Y (by rw[length_map];exact ay) (vm ay) (λa w h=>⟨(h.get 0 Y),(Rel.aH (.int .u8 4))⟩) (aA [2,3] U2 Y (nx (aT tb V [0,1001] [.int (k+1:Nat),_] [0] U2 Y ⟨aM,U⟩ ?_)))
    exact br (k+1,xs.set k (4:UInt8)) [0,1] ⟨oz,by rw[length_set];exact ah,vL ah oz bh (by simp[gN,hb2,aD]),vK ah oz ic⟩
   ·replace aD:yS (UInt8.ofNat k)=false:=aD
    refine aj tb V [0,1,2,3,1034] [_,_,_,_,_,_,_,_,_,_,_,_,_,_,_,_,_,_,_,_,_,_,_,_,_,_,_,_,_,_,_,_,_,_,_] U5 ?_
    refine cj 4 ?_ ?_<;>intro bd
    ·replace bd:yT (UInt8.ofNat k)=true:=bd
     refine cC (ao 1 tb Y (sy (.at b1 k) (λh=>uD (i:=k) sQ Y (h.get 1 Y) (h.get 0 Y) ay h.x) ?_))
     refine gI (b:=b1) (off:=k) (c:=gi (2:UInt8)) V hJ0 xU Y Y Y (by rw[length_map];exact ay) (vm ay) (λa w h=>⟨(h.get 0 Y),(Rel.aH (.int .u8 2))⟩) (aA [2,3] U2 Y (nx (aT tb V [0,1001] [.int (k+1:Nat),_] [0] U2 Y ⟨aM,U⟩ ?_)))
     exact br (k+1,xs.set k (2:UInt8)) [0,1] ⟨oz,by rw[length_set];exact ah,vL ah oz bh (by simp[gN,hb2,aD,bd]),vK ah oz ic⟩
    ·replace bd:yT (UInt8.ofNat k)=false:=bd
     refine aj tb V [0,1,2,1006] U7 U4 ?_
     refine cj 3 ?_ ?_<;>intro bW
     ·replace bW:yU (UInt8.ofNat k)=true:=bW
      refine cC (ao 1 tb Y (sy (.at b1 k) (λh=>uD (i:=k) sQ Y (h.get 1 Y) (h.get 0 Y) ay h.x) ?_))
      refine gI (b:=b1) (off:=k) (c:=gi (3:UInt8)) V hJ0 xU Y Y Y (by rw[length_map];exact ay) (vm ay) (λa w h=>⟨(h.get 0 Y),(Rel.aH (.int .u8 3))⟩) (aA [2,3] U2 Y (nx (aT tb V [0,1001] [.int (k+1:Nat),_] [0] U2 Y ⟨aM,U⟩ ?_)))
      exact br (k+1,xs.set k (3:UInt8)) [0,1] ⟨oz,by rw[length_set];exact ah,vL ah oz bh (by simp[gN,hb2,aD,bd,bW]),vK ah oz ic⟩
     ·replace bW:yU (UInt8.ofNat k)=false:=bW
      refine ak (nx (aT tb V [0,1001] [.int (k+1:Nat),_] [0] U2 Y ⟨aM,U⟩ ?_))
      exact br (k+1,xs) [0,1] ⟨oz,ah,cB bh (by rw[ic k (Nat.le_refl k) oz];simp[gN,hb2,aD,bd,bW]),λj h1 h2=>ic j oz h2⟩
 ·refine aW (nx (aL (sy (.agg (xs.map gi)) (λh=>fA (ds:=xs.map gi) CN Y (aG h.x (mo 0 Y)) (h.get 0 Y) (by rw[List.drop_zero,List.take_of_length_le (by rw[length_map];omega)]) (by rw[length_map];omega) h.x) ?_)))
  refine ce (b:=b1) (off:=0) (news:=xs.map gi) V hJ0 (by rw[length_map,show xs.length=256 from(ah)];exact IG) Y Y Y (by simp only[length_map];exact oz) (CU (by rw[length_map]<;>exact(Y))) (λa w h=>⟨(h.get 1 Y),(h.get 0 Y)⟩) (aA [1] [_] Y (nx (aX (λa w h=>j0 (m:=0) Y CN h Y (by rw[length_map];exact(ah)) (congrArg (λz':List UInt8=>z'.map gi) (show xs=kj from LC ah λj hj=>bh j oz))))))
theorem SL (xs:List UInt8) (c:UInt8)  :Fn prog J 255 [.rd (uU xs),.rd (.lit (.int .u8 (c.toNat:Int)))] (.int (cH (λx':UInt8=>decide (((c).toNat:Int)=((x').toNat:Int))) xs)):=by
 refine fE Tryz.func255 λS w0 hS hJ0=>?_
 clear hJ0
 refine ln 0 λ_=>?_
 refine qs tb V [0,1] [_] U2 ?_
 refine af (aJ tb V [0,1,1001,1002] [_,.int (xs.length:Nat),_] [1] U4 Y ⟨aC WG,U⟩ ?_)
 refine ax (lp (ι:=Nat) (λk=>(k<=xs.length)/\(∀ j,j<k->(λx':UInt8=>decide (((c).toNat:Int)=((x').toNat:Int))) (G xs j)=false)) (λk=>[(8,.int (k:Nat))]) (λk=>xs.length-k) [0,1,2,3] U3 0 ⟨aI,λj hj=>by omega⟩ ?_)
 rintro k ⟨aQ,ah⟩
 refine qs tb V [0,1,2,3,1000] [_] U5 ?_
 refine cE 4 ?_ ?_<;>intro hb1<;>try simp at hb1
 ·refine ak (nx (af (ax (qs tb V [0,1,2,3,1001] U2 U5 ?_))))
  refine aJ tb V (r5 [1005]) (V3 [.ptr [.lit (.int .u8 ((G xs k).toNat:Int))],_,_]) [3] U6 Y ⟨bq zq,U⟩ ?_
  refine cj 5 ?_ ?_<;>intro hb2<;>try simp at hb2
  ·refine qs tb V [1001] U2 [_] ?_
   exact aU 0 (hE:=eI (by first | exact(iR (p:=λx':UInt8=>decide (((c).toNat:Int)=((x').toNat:Int))) hb1 (by simpa using hb2) ah).symm | exact(iS (p:=λx':UInt8=>decide (((c).toNat:Int)=((x').toNat:Int))) λj hj=>ah j oz).symm))
  ·refine ak (nx (dK tb V [0,1,2,1001] [.int (k+1:Nat),_] [0] U4 Y ⟨aM,U⟩ ?_))
   exact dM (k+1) [0,1,2,3] ⟨oz,cB ah (by simpa using hb2)⟩
 ·refine aW (nx (qs tb V [1000] [_] [_] ?_))
  exact aU 0 (hE:=eI (by first | exact(iR (p:=λx':UInt8=>decide (((c).toNat:Int)=((x').toNat:Int))) hb1 (by simpa using hb2) ah).symm | exact(iS (p:=λx':UInt8=>decide (((c).toNat:Int)=((x').toNat:Int))) λj hj=>ah j oz).symm))
theorem Sw (xs:List UInt8) (c:UInt8)  :Fn prog J 240 [.rd (uU xs),.rd (.lit (.int .u8 (c.toNat:Int)))] (.bool (decide (c∈xs))):=by
 refine fE Tryz.func240 λS w0 hS hJ0=>?_
 clear hJ0
 refine ln 0 λ_=>?_
 refine qs tb V [0,1] [_] U2 ?_
 refine aJ tb V [1004] [_,_,.int (cH (λx':UInt8=>decide (((c).toNat:Int)=((x').toNat:Int))) xs),_,_] [2] [_] Y ⟨dh hS V (SL V xs c) (cO Tryz.func255),U⟩ ?_
 exact aU 0 (hE:=eB (by rw[pd,Rb]))
theorem Hm (s:BA) (bs:List UInt8)  :Fn prog J 211 [.str s,.rd (uU bs)] (.bool (j2 s bs)):=by
 refine fE Tryz.func211 λS w0 hS hJ0=>?_
 refine tw cc (ub 0 λcr=>?_)
 refine ln 1 λ_=>?_
 refine aj tb V [0,1] [_] U2 ?_
 refine af (au tb V [0,1,1006] (V4 [.int (s.size:Nat),_,_]) [4] U3 Y ⟨pc kP,U⟩ ?_)
 refine cj 2 ?_ ?_<;>intro hb1
 ·refine aj tb V [1000] [_] [_] ?_
  exact bH 0 (hE:=eB (by first | (rw[j2,if_pos hb1];done) | (rw[j2,if_neg (by rw[hb1];decide)];symm;exact sb (p:=λc=>decide (gN c∈bs)) hb2 (by simpa [vJ]using aD)) | (rw[j2,if_neg (by rw[hb1];decide)];symm;exact rj λj hj=>ah j oz)))
 ·refine ak (nx (aL (sy (.agg (kj.map gi)) (λh=>cV (S9 V  ) (cO Tryz.func239) Y (aK hS _ h.keep h.x) (h.x.1) aN (jo V h.x)) ?_)))
  refine cx Jw V Y Y Y (lb Y) λb1=>ce (b:=b1) (off:=0) (news:=kj.map gi) V hJ0 (by rw[length_map,show kj.length=256 from(pT)];exact IG) Y Y Y (by simp only[length_map];exact(by rw[pT,List.length_replicate];exact Nat.le_of_ble_eq_true Y)) (CU (by rw[length_map]<;>exact(by rw[pT,List.length_replicate]))) (λa w h=>⟨(h.get 0 Y),(h.get 1 Y)⟩) (aA [0,2,3] U3 Y (nx (af (au tb V [0,1,2,1001,1002] [_,.int (s.size:Nat),_] [1] U5 Y ⟨pc kP,U⟩ ?_))))
  refine ax (lpo (ι:=Nat) (λk=>(k<=s.size)/\(∀ j,j<k->decide (gN (bt s j)∈bs)=true)) (λ_=>[OB.var b1 (kj.map gi)]) (λk=>[(17,.int (k:Nat))]) (λk=>s.size-k) (r5 []) U4 0 ⟨aI,λj hj=>by omega⟩ ?_)
  rintro k ⟨aQ,ah⟩
  refine aj tb V (r5 [1000]) [_] U6 ?_
  refine cE 5 ?_ ?_<;>intro hb2<;>try simp at hb2
  ·refine ak (nx (af (ax (aj tb V (r5 [1001]) U2 U6 ?_))))
   refine au tb V (r5 [1007]) (V3 [.rd (.lit (.int .u8 ((G s.data.toList k).toNat:Int))),.at b1 ((G s.data.toList k).toNat),.rd (.lit (.int .u8 ((G kj (G s.data.toList k).toNat).toNat:Int))),.bool (decide ((G kj (G s.data.toList k).toNat)∈bs)),_]) [3,4,5,6] U6 Y ⟨λ_ _ _ Z hl _=>uE (i:=(k:Int)) kP Y (hl.D 1 21 Y Y) (hl.D 2 22 Y Y) bK (sV (s:=s) (k:=k) ay) Z,λ_ _ _ Z hl _=>uD (i:=(G s.data.toList k).toNat) sQ Y (hl.env 0 5 _ Y Y) (hl.D 3 23 Y Y) (UInt8.toNat_lt _) Z,λ_ _ _ Z hl _=>cg RP Y (aG Z (mo 0 Y)) (hl.D 4 24 Y Y) (J6 (by rw[pT];exact UInt8.toNat_lt _)) Z,bJ hS V (Sw V bs (G kj (G s.data.toList k).toNat)) (cO Tryz.func240),U⟩ ?_
   refine cj 5 ?_ ?_<;>intro aD<;>try simp at aD
   ·refine aj tb V [1000] [_] [_] ?_
    exact bH 0 (hE:=eB (by first | (rw[j2,if_pos hb1];done) | (rw[j2,if_neg (by rw[hb1];decide)];symm;exact sb (p:=λc=>decide (gN c∈bs)) hb2 (by simpa [vJ]using aD)) | (rw[j2,if_neg (by rw[hb1];decide)];symm;exact rj λj hj=>ah j oz)))
   ·refine ak (nx (aT tb V [0,1,2,3,1001] [.int (k+1:Nat),_] [0] U5 Y ⟨aM,U⟩ ?_))
    exact br (k+1) (r5 []) ⟨oz,cB ah (by simpa [vJ]using aD)⟩
  ·refine aW (nx (aj tb V [1000] [_] [_] ?_))
   exact bH 0 (hE:=eB (by first | (rw[j2,if_pos hb1];done) | (rw[j2,if_neg (by rw[hb1];decide)];symm;exact sb (p:=λc=>decide (gN c∈bs)) hb2 (by simpa [vJ]using aD)) | (rw[j2,if_neg (by rw[hb1];decide)];symm;exact rj λj hj=>ah j oz)))
theorem Bo (s:BA)  :Fn prog J 172 [.str s] (.bool (ga s)):=by
 refine fE Tryz.func172 λS w0 hS hJ0=>?_
 clear hJ0
 refine qs tb V [0] [_] [_] ?_
 refine aJ tb V [1001,1003] [_,.rd (uU ([(2:UInt8)])),.bool (j2 s ([(2:UInt8)])),_] [1,2] U2 Y ⟨λ_ _ hk Z _ _=>fz zq Xy Y (Rel.aH (.int .u8 2)) (hS _ hk.size) (js V Z),dh hS V (Hm V s ([(2:UInt8)])) (cO Tryz.func211),U⟩ ?_
 refine ln 0 λ_=>?_
 exact aU 1 (hE:=eB (RR s))
theorem Bp (s:BA)  :Fn prog J 170 [.str s] (.bool (gZ s)):=by
 refine fE Tryz.func170 λS w0 hS hJ0=>?_
 clear hJ0
 refine qs tb V [0] [_] [_] ?_
 refine aJ tb V [1001,1003] [_,.rd (uU ([2,3]:List UInt8)),.bool (j2 s ([2,3]:List UInt8)),_] [1,2] U2 Y ⟨λa _ hk Z _ _=>qF (k:=2) (us:=[a.eval (.const (.int .u8 2)),a.eval (.const (.int .u8 3))]) zq Xv Y yz (b6 (Rel.aH (.int .u8 2)) (b6 (Rel.aH (.int .u8 3)) cM)) Y dz dz (hS _ hk.size) (js V Z),dh hS V (Hm V s ([2,3]:List UInt8)) (cO Tryz.func211),U⟩ ?_
 refine ln 0 λ_=>?_
 exact aU 1 (hE:=eB (RS s))
end
theorem KH:lN prog 287 4:=⟨#[.int .i64 0,.string ⟨#[]⟩,.slice none 0 0,.slice none 0 0],Y,λi=>(#[(0,1),(1,1),(2,1),(3,1)]:Array (Nat×Nat))[i]?,λj hj=>by rcases j with _ | _ | _ | _ | j<;>first | rfl | omega,λparts=>by kernel_rfl⟩
theorem Tu {J:WP} (V:aR J) (s:BA):Fn prog J 261 [.str s] (.bool (fy s)):=by
 intro S w vs hS hJ0 ha
 simp only[bi]at ha
 obtain⟨u,us,rfl,h1,rfl⟩:=ha
 rw[h1.lit]
 exact(Qd s w).mono λe w' ⟨he,hb⟩=>by
  have hk:Keeps All w w':=(Keeps.of_below hb).sub λk hk _=>hk
  exact⟨_,he,Rel.aH _,hk,V w w' hk hJ0⟩
def ig (s:Sm):Bool:=((ga s.ae&& (decide ((1:Int)<=(s.ac.length:Int))&&decide ((s.ac.length:Int)<=200)))&&s.ac.all gZ)&&s.proof.all fy
def kT (s:Sm):List BA:=((([s.ae]++[⟨#[36,112]⟩]++s.ac)++[⟨#[36,61]⟩])++s.proof)++[⟨#[36,46]⟩]
section
variable {J:WP} (V:aR J)
include V
theorem Hf (g:FuncId)  :Fn prog J 259 [.lit (.func (.func g) #[] #[])] (.fn 260 [.ptr [.lit (.func (.func g) #[] #[])]]):=by
 refine fE Tryz.func259 λS w0 hS hJ0=>?_
 clear hJ0
 refine aJ tb V [1000] [.ptr [.lit (.func (.func g) #[] #[])],_] [0] [_] Y ⟨λ_ _ hk Z hl _=>ld Y (hl.env 0 0 _ Y Y) (hS _ hk.size) (js V Z),U⟩ ?_
 refine aJ tb V [1001] [.fn 260 [.ptr [.lit (.func (.func g) #[] #[])]],_] [0] [_] Y ⟨λ_ _ _ Z hl _=>lf (caps:=[(.tmp 1)]) Y (aq (hl.env 0 1 _ Y Y) aN) Z,U⟩ ?_
 exact aU 0 (hE:=Y)
theorem Hg (g:FuncId) (p:BA->Bool) (q:BA) (hk0:dy prog g) (hf:∀ q',Fn prog J g [.str q'] (.bool (p q'))):Fn prog J 260 [.str q,.ptr [.lit (.func (.func g) #[] #[])]] (.bool (!p q)):=by
 refine fE Tryz.func260 λS w0 hS hJ0=>?_
 clear hJ0
 refine qs tb V [0,1] [_] U2 ?_
 refine aJ tb V [1004] [_,_,.bool (p q),_,_] [2] [_] Y ⟨λ_ _ hk Z hl _=>iE ((hf q).r) hk0 Y (N4 (hl.D 0 4 Y Y)) (nm hS hk) (Z) b8 (aq (hl.D 1 5 Y Y) aN) (js V Z),U⟩ ?_
 exact aU 0 (hE:=eB (by first | rfl | grind[aE]))
theorem Th (s:Sm) (hG:gJ J) (h7:s.kind=7):Fn prog J 247 [.agg (kL s)] (.bool (ig s)):=by
 refine fE Tryz.func247 λS w0 hS hJ0=>?_
 refine tw cc (au tb V [1000] [.ptr (kL s),_] [0] [_] Y ⟨cY hS V,U⟩ ?_)
 refine af (aj tb V [0,1007] U8 U2 ?_)
 refine cj 1 ?_ ?_<;>intro hb1<;>try simp at hb1
 ·refine aj tb V [1000] [_] [_] ?_
  exact bH 0 (hE:=eB (by first | (exfalso;omega) | (unfold ig;grind) | (simp only[ig,List.all_eq_not_any_not];grind)))
 ·refine ak (nx (aL (ao 2 tb Y (sy (.at 1 28) (λh=>HX (k:=7) Jl xS Y (h.get 0 Y) (h7) dz h.x) ?_))))
  refine sy (.agg [lS (⟨#[36,112]⟩:BA),lB true,lI (1:Int),lI (200:Int)]) (λh=>HY CO Y (hG _ (h.x.1)) (h.get 0 Y) h.x) ?_
  refine cx Jx V Y Y Y (lb Y) λb1=>ce (b:=b1) (off:=0) (es:=U4) (news:=U4) V hJ0 xS Y Y Y (lb Y) Y (λa w h=>⟨(h.get 0 Y),(h.get 1 Y)⟩) (kw (λh=>fB hS h (m:=0) (s:=3) Y) (aA [0,5] U2 Y (nx (af (au tb V [1,1033] (V5 [.bool (ga s.ae),_,_,_,_,_,_,_,_,_,_,_,_,_,_,_,.int (s.ac.length:Nat),_,_,_,_,_,_,_,.int (s.ac.length:Nat),_,_,_,_]) [5,21,29] U2 Y ⟨bJ hS V (Bo V s.ae) (cO Tryz.func172),aC b7,aC b7,U⟩ ?_)))))
  refine cj 1 ?_ ?_<;>intro hb2<;>try simp at hb2
  ·refine aj tb V [1000] [_] [_] ?_
   exact bH 0 (hE:=eB (by first | (exfalso;omega) | (unfold ig;grind) | (simp only[ig,List.all_eq_not_any_not];grind)))
  ·refine ak (nx (aj tb V [0,1000] [_] U2 ?_))
   refine au tb V [1001,1025] (V3 [.fn 260 [.ptr [.lit (.func (.func 170) #[] #[])]],.bool (s.ac.any (λw'=>!gZ w')),_,_,_,_,_,.fn 260 [.ptr [.lit (.func (.func 261) #[] #[])]],.bool (s.proof.any (λw'=>!fy w')),_,_,_,_,_,_,_,_,_,.int (s.proof.length:Nat),_,_,_,_]) [3,4,10,11,21] U2 Y ⟨λ_ _ hk Z hl _=>iE ((Hf V 170).r) (cO Tryz.func259) Y (hl.D 2 53 Y Y) (aK hS _ hk Z) (Z.1) b8 (aq (Ir 170) aN) (jo V Z),λ_ w hk Z hl _=>dv (uv V s.ac 260 [.ptr [.lit (.func (.func 170) #[] #[])]] [] (λw'=>!gZ w') (λq'=>(Hg V 170 gZ q' (cO Tryz.func170) λz'=>Bp V z').r) ((cO Tryz.func260))) (cO Tryz.func135) Y (aK hS _ hk Z) (Z.1) b8 (aq (hl.D 1 52 Y Y) (aq (hl.D 3 54 Y Y) aN)) (jo V Z),λ_ _ hk Z hl hc=>iE ((Hf V 261).r) (cO Tryz.func259) Y (hl.D 9 60 Y hc) (aK hS _ hk Z) (Z.1) b8 (aq (Ir 261) aN) (jo V Z),λ_ w hk Z hl hc=>dv (uv V s.proof 260 [.ptr [.lit (.func (.func 261) #[] #[])]] [] (λw'=>!fy w') (λq'=>(Hg V 261 fy q' (cO Tryz.func261) λz'=>Tu V z').r) ((cO Tryz.func260))) (cO Tryz.func135) Y (aK hS _ hk Z) (Z.1) b8 (aq (hl.D 8 59 Y hc) (aq (hl.D 10 61 Y hc) aN)) (jo V Z),aC b7,U⟩ ?_
   refine ln 0 λ_=>?_
   exact bH 1 (hE:=eB (by first | (exfalso;omega) | (unfold ig;grind) | (simp only[ig,List.all_eq_not_any_not];grind)))
theorem SZ (s:Sm) (hG:gJ J) (h7:s.kind=7):Fn prog J 246 [.agg (kL s)] (.bool (!ig s)):=by
 refine fE Tryz.func246 λS w0 hS hJ0=>?_
 refine tw cc (au tb V [1000] [.ptr (kL s),_] [0] [_] Y ⟨cY hS V,U⟩ ?_)
 refine au tb V [1003] [_,.bool (ig s),_,_] [1] [_] Y ⟨bJ hS V (Th V s (hG) (h7)) (cO Tryz.func247),U⟩ ?_
 exact bH 0 (hE:=eB (by first | rfl | grind[aE]))
theorem SS (xs:List Sm) (f:FuncId) (caps:List AV) (Os:List OB) (p:Sm->Bool) (hf:∀ q'∈xs,cD prog J f Os ([.agg (kL (q'))]++caps) (.bool (p q'))) (hk0:dy prog f):cD prog J 258 Os [.rd (yc xs),.fn f caps] (.int (cH p xs)):=by
 refine eV Tryz.func258 λS w0 hS hJ0 hH=>?_
 clear hJ0
 refine ln 0 λ_=>?_
 refine qs tb V [0,1] [_] U2 ?_
 refine af (aJ tb V [0,1,1001,1002] [_,.int (xs.length:Nat),_] [1] U4 Y ⟨aC Ck,U⟩ ?_)
 refine ax (lp (ι:=Nat) (λk=>(k<=xs.length)/\(∀ j,j<k->p (G xs j)=false)) (λk=>[(8,.int (k:Nat))]) (λk=>xs.length-k) [0,1,2,3] U3 0 ⟨aI,λj hj=>by omega⟩ ?_)
 rintro k ⟨aQ,ah⟩
 refine qs tb V [0,1,2,3,1000] [_] U5 ?_
 refine cE 4 ?_ ?_<;>intro hb1<;>try simp at hb1
 ·refine ak (nx (af (ax (qs tb V [0,1,2,3,1001] U2 U5 ?_))))
  refine aJ tb V (r5 [1005]) (V3 [.ptr (kL (G xs k)),_,.bool (p (G xs k))]) [3,5] U6 Y ⟨bq zr,λ_ _ hk Z hl _=>iE (hf (G xs k) (aE oz)) hk0 Y (hl.D 0 11 Y Y) (nm hS hk) (Z) (λ_ ho=>f7 hH hk ho) (aq (hl.D 4 15 Y Y) aN) (js V Z),U⟩ ?_
  refine cj 5 ?_ ?_<;>intro hb2<;>try simp at hb2
  ·refine qs tb V [1001] U2 [_] ?_
   exact aU 0 (hE:=eI (by first | exact(iR hb1 hb2 ah).symm | exact(iS λj hj=>ah j oz).symm))
  ·refine ak (nx (dK tb V [0,1,2,1001] [.int (k+1:Nat),_] [0] U4 Y ⟨aM,U⟩ ?_))
   exact dM (k+1) [0,1,2,3] ⟨oz,cB ah hb2⟩
 ·refine aW (nx (qs tb V [1000] [_] [_] ?_))
  exact aU 0 (hE:=eI (by first | exact(iR hb1 hb2 ah).symm | exact(iS λj hj=>ah j oz).symm))
theorem SB (xs:List Sm) (f:FuncId) (caps:List AV) (Os:List OB) (p:Sm->Bool) (hf:∀ q'∈xs,cD prog J f Os ([.agg (kL (q'))]++caps) (.bool (p q'))) (hk0:dy prog f):cD prog J 245 Os [.rd (yc xs),.fn f caps] (.bool (xs.any p)):=by
 refine eV Tryz.func245 λS w0 hS hJ0 hH=>?_
 clear hJ0
 refine ln 0 λ_=>?_
 refine qs tb V [0,1] [_] U2 ?_
 refine aJ tb V [1004] [_,_,.int (cH p xs),_,_] [2] [_] Y ⟨λ_ _ hk Z hl _=>dv (SS V xs f caps Os p (hf) (hk0)) (cO Tryz.func258) Y (nm hS hk) (Z) (λ_ ho=>f7 hH hk ho) (aq (hl.D 0 5 Y Y) (aq (hl.D 1 6 Y Y) aN)) (js V Z),U⟩ ?_
 exact aU 0 (hE:=eB (by rw[<-pd]))
theorem TI (s:Sm) (hG:gJ J) (h7:s.kind=7) (hl:s.ac.length+s.proof.length<=100):Fn prog J 248 [.agg (kL s)] (.rd (ai (kT s))):=by
 refine fE Tryz.func248 λS w0 hS hJ0=>?_
 refine tw cc (au tb V [1000] [.ptr (kL s),_] [0] [_] Y ⟨cY hS V,U⟩ ?_)
 refine aL (ao 2 tb Y (sy (.at 1 28) (λh=>HX (k:=7) Jl xS Y (h.get 0 Y) (h7) dz h.x) ?_))
 refine sy (.agg [lS (⟨#[36,112]⟩:BA),lB true,lI (1:Int),lI (200:Int)]) (λh=>HY CO Y (hG _ (h.x.1)) (h.get 0 Y) h.x) ?_
 refine cx Jx V Y Y Y (lb Y) λb1=>ce (b:=b1) (off:=0) (es:=U4) (news:=U4) V hJ0 xS Y Y Y (lb Y) Y (λa w h=>⟨(h.get 0 Y),(h.get 1 Y)⟩) (kw (λh=>fB hS h (m:=0) (s:=3) Y) (aA [0,5] U2 Y (nx (aj tb V [0,1,1000] [_] U3 ?_))))
 refine af (aj tb V [0,1,2,1001] U2 U4 ?_)
 refine cj 3 ?_ ?_<;>intro hb1
 ·refine tw (iJ 9 1 V) (cC (ao 3 tb Y (sy (.rd (ai ([s.ae]))) (λh=>fz bz j7 Y (h.get 0 Y) (aK hS _ h.keep h.x _ aV) (jo V h.x)) ?_)))
  refine fN (f:=dO) (m:=3) (s:=11) ([]:List BA) ([s.ae]) (λ_=>Y) ke V hJ0 Y Y Y (lb Y) Y Y (λa w h=>(h.get 0 Y)) (by first | omega | (simp;done) | (simp;omega)) (by first | omega | (simp;done) | (simp;omega)) λv2=>ao 1 tb Y (aA [0,2,6,7] U4 Y (nx (ln 1 λcr=>?_)))
  refine af (λa w h=>po [] (γ:=Value×Value) (λix'=>([.lit v2,.ptr [lS (⟨#[36,112]⟩:BA),lB true,lI (1:Int),lI (200:Int)],.str (⟨#[36,112]⟩:BA),.rd (ai ([(⟨#[36,112]⟩:BA)])),.any,.ptr [ai s.ac,ai s.proof],.rd (ai s.ac),.any,.any]:List AV).getD ix' .any) (λ_=>true) [(3,λ_=>.ptr [lS (⟨#[36,112]⟩:BA),lB true,lI (1:Int),lI (200:Int)]),(1,λ_=>.ptr (kL s)),(4,λg=>.lit g.2)] (λj' g=>match j' with | 0=>[OB.row v2 9 1 ((([]:List BA)++([s.ae])).map dO)] | 1=>[OB.row g.1 9 1 (((([]:List BA)++([s.ae]))++([(⟨#[36,112]⟩:BA)])).map dO)] | _=>[OB.row g.2 9 1 ((((([]:List BA)++([s.ae]))++([(⟨#[36,112]⟩:BA)]))++s.ac).map dO)]) (λk' g=>match k' with | 0=>g.1 | 1=>g.2 | 2=>g.2 | _=>undef) [4,7,8] 3 ((.slice none 0 0),(.slice none 0 0)) (λ_=>Y) h V cU Y Y Y Y Y Y hsb ⟨oX Y λZ hl=>b9 Y (hl.env 0 4 _ Y Y) Z,oX Y λZ hl=>cd NM Y (hl.env 2 3 _ Y Y) Z,oX Y λZ hl=>bU fh Y (hl.D 1 17 Y Y) Z,oY Y λhk Z hl=>fz bz j7 Y (hl.D 2 18 Y Y) (aK hS _ hk Z _ aV) (jo V Z),bC Y,oX Y λZ hl=>cd NH Y (hl.env 3 1 _ Y Y) Z,oX Y λZ hl=>bU ip Y (hl.D 5 21 Y Y) Z,bC Y,bC Y,U⟩ ⟨?MG,?MH,?MI,U⟩ ⟨.old 2 3 _,.old 3 1 _,.d6 2 8 4 (λ(g:Value×Value)=>g.2) Y Y (λ_=>Y) (λ_ _ Z=>nq (Z.2.1 _ (mo 0 Y))),U⟩ ?Yh)
  case MG=>exact⟨_,Y,Y,Y,Y,λg _ w hk Z hl _=>bD (lw (f:=dO) (([]:List BA)++([s.ae])) ([(⟨#[36,112]⟩:BA)]) (λ_=>rfl) ke V hJ0 Y hk Z (hl.D 0 16 Y Y).lit (hl.D 3 19 Y Y) (by first | omega | (simp;done) | (simp;omega)) (by first | omega | (simp;done) | (simp;omega))) λv w' hp=>⟨(v,g.2),Y,λk' hk'=>absurd hk' (Nat.not_lt_zero _),λ_=>rfl,hp⟩⟩
  case MH=>exact⟨_,Y,Y,Y,Y,λg _ w hk Z hl hs=>bD (lw (f:=dO) ((([]:List BA)++([s.ae]))++([(⟨#[36,112]⟩:BA)])) s.ac (λ_=>rfl) ke V hJ0 Y hk Z (hs 0 4 _ 20 oz Y Y Y) (hl.D 6 22 Y Y) (by first | omega | (simp;done) | (simp;omega)) (by first | omega | (simp;done) | (simp;omega))) λv w' hp=>⟨(g.1,v),Y,λk' hk'=>by rcases k' with _ | _ | _ | k'<;>first | rfl | omega,λ_=>rfl,hp⟩⟩
  case MI=>exact⟨_,Y,Y,Y,Y,λg _ w hk Z _ hs=>bD (rq (.inl Y) (hs 1 7 _ 23 oz Y Y Y) hk Z) λv w' hp=>⟨g,Y,λ_ _=>rfl,λ_=>hp.1,hp.2⟩⟩
  clear a w h
  rintro⟨v3,v4⟩
  dsimp only[List.map]
  refine nx (af (aj tb V [0,1,2,1002] U3 U4 ?_))
  refine cj 3 ?_ ?_<;>intro hb2
  ·refine λa w h=>po [] (γ:=Value×Value) (λix'=>([.lit v4,.rd (ai ([(⟨#[36,61]⟩:BA)])),.any,.ptr [ai s.proof],.rd (ai s.proof),.any,.any]:List AV).getD ix' .any) (λ_=>true) [(3,λ_=>.ptr [lS (⟨#[36,112]⟩:BA),lB true,lI (1:Int),lI (200:Int)]),(4,λg=>.lit g.2)] (λj' g=>match j' with | 0=>[OB.row v4 9 1 ((((([]:List BA)++([s.ae]))++([(⟨#[36,112]⟩:BA)]))++s.ac).map dO)] | 1=>[OB.row g.1 9 1 (((((([]:List BA)++([s.ae]))++([(⟨#[36,112]⟩:BA)]))++s.ac)++([(⟨#[36,61]⟩:BA)])).map dO)] | _=>[OB.row g.2 9 1 ((((((([]:List BA)++([s.ae]))++([(⟨#[36,112]⟩:BA)]))++s.ac)++([(⟨#[36,61]⟩:BA)]))++s.proof).map dO)]) (λk' g=>match k' with | 0=>g.1 | 1=>g.2 | 2=>g.2 | _=>undef) [2,5,6] 3 ((.slice none 0 0),(.slice none 0 0)) (λ_=>Y) h V cU Y Y Y Y Y Y hsb ⟨oX Y λZ hl=>b9 Y (hl.env 2 4 _ Y Y) Z,λ_ O' _=>⟨Y,λ_ _ hk Z _ _=>fz bz j7 Y (Rel.aH (.string { data:= #[36,61] }) (lb Y)) (aK hS _ hk Z _ aV) (jo V Z)⟩,bC Y,oX Y λZ hl=>cd NI Y (hl.env 1 1 _ Y Y) Z,oX Y λZ hl=>bU ip Y (hl.D 3 30 Y Y) Z,bC Y,bC Y,U⟩ ⟨?zn,?MP,?MQ,U⟩ ⟨.old 0 3 _,.d6 2 6 4 (λ(g:Value×Value)=>g.2) Y Y (λ_=>Y) (λ_ _ Z=>nq (Z.2.1 _ (mo 0 Y))),U⟩ ?Rp
   case zn=>exact⟨_,Y,Y,Y,Y,λg _ w hk Z hl _=>bD (lw (f:=dO) (((([]:List BA)++([s.ae]))++([(⟨#[36,112]⟩:BA)]))++s.ac) ([(⟨#[36,61]⟩:BA)]) (λ_=>rfl) ke V hJ0 Y hk Z (hl.D 0 27 Y Y).lit (hl.D 1 28 Y Y) (by first | omega | (simp;done) | (simp;omega)) (by first | omega | (simp;done) | (simp;omega))) λv w' hp=>⟨(v,g.2),Y,λk' hk'=>absurd hk' (Nat.not_lt_zero _),λ_=>rfl,hp⟩⟩
   case MP=>exact⟨_,Y,Y,Y,Y,λg _ w hk Z hl hs=>bD (lw (f:=dO) ((((([]:List BA)++([s.ae]))++([(⟨#[36,112]⟩:BA)]))++s.ac)++([(⟨#[36,61]⟩:BA)])) s.proof (λ_=>rfl) ke V hJ0 Y hk Z (hs 0 2 _ 29 oz Y Y Y) (hl.D 4 31 Y Y) (by first | omega | (simp;done) | (simp;omega)) (by first | omega | (simp;done) | (simp;omega))) λv w' hp=>⟨(g.1,v),Y,λk' hk'=>by rcases k' with _ | _ | _ | k'<;>first | rfl | omega,λ_=>rfl,hp⟩⟩
   case MQ=>exact⟨_,Y,Y,Y,Y,λg _ w hk Z _ hs=>bD (rq (.inl Y) (hs 1 5 _ 32 oz Y Y Y) hk Z) λv w' hp=>⟨g,Y,λ_ _=>rfl,λ_=>hp.1,hp.2⟩⟩
   clear a w h
   rintro⟨v5,v6⟩
   dsimp only[List.map]
   refine nx (af (aj tb V [1,1002] U3 U2 ?_))
   refine cj 1 ?_ ?_<;>intro aD
   ·refine cC (ao 1 tb Y (sy (.rd (ai ([(⟨#[36,46]⟩:BA)]))) (λh=>fz bz j7 Y (Rel.aH (.string { data:= #[36,46] }) (lb Y)) (aK hS _ h.keep h.x _ aV) (jo V h.x)) ?_))
    refine fN (f:=dO) (m:=1) (s:=36) (((((([]:List BA)++([s.ae]))++([(⟨#[36,112]⟩:BA)]))++s.ac)++([(⟨#[36,61]⟩:BA)]))++s.proof) ([(⟨#[36,46]⟩:BA)]) (λ_=>Y) ke V hJ0 Y Y Y (lb Y) Y Y (λa w h=>(h.get 0 Y)) (by first | omega | (simp;done) | (simp;omega)) (by first | omega | (simp;done) | (simp;omega)) λv7=>ao 1 tb Y (aA [0,2] U2 Y (nx (ln 1 λhl2=>?_)))
    refine aj tb V [1001] U2 [_] ?_
    exact tw (λh=>dU hS h (m:=0) (s:=2) Y) (bH 0 (hE:=congrArg (λz=>AV.rd (ai z)) (show((((((([]:List BA)++([s.ae]))++([(⟨#[36,112]⟩:BA)]))++s.ac)++([(⟨#[36,61]⟩:BA)]))++s.proof)++([(⟨#[36,46]⟩:BA)]))=(kT s)from by simp[kT])))
   ·exact False.elim (by simp at aD)
  ·exact False.elim (by simp[h7]at hb2)
 ·exact False.elim (by cases hb1)
end
theorem JB (s:Sm):(kT s).length=s.ac.length+s.proof.length+4:=by simp[kT];omega
theorem SY {J:WP} (V:aR J) (l:List Sm) (hG:gJ J) (h1:l.length=1) (h7:(G l 0).kind=7) (hl:(G l 0).ac.length+(G l 0).proof.length<=100):Fn prog J 220 [.rd (yc l)] (.bF [.rd (ai (if ig (G l 0)then kT (G l 0)else [])),.int (if ig (G l 0)then 0 else 2:Int)]):=by
 refine fE Tryz.func220 λS w0 hS hJ0=>?_
 refine tw cc (ln 0 λcr=>?_)
 refine aj tb V [0] U2 [_] ?_
 refine af (au tb V [0,1002] [_,.int (l.length:Nat),_] [1] U2 Y ⟨aC Ck,U⟩ ?_)
 refine cj 1 ?_ ?_<;>intro hb1
 ·exact False.elim (by rw[h1]at hb1;exact absurd hb1 dz)
 ·refine ak (nx (af (au tb V [0,1001] [_,.bool (l.any (λs'=>!ig s'))] [1] U2 Y ⟨λ_ _ hk Z hl _=>dv (SB V l 246 [] [] (λs'=>!ig s') (λq' hq'=>(SZ V q' hG (by obtain⟨j,hj,rfl⟩:=ej hq';obtain rfl:j=0:=oz;exact h7)).r) ((cO Tryz.func246))) (cO Tryz.func245) Y (aK hS _ hk Z) (Z.1) b8 (aq (hl.D 0 10 Y Y) (aq (np 246) aN)) (jo V Z),U⟩ ?_)))
  refine cj 1 ?_ ?_<;>intro hb2
  ·have e2:ig (G l 0)=false:=by obtain⟨x,Z,hn⟩:=List.any_eq_true.1 hb2;obtain⟨q,hq,rfl⟩:=ej Z;obtain rfl:q=0:=oz;simpa using hn
   refine aj tb V [1000,1001] U2 U2 ?_
   exact tw (λh=>gu h (m:=0) (s:=2) Y) (aX (λa w h=>di (m:=0) (k:=1) Y (dw h) Y Y (congrArg (λz=>AV.rd (ai z)) (show([]:List BA)=(if ig (G l 0)then kT (G l 0)else [])from by first | (rw[e2];rfl) | (rw[ah,if_neg oz,e2];rfl))) (eI (by first | (rw[e2];rfl) | (rw[ah,if_neg oz,e2];rfl)))))
  ·have e2:ig (G l 0)=true:=by have:=List.any_eq_false.1 hb2 (G l 0) (aE oz);simpa using this
   refine ak (nx (aj tb V [0,1000] [_] U2 ?_))
   refine af (au tb V [1,1000,1001,1002] [_,.int (l.length:Nat),_] [1] U4 Y ⟨aC Ck,U⟩ ?_)
   refine ax (tw (iJ 9 1 V) (lpo (ι:=Nat×Value×(List BA)) (λ(k,_,out)=>(k<=l.length)/\(out=if k=0 then []else kT (G l 0))) (λ(_,vo,out)=>[OB.row vo 9 1 (out.map dO)]) (λ(k,vo,_)=>[(14,.int (k:Nat)),(4,.lit vo)]) (λ(k,_,_)=>l.length-k) [1,2,3,0] U2 (0,(.slice none 0 0),([]:List BA)) ⟨aI,Y⟩ ?_))
   rintro⟨k,vo,out⟩ ⟨aQ,ah⟩
   refine aj tb V [0,1,2,3,1000] [_] U5 ?_
   refine cE 4 ?_ ?_<;>intro aD<;>try simp at aD
   ·have e0:k=0:=by omega
    have e1:k=0->out=[]:=λe=>by rw[ah,if_pos e]
    have e5:=JB (G l k)
    refine ak (nx (af (ax (aL (sy (.ptr (kL (G l k))) (λh=>cb (i:=(k:Int)) zr Y (h.get 0 Y) (h.get 2 Y) bK (cl (xs:=l) (k:=k) ay) Y h.x) ?_)))))
    refine ao 1 tb Y (iX (cs:=kL (G l k)) W3 Y Y Y (lb Y) Y Y Y dz (m:=0) Y Y (λa w h=>aK hS _ h.keep h.x _ aV) (λa w h w' hk'=>fo V _ _ hk' h.x) (aA [0,3,4,5,6] U5 Y (nx (aL (ao 2 tb Y (sy (.rd (ai (kT (G l k)))) (λh=>cV (TI V (G l k) (hG) (by rw[e0];exact h7) (by rw[e0];exact hl)) (cO Tryz.func248) Y (aK hS _ h.keep h.x) (h.x.1) (aq (h.get 0 Y) aN) (jo V h.x)) ?_))))))
    refine fN (f:=dO) (m:=2) (s:=18) out (kT (G l k)) (λ_=>Y) ke V hJ0 Y Y Y (lb Y) Y Y (λa w h=>(h.get 0 Y)) (by rw[e1 e0,e5,e0];simp only[List.length_nil];omega) (by rw[e1 e0,e5,e0];simp only[List.length_nil];omega) λv1=>?_
    refine ao 1 tb Y (aA [0,2,6,7,8] U5 Y (nx (ln 1 λhl2=>?_)))
    refine l8 tb V [0,2,3,4,1002] [_,.int ((out++(kT (G l k))).length:Nat),_] [1] U5 Y ⟨λ_ _ _ Z hl _=>kq b7 Y (kI hS Z (mo 0 Y) (hl.D 0 22 Y Y)) Z,U⟩ ?_
    refine cj 4 ?_ ?_<;>intro bd
    ·exact False.elim (by have:=JB (G l k);rw[e0]at this;simp only[length_append,e1 e0,e0,decide_eq_true_eq]at bd;simp at bd;omega)
    ·refine ak (nx (aT tb V [0,1,2,1001] [.int (k+1:Nat),_] [0] U4 Y ⟨aM,U⟩ ?_))
     exact br (k+1,v1,out++(kT (G l k))) [1,2,3,0] ⟨oz,by rw[e1 e0,e0];simp⟩
   ·refine aW (nx (aj tb V [1001,1002] U3 U2 ?_))
    exact tw (λh=>dU hS h (m:=0) (s:=2) Y) (aX (λa w h=>di (m:=0) (k:=1) Y (dw h) Y Y (congrArg (λz=>AV.rd (ai z)) (show out=(if ig (G l 0)then kT (G l 0)else [])from by first | (rw[e2];rfl) | (rw[ah,if_neg oz,e2];rfl))) (eI (by first | (rw[e2];rfl) | (rw[ah,if_neg oz,e2];rfl)))))
theorem NW (s:BA):ig ⟨7,⟨#[120]⟩,[⟨#[120]⟩],[s]⟩=fy s:=by
 have h1:ga ⟨#[120]⟩=true:=by decide+kernel
 have h2:gZ ⟨#[120]⟩=true:=by decide+kernel
 simp[ig,h1,h2]
theorem Tt {J:WP} (V:aR J) (s:BA) (hG:gJ J):Fn prog J 178 [.str s] (.bool (fy s)):=by
 refine fE Tryz.func178 λS w0 hS hJ0=>?_
 refine tw cc (aj tb V [0] [_] [_] ?_)
 refine au tb V [1000,1002,1004,1007,1009,1010] [.rd (ai ([(⟨#[120]⟩:BA)])),_,.rd (ai ([s])),.agg (kL (⟨(7:Int),(⟨#[120]⟩:BA),[(⟨#[120]⟩:BA)],[s]⟩:Sm)),.rd (yc ([(⟨(7:Int),(⟨#[120]⟩:BA),[(⟨#[120]⟩:BA)],[s]⟩:Sm)])),.bF [.rd (ai (if ig (G ([(⟨(7:Int),(⟨#[120]⟩:BA),[(⟨#[120]⟩:BA)],[s]⟩:Sm)]) 0)then kT (G ([(⟨(7:Int),(⟨#[120]⟩:BA),[(⟨#[120]⟩:BA)],[s]⟩:Sm)]) 0)else [])),.int (if ig (G ([(⟨(7:Int),(⟨#[120]⟩:BA),[(⟨#[120]⟩:BA)],[s]⟩:Sm)]) 0)then 0 else 2:Int)],_,_,_,_,_] [0,2,3,4,5] U6 Y ⟨λ_ _ hk Z _ _=>fz bz j7 Y (Rel.aH (.string { data:= #[120] }) (lb Y)) (aK hS _ hk Z _ aV) (jo V Z),λ_ _ hk Z hl _=>fz bz j7 Y (hl.D 1 7 Y Y) (aK hS _ hk Z _ aV) (jo V Z),λa _ _ Z hl _=>gq (us:=[a.eval (.const (.int .i64 7)),a.eval (.const (.string { data:= #[120] })),a.eval (.tmp 6),a.eval (.tmp 8)]) KH Y yz (b6 (Rel.aH (.int .i64 7)) (b6 (Rel.aH (.string { data:= #[120] }) (lb Y)) (b6 (hl.D 0 6 Y Y) (b6 (hl.D 2 8 Y Y) cM)))) Y Z,λ_ _ hk Z hl _=>T2 zr Xx Y Y (hl.D 3 9 Y Y) (aK hS _ hk Z _ aV) (jo V Z),bJ hS V (SY V ([(⟨(7:Int),(⟨#[120]⟩:BA),[(⟨#[120]⟩:BA)],[s]⟩:Sm)]) (hG) (Y) (Y) (lb Y)) (cO Tryz.func220),U⟩ ?_
 refine ln 0 λ_=>?_
 refine ln 1 λ_=>?_
 refine ln 2 λ_=>?_
 refine ln 3 λ_=>?_
 refine aj tb V [1002] U3 [_] ?_
 exact bH 0 (hE:=eB (by rw[<-NW s];simp only[G,List.getD_cons_zero];cases ig ⟨7,⟨#[120]⟩,[⟨#[120]⟩],[s]⟩<;>simp))
end Go.Proofs.YtdfadihhfppjaaaGreatDoor
namespace Go.Proofs.YtdfadihhfppjaaaGreatDoor
open Go.RowKit
theorem TC {J:WP} (V:aR J) (M1 M2:Nat) (M3 M4 M5:Nat) (d:Db)  :fc (ι:= { p':List BA×List BA // ed d=0->p'=(d.bL,d.vars) }) Tryz.prog J 137 [] [.ptr (dq [M1,M2,M3,M4,M5]),.agg (bV d)] [OB.set aB M1 ([]:List BA),OB.set aB M2 ([]:List BA)] (λ_=>.int (ed d)) (λi'=>[OB.set aB M1 (i'.1.1),OB.set aB M2 (i'.1.2)]):=by
 refine ji Tryz.func137 λS w0 R hS hJ0 hH=>?_
 refine g5 (B:=So J S w0 50 (OB.set aB M1 ([]:List BA)::OB.set aB M2 ([]:List BA)::R) [(0,.ptr (dq [M1,M2,M3,M4,M5])),(1,.agg (bV d))]) ?_ λa w h=>h
 refine au tb V [0,1000] [.ptr (bV d),_] [0] U2 Y ⟨cY hS V,U⟩ ?_
 refine af (au tb V [0,1,1001,1002,1003] [_,_,.int (d.bL.length:Nat),_] [2] U5 Y ⟨aC b7,U⟩ ?_)
 refine ln 2 λ_=>?_
 refine ax (lpo (ι:=Nat×(List BA)) (λ(k,cs)=>(k<=d.bL.length)/\(cs=d.bL.take k)/\(∀ j,j<k->gP d j=0)) (λ(_,cs)=>(OB.set aB M1 cs::OB.set aB M2 ([]:List BA)::R)) (λ(k,_)=>[(12,.int (k:Nat))]) (λ(k,_)=>d.bL.length-k) (r5 []) U4 (0,([]:List BA)) ⟨aI,Y,λj hj=>by omega⟩ ?_)
 rintro⟨k,cs⟩ ⟨aQ,ah,bh⟩
 refine aj tb V (r5 [1000]) [_] U6 ?_
 refine cE 5 ?_ ?_<;>intro hb1<;>try simp at hb1
 ·refine ak (nx (af (ax (au tb V (r5 [1002]) [.ptr [lS (G d.bL k)],_,_] [0] U6 Y ⟨bq bz,U⟩ ?_))))
  refine af (au tb V (r6 [1002]) [_,.bool (gZ (G d.bL k)),_] [1] U7 Y ⟨bJ hS V (Bp V (G d.bL k)) (cO Tryz.func170),U⟩ ?_)
  refine cj 6 ?_ ?_<;>intro hb2<;>try simp at hb2
  ·have q2:gP d k=2:=by simp[gP,hb2]
   have e9:ed d=2:=I0 oz bh (by rw[q2];decide) q2
   refine aj tb V [1000] [_] [_] ?_
   exact aX (λa w h=>dx  (m:=0) ⟨(cs,([]:List BA)),by first | (intro h9;rw[e9]at h9;exact absurd h9 dz) | (intro _;rw[pY,bu,cS oz])⟩ Y h Y (eI (e9.symm)))
  ·refine ak (nx (af (au tb V (r6 [1005]) (V5 [.bool (decide ((G d.bL k)∈cs))]) [5] U7 Y ⟨λ_ _ _ Z hl _=>jL (Kd:=aB) (xs:=cs) iT jQ (G d.bL k) Y (aG Z (mo 0 Y)) (hl.D 3 22 Y Y) (hl.D 4 23 Y Y) Z,U⟩ ?_)))
   refine cj 6 ?_ ?_<;>intro aD<;>try simp at aD
   ·have q2:gP d k=6:=by simp[gP,hb2,<-ah,aD]
    have e9:ed d=6:=I0 oz bh (by rw[q2];decide) q2
    refine aj tb V [1000] [_] [_] ?_
    exact aX (λa w h=>dx  (m:=0) ⟨(cs,([]:List BA)),by first | (intro h9;rw[e9]at h9;exact absurd h9 dz) | (intro _;rw[pY,bu,cS oz])⟩ Y h Y (eI (e9.symm)))
   ·refine ak (nx (cC (ao 5 tb Y (sz iT V hJ0 (G d.bL k) Y Y (.inl Y) (λa w h=>⟨(h.get 1 Y),(h.get 0 Y),(Rel.aH (.bool true))⟩) (aA [5,6,7,8,9] U5 Y (nx (aT tb V [0,1,2,3,1001] [.int (k+1:Nat),_] [0] U5 Y ⟨aM,U⟩ ?_)))))))
    exact br (k+1,cX cs (G d.bL k)) (r5 []) ⟨oz,by rw[dF oz,<-ah];simp[cX,aD],cB bh (by simp[gP,hb2,<-ah,aD])⟩
 ·have pY:cs=d.bL:=by rw[ah,cS oz]
  have e1:fZ d.bL.length (gP d)=0:=mP λj hj=>bh j oz
  refine aW (nx (af (au tb V [0,1001,1002,1003] [_,_,.int (d.vars.length:Nat),_] [2] U4 Y ⟨aC b7,U⟩ ?_)))
  refine ln 1 λ_=>?_
  refine ax (lpo (ι:=Nat×(List BA)) (λ(k,vs)=>(k<=d.vars.length)/\(vs=d.vars.take k)/\(∀ j,j<k->iZ d j=0)) (λ(_,vs)=>(OB.set aB M1 cs::OB.set aB M2 vs::R)) (λ(k,_)=>[(34,.int (k:Nat))]) (λ(k,_)=>d.vars.length-k) [0,1,2,3] U3 (0,([]:List BA)) ⟨aI,Y,λj hj=>by omega⟩ ?_)
  rintro⟨k,vs⟩ ⟨fD,bu,i5⟩
  refine aj tb V [0,1,2,3,1000] [_] U5 ?_
  refine cE 4 ?_ ?_<;>intro bd<;>try simp at bd
  ·refine ak (nx (af (ax (au tb V [0,1,2,3,1002] [.ptr [lS (G d.vars k)],_,_] [0] U5 Y ⟨bq bz,U⟩ ?_))))
   refine af (au tb V (r5 [1002]) [_,.bool (gZ (G d.vars k)),_] [1] U6 Y ⟨bJ hS V (Bp V (G d.vars k)) (cO Tryz.func170),U⟩ ?_)
   refine cj 5 ?_ ?_<;>intro bW<;>try simp at bW
   ·have q5:iZ d k=2:=by simp[iZ,bW]
    have e9:ed d=2:=I1 e1 oz i5 (by rw[q5];decide) q5
    refine aj tb V [1000] [_] [_] ?_
    exact aX (λa w h=>dx  (m:=0) ⟨(cs,vs),by first | (intro h9;rw[e9]at h9;exact absurd h9 dz) | (intro _;rw[pY,bu,cS oz])⟩ Y h Y (eI (e9.symm)))
   ·refine ak (nx (af (au tb V (r5 [1002]) [_,_,.bool (decide ((G d.vars k)∈cs)||decide ((G d.vars k)∈vs))] [2] U6 Y ⟨λ_ _ hk Z hl _=>dv (xp V M1 M2 M3 M4 M5 cs vs (G d.vars k)) (cO Tryz.func171) Y (aK hS _ hk Z) (Z.1) (dJ (aG Z (mo 0 Y)) (dJ (aG Z (mo 1 Y)) b8)) (aq (hl.D 0 41 Y Y) (aq (hl.D 1 42 Y Y) aN)) (jo V Z),U⟩ ?_)))
    refine cj 5 ?_ ?_<;>intro eW<;>try simp at eW
    ·have q5:iZ d k=6:=by rw[iZ,if_neg (by simp[bW]),if_pos (by rw[<-bu,<-pY];simpa using eW)]
     have e9:ed d=6:=I1 e1 oz i5 (by rw[q5];decide) q5
     refine aj tb V [1000] [_] [_] ?_
     exact aX (λa w h=>dx  (m:=0) ⟨(cs,vs),by first | (intro h9;rw[e9]at h9;exact absurd h9 dz) | (intro _;rw[pY,bu,cS oz])⟩ Y h Y (eI (e9.symm)))
    ·refine ak (nx (cC (ao 5 tb Y (kw bO (sz iT V hJ0 (G d.vars k) Y Y (.inl Y) (λa w h=>⟨(h.get 1 Y),(h.get 0 Y),(Rel.aH (.bool true))⟩) (aA [5,6,7,8] U4 Y (nx (aT tb V [0,1,2,1001] [.int (k+1:Nat),_] [0] U4 Y ⟨aM,U⟩ ?_))))))))
     exact kw bO (br (k+1,cX vs (G d.vars k)) [0,1,2,3] ⟨oz,by rw[dF oz,<-bu];simp only[cX];rw[if_neg eW.2],cB i5 (by rw[iZ,if_neg (by simp[bW]),if_neg (by rw[<-bu,<-pY];simpa using eW)])⟩)
  ·have e9:ed d=0:=Wf e1 (mP λj hj=>i5 j oz)
   refine aW (nx (aj tb V [1000] [_] [_] ?_))
   exact aX (λa w h=>dx  (m:=0) ⟨(cs,vs),by first | (intro h9;rw[e9]at h9;exact absurd h9 dz) | (intro _;rw[pY,bu,cS oz])⟩ Y h Y (eI (e9.symm)))
theorem Tq {J:WP} (V:aR J) (M1 M2:Nat) (M3 M4:Nat) (M5 L1 T1:Nat) (cs vs fs:List BA) (hm:List (BA×Hy)) (tm:List (BA×BA)) (ls:List BA) (ts:List (BA×BA)) (y:Hy) (dm:Bool)  :cD Tryz.prog J 174 [OB.set aB M1 cs,OB.set aB M2 vs,OB.set aB M3 fs,OB.mH M4 hm,OB.mT M5 tm,OB.set aB L1 ls,OB.mT T1 ts] [.ptr (dq [M1,M2,M3,M4,M5]),.agg [.lit (.map (some L1)),.lit (.map (some T1))],.agg (aP y),.bool dm] (.int (i6 cs vs fs hm tm ls ts y dm)):=by
 refine eV Tryz.func174 λS w0 hS hJ0 hH=>?_
 refine tw cc (au tb V [0,3,1000,1001] [.ptr (dq [L1,T1]),.ptr (aP y),_] [0,1] U4 Y ⟨cY hS V,cY hS V,U⟩ ?_)
 refine af (au tb V [0,2,3,1038] [_,_,.bool (ga y.ae),_,_,_,_,_,_,_,_,_,_,_,_,_,_,_,.int (y.ac.length:Nat),_,_,_,_,_,_,_,_,_,_,.int (y.ac.length:Nat),_,_,_,_,.int (y.ac.length:Nat),_,_,_,_] [2,18,29,34] U4 Y ⟨bJ hS V (Bo V y.ae) (cO Tryz.func172),aC b7,aC b7,aC b7,U⟩ ?_)
 refine cj 3 ?_ ?_<;>intro hb1
 ·replace hb1:ij y dm=true:=hb1
  refine aj tb V [1000] [_] [_] ?_
  exact bH 0 (hE:=eI (by grind[i6]))
 ·replace hb1:ij y dm=false:=hb1
  have rU:=E4 hb1
  refine ak (nx (af (au tb V [0,1,2,1019] (V3 [.bool (decide (y.ae∈cs)||decide (y.ae∈vs)),_,_,_,_,_,_,_,.bool (decide (y.ae∈fs)),_,_,_,_,_,_,.bool (decide (y.ae∈ls)),_]) [3,11,18] U4 Y ⟨λ_ _ hk Z hl _=>dv (xp V M1 M2 M3 M4 M5 cs vs y.ae) (cO Tryz.func171) Y (aK hS _ hk Z) (Z.1) (dJ (dC hH hk Z (mo 0 Y)) (dJ (dC hH hk Z (mo 1 Y)) b8)) (aq (hl.D 0 55 Y Y) (aq (hl.D 2 57 Y Y) aN)) (jo V Z),λ_ _ hk Z hl hc=>jL (Kd:=aB) (xs:=fs) iT jQ y.ae Y (dC hH hk Z (mo 2 Y)) (hl.D 8 63 Y hc) (hl.D 10 65 Y hc) Z,λ_ _ hk Z hl hc=>jL (Kd:=aB) (xs:=ls) iT jQ y.ae Y (dC hH hk Z (mo 5 Y)) (hl.D 15 70 Y hc) (hl.D 17 72 Y hc) Z,U⟩ ?_)))
  refine cj 3 ?_ ?_<;>intro hb2
  ·refine aj tb V [1000] [_] [_] ?_
   exact bH 0 (hE:=eI (by grind[i6]))
  ·refine ak (nx (af (aj tb V [0,1,2,1001] U2 U4 ?_)))
   refine cj 3 ?_ ?_<;>intro aD
   ·refine af (au tb V [0,1,2,1005,1021] (V6 [.ptr [lS (G y.ac 0)],_,.bool (decide ((G y.ac 0)∈cs)),_,_,_,_,_,_,_,_,.ptr [lS (G y.ac 1)],_,.bool (decide ((G y.ac 1)∈vs)),_,_]) [6,8,17,19] U5 Y ⟨bq (k:=0) bz (hk:=by have:=iz hb1 aD;omega),λ_ _ hk Z hl _=>jL (Kd:=aB) (xs:=cs) iT jQ (G y.ac 0) Y (dC hH hk Z (mo 0 Y)) (hl.D 3 80 Y Y) (hl.D 7 84 Y Y) Z,cT (k:=1) bz (hk:=λ(aF:((!(decide ((G y.ac 0)∈cs)))==false)=true)=>by(try simp at aF);have:=iz hb1 aD;omega),λ_ _ hk Z hl hc=>jL (Kd:=aB) (xs:=vs) iT jQ (G y.ac 1) Y (dC hH hk Z (mo 1 Y)) (hl.D 14 91 Y hc) (hl.D 18 95 Y hc) Z,U⟩ ?_)
    refine ln 3 λ_=>?_
    refine cj 4 ?_ ?_<;>intro bd
    ·refine aj tb V [1000] [_] [_] ?_
     exact bH 0 (hE:=eI (by grind[i6]))
    ·refine ak (nx (au tb V [0,2,1010,1011] (V4 [.ptr [lS (G y.ac 1)],_,.bF [.str ((aw ts (G y.ac 1)).getD default),.bool ((aw ts (G y.ac 1)).isSome)],_,_,_,_,_]) [4,6] U4 Y ⟨bq (k:=1) bz (hk:=by have:=iz hb1 aD;omega),λ_ _ hk Z hl _=>mn (Kd:=aB) (f:=(λz':BA=>AV.str z')) (L:=ts) w9 JD (G y.ac 1) Y (dC hH hk Z (mo 6 Y)) (hl.D 1 101 Y Y) (hl.D 5 105 Y Y) Z,U⟩ ?_))
     refine af (au tb V [0,1,2,3,1012,1013] (V6 [.ptr [lS (G y.ac 1)],_,.bF [.str ((aw tm (G y.ac 1)).getD default),.bool ((aw tm (G y.ac 1)).isSome)],_,_,_,_,_]) [6,8] U6 Y ⟨bq (k:=1) bz (hk:=by have:=iz hb1 aD;omega),λ_ _ hk Z hl _=>mn (Kd:=aB) (f:=(λz':BA=>AV.str z')) (L:=tm) w9 JD (G y.ac 1) Y (dC hH hk Z (mo 4 Y)) (hl.D 3 113 Y Y) (hl.D 7 117 Y Y) Z,U⟩ ?_)
     refine au tb V [0,1,3,1019] (V5 [.ptr [lS (G y.ac 0)],_,_,_,_,_,_,_,_,_,.ptr [lS (G y.ac 0)],_,_,_,_]) [5,15] U4 Y ⟨cT (k:=0) bz (hk:=λ(aF:(((aw tm (G y.ac 1)).isSome)==true)=true)=>by(try simp at aF);have:=iz hb1 aD;omega),cT (k:=0) bz (hk:=λ(aF:(((((aw tm (G y.ac 1)).isSome)&& (!decide (((aw tm (G y.ac 1)).getD default)=(G y.ac 0))))==false)&& (((aw ts (G y.ac 1)).isSome)==true))=true)=>by(try simp at aF);have:=iz hb1 aD;omega),U⟩ ?_
     refine cj 3 ?_ ?_<;>intro bW
     ·refine aj tb V [1000] [_] [_] ?_
      exact bH 0 (hE:=eI (by grind[i6]))
     ·refine ak (nx (aj tb V [0,1,1000] [_] U3 ?_))
      refine cj 2 ?_ ?_<;>intro eW
      ·refine aj tb V [1000] [_] [_] ?_
       exact bH 0 (hE:=eI (by grind[i6]))
      ·refine ak (nx (af (af (λa w h=>iF (γ:=Nat) (λix'=>([.ptr (dq [M1,M2,M3,M4,M5]),.ptr (dq [M1,M2,M3,M4,M5]),.ptr (dq [M4,M5]),.lit (.map (some M4)),.ptr (aP y),.str y.ae,.bF [.agg (aP ((aw hm y.ae).getD default)),.bool ((aw hm y.ae).isSome)],.bF [.agg (aP ((aw hm y.ae).getD default)),.bool ((aw hm y.ae).isSome)],.agg (aP ((aw hm y.ae).getD default)),.bool ((aw hm y.ae).isSome),.any,.any,.bool ((aw hm y.ae).isSome)]:List AV).getD ix' .any) (λ_=>true) [(6,λ_=>.ptr (aP y)),(14,λg=>.at g 0),(15,λ_=>.bool ((aw hm y.ae).isSome))] (λj' g=>match j' with | 0=>[] | 1=>[OB.var g [lS (⟨#[]⟩:BA),lB false,ai ([]:List BA)]] | _=>[OB.var g (aP ((aw hm y.ae).getD default))]) (λk' g=>match k' with | 0=>(.pointer (some ⟨g,0,none⟩)) | _=>undef) [10,11] 2 0 (λ_=>Y) h V cU Y Y Y Y Y Y hsb ⟨oX Y λZ hl=>b9 Y (hl.env 0 0 _ Y Y) Z,oX Y λZ hl=>kJ Y (hl.D 0 150 Y Y) Z,oX Y λZ hl=>cd tA Y (hl.D 1 151 Y Y) Z,oX Y λZ hl=>bU ur Y (hl.D 2 152 Y Y) Z,oX Y λZ hl=>cd wl Y (hl.env 1 6 _ Y Y) Z,oX Y λZ hl=>bU fh Y (hl.D 4 154 Y Y) Z,oY Y λhk Z hl=>mn (Kd:=aB) (f:=(λz':Hy=>AV.agg (aP z'))) (L:=hm) uc yt y.ae Y (dC hH hk Z (mo 3 Y)) (hl.D 3 153 Y Y) (hl.D 5 155 Y Y) Z,oX Y λZ hl=>b9 Y (hl.D 6 156 Y Y) Z,oX Y λZ hl=>gt Y (hl.D 7 149 Y Y) Y Z,oX Y λZ hl=>gt Y (hl.D 7 149 Y Y) Y Z,bC Y,bC Y,oX Y λZ hl=>gY Y (hl.D 9 158 Y Y) Z,U⟩ ⟨?Mh,?Mi,U⟩ ⟨.old 1 6 _,.d6 0 10 14 (λg=>(.pointer (some ⟨g,0,none⟩))) Y Y (λ_=>Y) (λ_=>True.intro),.new 12 15 _,U⟩ ?X2))))
       case Mh=>exact⟨_,Y,Y,Y,Y,λg _ w hk Z _ _=>bD (gD kR V Y hk Z) λv w' ⟨g',hv,hp⟩=>⟨g',Y,λk' hk'=>absurd hk' (Nat.not_lt_zero _),λ_=>hv,hp⟩⟩
       case Mi=>exact⟨_,Y,Y,Y,Y,λg _ w hk Z hl hs=>(by obtain⟨eP,hv2,eh⟩:=jw (hl.D 8 157 Y Y);exact bD (iw (S':=S) (off:=0) (news:=U3) (es:=U3) (us:=eP) V hJ0 jx Y hk Z (kt (hs 0 10 _ 14 oz Y Y Y)) (by rw[hv2];rfl) eh (lb Y) Y) λv w' hp=>⟨g,Y,λ_ _=>rfl,λe=>(by cases e),hp⟩)⟩
       clear a w h
       intro b1
       dsimp only[List.map]
       refine kw (λh=>fB hS h (m:=1) (s:=14) Y) (nx (au tb V [1006] (V4 [.bool (k7 ((aw hm y.ae).getD default) y),_,_]) [4] [_] Y ⟨bJ hS V (Hp V ((aw hm y.ae).getD default) y) (cO Tryz.func213),U⟩ ?_))
       refine cj 0 ?_ ?_<;>intro iO
       ·refine aj tb V [1000] [_] [_] ?_
        exact bH 0 (hE:=eI (by grind[i6]))
       ·refine ak (nx (aj tb V [1000] [_] [_] ?_))
        exact bH 0 (hE:=eI (by grind[i6]))
   ·refine au tb V [0,2,1002,1004] (V3 [.int (li cs vs y.ac),_]) [3] U4 Y ⟨λ_ _ hk Z hl _=>dv (Hq V M1 M2 M3 M4 M5 cs vs y.ac) (cO Tryz.func175) Y (aK hS _ hk Z) (Z.1) (dJ (dC hH hk Z (mo 0 Y)) (dJ (dC hH hk Z (mo 1 Y)) b8)) (aq (hl.D 0 142 Y Y) (aq (hl.D 2 144 Y Y) aN)) (jo V Z),U⟩ ?_
    refine ln 2 λ_=>?_
    refine aj tb V [0,1,3,1001] U2 U4 ?_
    refine cj 3 ?_ ?_<;>intro fV
    ·refine aj tb V [1001] U2 [_] ?_
     exact bH 0 (hE:=eI (by grind[i6]))
    ·refine ak (nx (af (af (λa w h=>iF (γ:=Nat) (λix'=>([.ptr (dq [M1,M2,M3,M4,M5]),.ptr (dq [M1,M2,M3,M4,M5]),.ptr (dq [M4,M5]),.lit (.map (some M4)),.ptr (aP y),.str y.ae,.bF [.agg (aP ((aw hm y.ae).getD default)),.bool ((aw hm y.ae).isSome)],.bF [.agg (aP ((aw hm y.ae).getD default)),.bool ((aw hm y.ae).isSome)],.agg (aP ((aw hm y.ae).getD default)),.bool ((aw hm y.ae).isSome),.any,.any,.bool ((aw hm y.ae).isSome)]:List AV).getD ix' .any) (λ_=>true) [(6,λ_=>.ptr (aP y)),(14,λg=>.at g 0),(15,λ_=>.bool ((aw hm y.ae).isSome))] (λj' g=>match j' with | 0=>[] | 1=>[OB.var g [lS (⟨#[]⟩:BA),lB false,ai ([]:List BA)]] | _=>[OB.var g (aP ((aw hm y.ae).getD default))]) (λk' g=>match k' with | 0=>(.pointer (some ⟨g,0,none⟩)) | _=>undef) [10,11] 2 0 (λ_=>Y) h V cU Y Y Y Y Y Y hsb ⟨oX Y λZ hl=>b9 Y (hl.env 0 0 _ Y Y) Z,oX Y λZ hl=>kJ Y (hl.D 0 150 Y Y) Z,oX Y λZ hl=>cd tA Y (hl.D 1 151 Y Y) Z,oX Y λZ hl=>bU ur Y (hl.D 2 152 Y Y) Z,oX Y λZ hl=>cd wl Y (hl.env 1 6 _ Y Y) Z,oX Y λZ hl=>bU fh Y (hl.D 4 154 Y Y) Z,oY Y λhk Z hl=>mn (Kd:=aB) (f:=(λz':Hy=>AV.agg (aP z'))) (L:=hm) uc yt y.ae Y (dC hH hk Z (mo 3 Y)) (hl.D 3 153 Y Y) (hl.D 5 155 Y Y) Z,oX Y λZ hl=>b9 Y (hl.D 6 156 Y Y) Z,oX Y λZ hl=>gt Y (hl.D 7 149 Y Y) Y Z,oX Y λZ hl=>gt Y (hl.D 7 149 Y Y) Y Z,bC Y,bC Y,oX Y λZ hl=>gY Y (hl.D 9 158 Y Y) Z,U⟩ ⟨?Mj,?Mk,U⟩ ⟨.old 1 6 _,.d6 0 10 14 (λg=>(.pointer (some ⟨g,0,none⟩))) Y Y (λ_=>Y) (λ_=>True.intro),.new 12 15 _,U⟩ ?X3))))
     case Mj=>exact⟨_,Y,Y,Y,Y,λg _ w hk Z _ _=>bD (gD kR V Y hk Z) λv w' ⟨g',hv,hp⟩=>⟨g',Y,λk' hk'=>absurd hk' (Nat.not_lt_zero _),λ_=>hv,hp⟩⟩
     case Mk=>exact⟨_,Y,Y,Y,Y,λg _ w hk Z hl hs=>(by obtain⟨eP,hv2,eh⟩:=jw (hl.D 8 157 Y Y);exact bD (iw (S':=S) (off:=0) (news:=U3) (es:=U3) (us:=eP) V hJ0 jx Y hk Z (kt (hs 0 10 _ 14 oz Y Y Y)) (by rw[hv2];rfl) eh (lb Y) Y) λv w' hp=>⟨g,Y,λ_ _=>rfl,λe=>(by cases e),hp⟩)⟩
     clear a w h
     intro b2
     dsimp only[List.map]
     refine kw (λh=>fB hS h (m:=1) (s:=14) Y) (nx (au tb V [1006] (V4 [.bool (k7 ((aw hm y.ae).getD default) y),_,_]) [4] [_] Y ⟨bJ hS V (Hp V ((aw hm y.ae).getD default) y) (cO Tryz.func213),U⟩ ?_))
     refine cj 0 ?_ ?_<;>intro iO
     ·refine aj tb V [1000] [_] [_] ?_
      exact bH 0 (hE:=eI (by grind[i6]))
     ·refine ak (nx (aj tb V [1000] [_] [_] ?_))
      exact bH 0 (hE:=eI (by grind[i6]))
section
variable {J:WP} (V:aR J)
include V
theorem SG (xs ys:List Pr)  :Fn Tryz.prog J 218 [.rd (bM xs),.rd (bM ys)] (.bool (decide (xs=ys))):=by
 refine fE Tryz.func218 λS w0 hS hJ0=>?_
 clear hJ0
 refine ln 0 λ_=>?_
 refine ln 1 λ_=>?_
 refine qs tb V [0,1] [_] U2 ?_
 refine af (aJ tb V [0,1,1004] [_,.int (xs.length:Nat),_,.int (ys.length:Nat),_] [1,3] U3 Y ⟨aC fQ,aC fQ,U⟩ ?_)
 refine cj 2 ?_ ?_<;>intro hb1<;>try simp at hb1
 ·refine qs tb V [1000] [_] [_] ?_
  exact aU 0 (hE:=eB (by first | (have:=ib (xs:=xs) (ys:=ys) oz (λj hj=>sr.1 (ah j oz));simp[this];done) | (symm;rw[decide_eq_false_iff_not];intro e;subst e;simp at aD;done) | (symm;rw[decide_eq_false_iff_not];intro e;subst e;exact hb1 Y)))
 ·refine ak (nx (af (aJ tb V [0,1,1001,1002] [_,.int (xs.length:Nat),_] [1] U4 Y ⟨aC fQ,U⟩ ?_)))
  refine ax (lp (ι:=Nat) (λk=>(k<=xs.length)/\(∀ j,j<k->iq (G xs j) (G ys j)=true)) (λk=>[(13,.int (k:Nat))]) (λk=>xs.length-k) [0,1,2,3] U3 0 ⟨aI,λj hj=>by omega⟩ ?_)
  rintro k ⟨aQ,ah⟩
  refine qs tb V [0,1,2,3,1000] [_] U5 ?_
  refine cE 4 ?_ ?_<;>intro hb2<;>try simp at hb2
  ·refine ak (nx (af (ax (qs tb V [0,1,2,3,1001] U2 U5 ?_))))
   refine aJ tb V [0,1,2,3,1008] [_,_,.ptr (aS (G xs k)),_,_,_,.ptr (aS (G ys k)),_,.bool (!(decide ((G xs k).a=(G ys k).a)&&decide ((G xs k).b=(G ys k).b)))] [2,6,8] U5 Y ⟨bq df,bq df,λ_ _ _ Z hl _=>BE ru Y (hl.D 3 19 Y Y) (hl.D 7 23 Y Y) Z,U⟩ ?_
   refine cj 4 ?_ ?_<;>intro aD<;>try simp at aD
   ·refine qs tb V [1000] [_] [_] ?_
    exact aU 0 (hE:=eB (by first | (have:=ib (xs:=xs) (ys:=ys) oz (λj hj=>sr.1 (ah j oz));simp[this];done) | (symm;rw[decide_eq_false_iff_not];intro e;subst e;simp at aD;done) | (symm;rw[decide_eq_false_iff_not];intro e;subst e;exact hb1 Y)))
   ·refine ak (nx (dK tb V [0,1,2,1001] [.int (k+1:Nat),_] [0] U4 Y ⟨aM,U⟩ ?_))
    exact dM (k+1) [0,1,2,3] ⟨oz,cB ah (by simp[iq,aD])⟩
  ·refine aW (nx (qs tb V [1000] [_] [_] ?_))
   exact aU 0 (hE:=eB (by first | (have:=ib (xs:=xs) (ys:=ys) oz (λj hj=>sr.1 (ah j oz));simp[this];done) | (symm;rw[decide_eq_false_iff_not];intro e;subst e;simp at aD;done) | (symm;rw[decide_eq_false_iff_not];intro e;subst e;exact hb1 Y)))
theorem TB (M1 M2:Nat) (M3 M4 M5:Nat) (vs:List BA) (f:Fr) (h2:f.aa.length<=40) (h3:f.wide.length*32<=140737488351232) (h4:∀ x∈f.aa,x.bn=true->x.ac.length=2):cD Tryz.prog J 176 [OB.set aB M2 vs] [.ptr (dq [M1,M2,M3,M4,M5]),.agg (a8 f)] (.int (iH vs f)):=by
 refine eV Tryz.func176 λS w0 hS hJ0 hH=>?_
 refine tw cc (au tb V [0,1000] [.ptr (a8 f),_] [0] U2 Y ⟨cY hS V,U⟩ ?_)
 refine af (λa w h=>iF (γ:=Nat) (λix'=>([.ptr (dq [M1,M2,M3,M4,M5]),.ptr (dq [M1,M2,M3,M4,M5]),.ptr (dq [M2,M3,M4,M5]),.lit (.map (some M2)),.ptr [bX f.aa,bM f.apart,ai f.ac,bX f.bB,bM f.wide,ai f.proof],.rd (bX f.aa),.ptr [ai f.ac,bX f.bB,bM f.wide,ai f.proof],.rd (ai f.ac),.rd (cu (f.ac::(bS f.aa).map Hy.ac)),.any,.any]:List AV).getD ix' .any) (λ_=>true) [(0,λ_=>.ptr (dq [M1,M2,M3,M4,M5])),(3,λ_=>.ptr (a8 f)),(5,λg=>.lit (.map (some g)))] (λj' g=>match j' with | 0=>[] | _=>[OB.set aB g (dt vs (f.ac::(bS f.aa).map Hy.ac).flatten)]) (λk' g=>match k' with | 0=>(.map (some g)) | 1=>(.map (some g)) | _=>undef) [9,10] 2 0 (λ_=>Y) h V cU Y Y Y Y Y Y hsb ⟨oX Y λZ hl=>b9 Y (hl.env 0 0 _ Y Y) Z,oX Y λZ hl=>kJ Y (hl.D 0 11 Y Y) Z,oX Y λZ hl=>cd NE Y (hl.D 1 12 Y Y) Z,oX Y λZ hl=>bU GP Y (hl.D 2 13 Y Y) Z,oX Y λZ hl=>cd tB Y (hl.env 1 3 _ Y Y) Z,oX Y λZ hl=>bU si Y (hl.D 4 15 Y Y) Z,oX Y λZ hl=>cd NQ Y (hl.env 1 3 _ Y Y) Z,oX Y λZ hl=>bU ip Y (hl.D 6 17 Y Y) Z,oY Y λhk Z hl=>cV (Tj V f.aa f.ac (h2)) (cO Tryz.func216) Y (aK hS _ hk Z) (Z.1) (aq (hl.D 5 16 Y Y) (aq (hl.D 7 18 Y Y) aN)) (jo V Z),bC Y,bC Y,U⟩ ⟨?nM,?pX,U⟩ ⟨.old 0 0 _,.old 1 3 _,.d6 1 10 5 (λg=>(.map (some g))) Y Y (λ_=>Y) (λ_=>True.intro),U⟩ ?ud)
 case nM=>exact⟨_,Y,Y,Y,Y,λ_ _ w hk Z hl _=>bD (pV (O:=[]) (R:=[]) (Tx V M2 vs (f.ac::(bS f.aa).map Hy.ac)) (cO Tryz.func215) Y hS hJ0 (dJ (hH _ (mo 0 Y)) b8) hk Z (aq (hl.D 3 14 Y Y) (aq (hl.D 8 19 Y Y) aN))) λv w' ⟨i,hp,hv⟩=>⟨i,Y,λk' hk'=>absurd hk' (Nat.not_lt_zero _),λ_=>hv.lit,hp⟩⟩
 case pX=>exact⟨_,Y,Y,Y,Y,λg _ w hk Z _ hs=>bD (rq (.inl Y) (hs 0 9 _ 20 oz Y Y Y) hk Z) λv w' hp=>⟨g,Y,λ_ _=>rfl,λ_=>hp.1,hp.2⟩⟩
 clear a w h
 intro z1
 dsimp only[List.map]
 refine nx (aj tb V [0,1,2,1000] [_] U4 ?_)
 refine af (au tb V [0,1,2,3,1001,1002,1003] [_,_,.int (f.aa.length:Nat),_] [2] U7 Y ⟨aC cW,U⟩ ?_)
 refine ln 4 λ_=>?_
 refine ax (lpo (ι:=Nat×Nat) (λ(k,n)=>(k<=f.aa.length)/\(n=(eN (f.aa.take k)).length)/\((f.aa.take k).all (kY (kF vs f))=true)/\(n<=k)) (λ(_,_)=>[OB.set aB z1 (dt vs (f.ac::(bS f.aa).map Hy.ac).flatten)]) (λ(k,n)=>[(24,.int (k:Nat)),(6,.int (n:Nat))]) (λ(k,_)=>f.aa.length-k) [0,1,2,4,5,6,3] U5 (0,0) ⟨aI,Y,Y,aI⟩ ?_)
 rintro⟨k,n⟩ ⟨aQ,ah,bh,ic⟩
 refine aj tb V (r7 [1000]) [_] U8 ?_
 refine cE 7 ?_ ?_<;>intro hb1<;>try simp at hb1
 ·refine ak (nx (af (ax (aL (sy (.ptr (aP (G f.aa k))) (λh=>cb (i:=(k:Int)) cL Y (h.get 3 Y) (h.get 5 Y) bK (cl (xs:=f.aa) (k:=k) ay) Y h.x) ?_)))))
  refine ao 1 tb Y (iX (cs:=aP (G f.aa k)) sJ Y Y Y (lb Y) Y Y Y dz (m:=0) Y Y (λa w h=>aK hS _ h.keep h.x _ aV) (λa w h w' hk'=>fo V _ _ hk' h.x) (aA [0,3,4,5,6,7,8,9] U8 Y (nx (aj tb V (r8 [1001]) U2 U9 ?_))))
  refine cj 8 ?_ ?_<;>intro hb2<;>try simp at hb2
  ·refine af (au tb V [1,2,3,4,5,6,7,1002,1006] (V3 [.ptr [lS (G ((G f.aa k).ac) 1)],_,.bool (decide ((G ((G f.aa k).ac) 1)∈(dt vs (f.ac::(bS f.aa).map Hy.ac).flatten))),_]) [3,5] U9 Y ⟨bq (k:=1) bz (hk:=by have:=h4 _ (aE oz) hb2;omega),λ_ _ _ Z hl _=>jL (Kd:=aB) (xs:=(dt vs (f.ac::(bS f.aa).map Hy.ac).flatten)) iT jQ (G ((G f.aa k).ac) 1) Y (aG Z (mo 0 Y)) (hl.D 0 30 Y Y) (hl.D 4 34 Y Y) Z,U⟩ ?_)
   refine ln 7 λ_=>?_
   refine cj 8 ?_ ?_<;>intro aD
   ·have q3:iH vs f=70:=Vh (uf hb1 (by simp only[kY,hb2,Bool.not_true,Bool.false_or];exact decide_eq_false (jc aD)))
    refine aj tb V [1000] [_] [_] ?_
    exact bH 0 (hE:=eI (q3.symm))
   ·refine ak (nx (aT tb V (r6 [1002]) [_,.int (n+1:Nat),_] [1] U7 Y ⟨aM (h0:=by omega),U⟩ ?_))
    refine nx (aT tb V (r5 [6,1001]) [.int (k+1:Nat),_] [0] U7 Y ⟨aM,U⟩ ?_)
    exact br (k+1,n+1) (r5 [6,5]) ⟨oz,by rw[eN,kW oz,ah];simp[eN,hb2],by rw[rk oz,bh];simp only[kY,hb2,Bool.not_true,Bool.false_or,Bool.true_and];exact decide_eq_true (pk aD),oz⟩
  ·refine ak (nx (aT tb V [1,2,3,4,5,7,1001] [.int (k+1:Nat),_] [0] U7 Y ⟨aM,U⟩ ?_))
   exact br (k+1,n) (r5 [6,5]) ⟨oz,by rw[eN,kW oz,ah];simp[eN,hb2],by rw[rk oz,bh];simp[kY,hb2],oz⟩
 ·have e1:f.aa.all (kY (kF vs f))=true:=by rw[<-cS (xs:=f.aa) oz];exact bh
  have tl:n=(eN f.aa).length:=by rw[ah,cS oz]
  refine aW (nx (af (au tb V [0,1,2,1003] [_,_,.int ((dt vs (f.ac::(bS f.aa).map Hy.ac).flatten).length:Nat),_] [2] U4 Y ⟨λ_ _ _ Z hl _=>Ug WE Y (aG Z (mo 0 Y)) (hl.D 1 41 Y Y) Z,U⟩ ?_)))
  refine cj 3 ?_ ?_<;>intro bd
  ·have Ad:¬ n=(kF vs f).length:=λe=>jc bd (congrArg Int.ofNat e)
   have q3:iH vs f=70:=Vi (by rw[<-tl];exact Ad)
   refine aj tb V [1000] [_] [_] ?_
   exact bH 0 (hE:=eI (q3.symm))
  ·have Ad:n=(kF vs f).length:=Int.ofNat.inj (pk bd)
   refine ak (nx (af (au tb V [0,1,2,1001,1002,1003] [_,_,.int (f.wide.length:Nat),_] [2] U6 Y ⟨aC fQ,U⟩ ?_)))
   refine ln 3 λ_=>?_
   refine ax (lpo (ι:=Nat) (λk=>(k<=f.wide.length)/\(∀ j,j<k->mE vs f.wide j=false)) (λ_=>[OB.set aB z1 (dt vs (f.ac::(bS f.aa).map Hy.ac).flatten)]) (λk=>[(47,.int (k:Nat))]) (λk=>f.wide.length-k) (r6 []) U5 0 ⟨aI,λj hj=>by omega⟩ ?_)
   rintro k ⟨fD,bu⟩
   refine aj tb V (r6 [1000]) [_] U7 ?_
   refine cE 6 ?_ ?_<;>intro bW<;>try simp at bW
   ·refine ak (nx (af (ax (aL (ao 1 tb Y (sy (.ptr (aS (G f.wide k))) (λh=>cb (i:=(k:Int)) df Y (h.get 4 Y) (h.get 6 Y) bK (cl (xs:=f.wide) (k:=k) ay) Y h.x) ?_))))))
    refine ao 1 tb Y (cx nw V Y Y Y (lb Y) λb2=>ao 1 tb Y (ce (b:=b2) (off:=0) (es:=U2) (news:=U2) V hJ0 j6 Y Y Y (lb Y) Y (λa w h=>⟨(h.get 1 Y),(h.get 2 Y)⟩) (kw (λh=>fB hS h (m:=1) (s:=10) Y) (aA [0,1,5,6,7,8,9,10] U8 Y (nx (au tb V [2,3,4,5,6,7,1039] (JV [.bool (decide ((G f.wide k).a∈vs)),_,_,_,_,_,_,_,_,_,.bool (decide ((G f.wide k).b∈vs)),_,_,_,_,_,_,_,_,_,.int ((k:Int)-(1:Int)),.ptr (aS (G f.wide ((k:Int)-(1:Int)).toNat)),_,_,.int (oL (G f.wide ((k:Int)-(1:Int)).toNat) (G f.wide k)),_,_,_]) [12,22,32,33,36] U7 Y ⟨λa _ hk Z hl hc=>jL (Kd:=aB) (xs:=vs) iT jQ ((G f.wide k).a) Y (dC hH hk Z (mo 0 Y)) (hl.D 9 61 Y hc) (hl.D 11 63 Y hc) Z,λ_ _ hk Z hl hc=>jL (Kd:=aB) (xs:=vs) iT jQ ((G f.wide k).b) Y (dC hH hk Z (mo 0 Y)) (hl.D 19 71 Y hc) (hl.D 21 73 Y hc) Z,λa _ _ Z hl hc=>BH (i:=(k:Int)) (j:=(1:Int)) Y (hl.D 31 83 Y hc) (Rel.aH (.int .i64 1)) (by have aF:(((((!Op.bytesLess ((G f.wide k).a).toList ((G f.wide k).b).toList)|| (!(decide ((G f.wide k).a∈vs))))|| (!(decide ((G f.wide k).b∈vs))))==false)&& ((decide ((0:Int)< (k:Int)))==true))=true:=hc;(try simp at aF);(first | omega | (simp;omega) | grind[aE])) (by have aF:(((((!Op.bytesLess ((G f.wide k).a).toList ((G f.wide k).b).toList)|| (!(decide ((G f.wide k).a∈vs))))|| (!(decide ((G f.wide k).b∈vs))))==false)&& ((decide ((0:Int)< (k:Int)))==true))=true:=hc;(try simp at aF);(first | omega | (simp;omega) | grind[aE])) Z,λa _ _ Z hl hc=>cb (i:=(k:Int)-(1:Int)) df Y (hl.D 30 82 Y hc) (hl.D 32 84 Y hc) (by have aF:(((((!Op.bytesLess ((G f.wide k).a).toList ((G f.wide k).b).toList)|| (!(decide ((G f.wide k).a∈vs))))|| (!(decide ((G f.wide k).b∈vs))))==false)&& ((decide ((0:Int)< (k:Int)))==true))=true:=hc;(try simp at aF);(first | omega | (simp;omega) | grind[aE])) (ol (xs:=f.wide) (i:=(k:Int)-(1:Int)) (by have aF:(((((!Op.bytesLess ((G f.wide k).a).toList ((G f.wide k).b).toList)|| (!(decide ((G f.wide k).a∈vs))))|| (!(decide ((G f.wide k).b∈vs))))==false)&& ((decide ((0:Int)< (k:Int)))==true))=true:=hc;(try simp at aF);(first | omega | (simp;omega) | grind[aE])) (by have aF:(((((!Op.bytesLess ((G f.wide k).a).toList ((G f.wide k).b).toList)|| (!(decide ((G f.wide k).a∈vs))))|| (!(decide ((G f.wide k).b∈vs))))==false)&& ((decide ((0:Int)< (k:Int)))==true))=true:=hc;(try simp at aF);(first | omega | (simp;omega) | grind[aE]))) Y Z,bJ hS V (Tc V (G f.wide ((k:Int)-(1:Int)).toNat) (G f.wide k)) (cO Tryz.func217),U⟩ ?_))))))
    refine cj 6 ?_ ?_<;>intro eW
    ·have q3:iH vs f=70:=Vk bW eW
     refine aj tb V [1000] [_] [_] ?_
     exact bH 0 (hE:=eI (q3.symm))
    ·refine ak (nx (aT tb V (r5 [1001]) [.int (k+1:Nat),_] [0] U6 Y ⟨aM,U⟩ ?_))
     exact br (k+1) (r6 []) ⟨oz,cB bu eW⟩
   ·refine aW (nx (af (au tb V [1001,1005,1007] (V5 [.rd (bM (f.wide.filter (i7 (dt vs (f.ac::(bS f.aa).map Hy.ac).flatten)))),.bool (decide (f.apart=(f.wide.filter (i7 (dt vs (f.ac::(bS f.aa).map Hy.ac).flatten))))),_]) [5,6] U3 Y ⟨λ_ _ hk Z hl _=>dv (TG V z1 (dt vs (f.ac::(bS f.aa).map Hy.ac).flatten) f.wide (h3)) (cO Tryz.func219) Y (aK hS _ hk Z) (Z.1) (dJ (aG Z (mo 0 Y)) b8) (aq (hl.D 2 95 Y Y) (aq (hl.D 4 97 Y Y) aN)) (jo V Z),bJ hS V (SG V f.apart (f.wide.filter (i7 (dt vs (f.ac::(bS f.aa).map Hy.ac).flatten)))) (cO Tryz.func218),U⟩ ?_)))
    refine ln 0 λ_=>?_
    refine ln 1 λ_=>?_
    refine cj 2 ?_ ?_<;>intro fV
    ·have q3:iH vs f=70:=Vg (jc fV)
     refine aj tb V [1000] [_] [_] ?_
     exact bH 0 (hE:=eI (q3.symm))
    ·have q3:iH vs f=0:=Vj e1 (by rw[<-tl];exact Ad) (λj hj=>bu j oz) (pk fV)
     refine ak (nx (aj tb V [1000] [_] [_] ?_))
     exact bH 0 (hE:=eI (q3.symm))
theorem Tl (s:BA) (hG:gJ J):Fn Tryz.prog J 177 [.str s] (.bool (!fy s)):=by
 refine fE Tryz.func177 λS w0 hS hJ0=>?_
 clear hJ0
 refine qs tb V [0] [_] [_] ?_
 refine aJ tb V [1003] [_,.bool (fy s),_,_] [1] [_] Y ⟨dh hS V (Tt V s (hG)) (cO Tryz.func178),U⟩ ?_
 exact aU 0 (hE:=eB (by first | rfl | grind[aE]))
theorem Tm (M1 M2:Nat) (M3 M4 M5:Nat) (hm:List (BA×Hy)) (y:Hy)  :cD Tryz.prog J 180 [OB.mH M4 hm] [.agg (aP y),.ptr [.ptr (dq [M1,M2,M3,M4,M5])]] (.bool ((aw hm y.ae).isSome)):=by
 refine eV Tryz.func180 λS w0 hS hJ0 hH=>?_
 refine tw cc (au tb V [1,1000] [.ptr (aP y),_] [0] U2 Y ⟨cY hS V,U⟩ ?_)
 refine af (λa w h=>iF (γ:=Nat) (λix'=>([.ptr (dq [M1,M2,M3,M4,M5]),.ptr (dq [M1,M2,M3,M4,M5]),.ptr (dq [M4,M5]),.lit (.map (some M4)),.ptr (aP y),.str y.ae,.bF [.agg (aP ((aw hm y.ae).getD default)),.bool ((aw hm y.ae).isSome)],.bF [.agg (aP ((aw hm y.ae).getD default)),.bool ((aw hm y.ae).isSome)],.agg (aP ((aw hm y.ae).getD default)),.bool ((aw hm y.ae).isSome),.any,.any,.bool ((aw hm y.ae).isSome)]:List AV).getD ix' .any) (λ_=>true) [(5,λ_=>.bool ((aw hm y.ae).isSome))] (λj' g=>match j' with | 0=>[] | 1=>[OB.var g [lS (⟨#[]⟩:BA),lB false,ai ([]:List BA)]] | _=>[OB.var g (aP ((aw hm y.ae).getD default))]) (λk' g=>match k' with | 0=>(.pointer (some ⟨g,0,none⟩)) | _=>undef) [10,11] 2 0 (λ_=>Y) h V cU Y Y Y Y Y Y hsb ⟨oX Y λZ hl=>qH uq Y (hl.env 0 1 _ Y Y) Z,oX Y λZ hl=>kJ Y (hl.D 0 7 Y Y) Z,oX Y λZ hl=>cd tA Y (hl.D 1 8 Y Y) Z,oX Y λZ hl=>bU ur Y (hl.D 2 9 Y Y) Z,oX Y λZ hl=>cd wl Y (hl.env 1 2 _ Y Y) Z,oX Y λZ hl=>bU fh Y (hl.D 4 11 Y Y) Z,oY Y λhk Z hl=>mn (Kd:=aB) (f:=(λz':Hy=>AV.agg (aP z'))) (L:=hm) uc yt y.ae Y (dC hH hk Z (mo 0 Y)) (hl.D 3 10 Y Y) (hl.D 5 12 Y Y) Z,oX Y λZ hl=>b9 Y (hl.D 6 13 Y Y) Z,oX Y λZ hl=>gt Y (hl.D 7 6 Y Y) Y Z,oX Y λZ hl=>gt Y (hl.D 7 6 Y Y) Y Z,bC Y,bC Y,oX Y λZ hl=>gY Y (hl.D 9 15 Y Y) Z,U⟩ ⟨?nM,?pX,U⟩ ⟨.new 12 5 _,U⟩ ?ud)
 case nM=>exact⟨_,Y,Y,Y,Y,λg _ w hk Z _ _=>bD (gD kR V Y hk Z) λv w' ⟨g',hv,hp⟩=>⟨g',Y,λk' hk'=>absurd hk' (Nat.not_lt_zero _),λ_=>hv,hp⟩⟩
 case pX=>exact⟨_,Y,Y,Y,Y,λg _ w hk Z hl hs=>(by obtain⟨eP,hv2,eh⟩:=jw (hl.D 8 14 Y Y);exact bD (iw (S':=S) (off:=0) (news:=U3) (es:=U3) (us:=eP) V hJ0 jx Y hk Z (kt (hs 0 10 _ 4 oz Y Y Y)) (by rw[hv2];rfl) eh (lb Y) Y) λv w' hp=>⟨g,Y,λ_ _=>rfl,λe=>(by cases e),hp⟩)⟩
 clear a w h
 intro b1
 dsimp only[List.map]
 refine kw cK (nx (aj tb V [1001] U2 [_] ?_))
 exact bH 0 (hE:=Y)
end
section
variable {J:WP} (V:aR J)
include V
theorem SJ (n:Nat) (b:n*48<=140737488351232):fc (ι:=Value) Tryz.prog J 212 [] [.lit (.slice none 0 0),.int (n:Nat)] [] (λi'=>.lit (i')) (λi'=>[OB.row i' 119 3 (([]:List Hy).map aP)]):=by
 refine ji Tryz.func212 λS w0 R hS hJ0 hH=>?_
 refine g5 (B:=So J S w0 27 (R) [(0,.lit (.slice none 0 0)),(1,.int (n:Nat))]) ?_ λa w h=>h
 refine aj tb V [0,1] [_] U2 ?_
 refine af (aj tb V [0,1,1001] U2 U3 ?_)
 refine cj 2 ?_ ?_<;>intro hb1<;>try simp at hb1
 ·exact False.elim oz
 ·refine ak (nx (af (au tb V [0,1007] [_,_,.int (0:Nat),_,.int (0:Nat),.int (((0:Nat):Int)-((0:Nat):Int)),.int ((n:Int)-((0:Nat):Int)-((0:Nat):Int)),_] [2,4,5,6] U2 Y ⟨λ_ _ _ Z hl _=>HR cW Y (hl.D 1 9 Y Y) Z,λ_ _ _ Z hl _=>H1 cW Y (hl.D 3 11 Y Y) Z,md,md,U⟩ ?_)))
  refine tw (sa 1 Y (congrArg AV.int (show(n:Int)-((0:Nat):Int)-((0:Nat):Int)=(n:Int)from by omega))) (aj tb V [0,1,1001] U2 U3 ?_)
  refine cj 2 ?_ ?_<;>intro hb2<;>try simp at hb2
  ·refine cC (ao 2 tb Y (sy (.int (0:Nat)) (λh=>HR cW Y (h.get 0 Y) h.x) ?_))
   refine sy (.lit (.slice none 0 0)) (λh=>T7 cL Y (h.get 2 Y) (h.get 0 Y) h.x) ?_
   refine ao 1 tb Y (VH (m:=n) nG yi V Y Y Y (lb Y) oz oz oz (λa w h=>⟨(h.get 1 Y),(h.get 0 Y)⟩) λv1=>ao 1 tb Y (sy (.int (0:Nat)) (λh=>H1 cW Y (h.get 0 Y) h.x) ?_))
   refine sy (.lit (dB v1 0)) (λh=>qG (m:=0) cL Y (aG h.x (mo 0 Y)) (by first | rfl | (rw[length_map];exact(Y))) (h.get 2 Y) (h.get 0 Y) h.x) ?_
   refine ao 1 tb Y (aA [0] [_] Y (nx (aj tb V [1001] U2 [_] ?_)))
   exact aX (λa w h=>dx  (m:=0) (dB v1 0) Y h Y Y)
  ·refine ak (nx (aj tb V [1001] U2 [_] ?_))
   exact tw (iJ 119 3 V) (aX (λa w h=>dx  (m:=0) (.slice none 0 0) Y h Y Y))
theorem G2 (ls:List (List Hy)) (b:ls.flatten.length*48<=140737488351232):Fn Tryz.prog J 173 [.rd (AG ls)] (.rd (bX ls.flatten)):=by
 refine fE Tryz.func173 λS w0 hS hJ0=>?_
 refine tw cc (ln 0 λcr=>?_)
 refine aj tb V [0] [_] [_] ?_
 refine aj tb V [0,1000] [_] U2 ?_
 refine af (au tb V [0,1,1000,1001,1002] [_,.int (ls.length:Nat),_] [1] U5 Y ⟨aC Jp,U⟩ ?_)
 refine ax (lpo (ι:=Nat×Nat) (λ(k,z)=>(k<=ls.length)/\(z=(ls.take k).flatten.length)) (λ(_,_)=>[]) (λ(k,z)=>[(11,.int (k:Nat)),(3,.int (z:Nat))]) (λ(k,_)=>ls.length-k) [0,2,3,4,1] U3 (0,0) ⟨aI,by simp⟩ ?_)
 rintro⟨k,z⟩ ⟨aQ,ah⟩
 refine aj tb V (r5 [1000]) [_] U6 ?_
 refine cE 5 ?_ ?_<;>intro hb1<;>try simp at hb1
 ·refine ak (nx (af (ax (au tb V (r5 [1001,1002]) [.ptr [bX (G ls k)],_,_] [0] U7 Y ⟨bq vZ,U⟩ ?_))))
  refine ln 5 λ_=>?_
  refine au tb V [0,1,2,3,1004] [_,_,.int ((G ls k).length:Nat),.int (z+(G ls k).length:Nat),_] [2,3] U5 Y ⟨aC cW,aM (h0:=by have:=wk ls (k+1);rw[dF oz]at this;simp only[List.flatten_append,length_append,flatten_cons,flatten_nil,append_nil]at this;omega),U⟩ ?_
  refine aj tb V (r5 [1001]) U2 U6 ?_
  refine cj 5 ?_ ?_<;>intro hb2<;>try simp at hb2
  ·exact False.elim oz
  ·refine ak (nx (aT tb V [0,1,2,4,1001] [.int (k+1:Nat),_] [0] U5 Y ⟨aM,U⟩ ?_))
   exact br (k+1,z+(G ls k).length) [0,1,2,4,3] ⟨oz,by rw[ah,dF oz];simp⟩
 ·refine aW (nx (aL (ao 1 tb Y (iI (O:=[]) (R:=[]) (SJ V z (by rw[ah];exact Nat.le_trans (Nat.mul_le_mul_right 48 (wk ls k)) b)) (cO Tryz.func212) Y Y Y (lb Y) hS hJ0 b8 (λa w h=>(aq (Rel.aH (.slice none 0 0)) (aq (h.get 0 Y) aN))) λz1=>ao 1 tb Y (aA [0,3] U2 Y (nx (af (au tb V [0,1000,1001,1002] [_,.int (ls.length:Nat),_] [1] U4 Y ⟨aC Jp,U⟩ ?_))))))))
  refine ax (lpo (ι:=Nat×Value×(List Hy)) (λ(k,_,out)=>(k<=ls.length)/\(out=(ls.take k).flatten)) (λ(_,vo,out)=>[OB.row vo 119 3 (out.map aP)]) (λ(k,vo,_)=>[(27,.int (k:Nat)),(6,.lit vo)]) (λ(k,_,_)=>ls.length-k) [1,2,3,0] U2 (0,z1,([]:List Hy)) ⟨aI,by simp⟩ ?_)
  rintro⟨k,vo,out⟩ ⟨fD,bu⟩
  refine aj tb V [0,1,2,3,1000] [_] U5 ?_
  refine cE 4 ?_ ?_<;>intro aD<;>try simp at aD
  ·refine ak (nx (af (ax (au tb V [0,1,2,3,1001,1002] [.ptr [bX (G ls k)],_,_] [0] U6 Y ⟨bq vZ,U⟩ ?_))))
   refine ln 4 λ_=>?_
   refine cC (ao 2 tb Y (fN (f:=aP) (m:=1) (s:=31) out (G ls k) (λ_=>Y) nG V hJ0 Y Y Y (lb Y) Y Y (λa w h=>(h.get 0 Y)) (by have:=wk ls (k+1);rw[dF oz]at this;simp only[List.flatten_append,length_append,flatten_cons,flatten_nil,append_nil]at this;rw[bu];omega) (by have:=wk ls (k+1);rw[dF oz]at this;simp only[List.flatten_append,length_append,flatten_cons,flatten_nil,append_nil]at this;rw[bu];omega) λv2=>ao 1 tb Y (aA [0,4,5,6] U4 Y (nx (aT tb V [0,1,2,1001] [.int (k+1:Nat),_] [0] U4 Y ⟨aM,U⟩ ?_)))))
   exact br (k+1,v2,out++(G ls k)) [1,2,3,0] ⟨oz,by rw[bu,dF oz];simp⟩
  ·refine aW (nx (aj tb V [1001] U2 [_] ?_))
   exact tw (λh=>dU hS h (m:=0) (s:=2) Y) (bH 0 (hE:=congrArg (λz=>AV.rd (bX z)) (show out=ls.flatten from by rw[bu,cS oz])))
theorem SC (M5 T1:Nat) (tm:List (BA×BA)) (ts:List (BA×BA)) (hq:∀ q'∈ts.map (·.1),q'.size<=9223372036854775807):fc (ι:= { q':List (BA×BA) // ∀ k',aw q' k'=if(aw ts k').isSome then aw ts k' else aw tm k' }) Tryz.prog J 181 [] [.lit (.map (some M5)),.lit (.map (some T1))] [OB.mT M5 tm,OB.mT T1 ts] (λ_=>.bF []) (λi'=>[OB.mT M5 (i'.1),OB.mT T1 ts]):=by
 refine ji Tryz.func181 λS w0 R hS hJ0 hH=>?_
 refine g5 (B:=So J S w0 16 (OB.mT M5 tm::OB.mT T1 ts::R) [(0,.lit (.map (some M5))),(1,.lit (.map (some T1)))]) ?_ λa w h=>h
 refine aL (ao 1 tb Y (kw bO (IU (Kd:=aB) (f:=(λz':BA=>AV.str z')) (L:=ts) WF V hJ0 Y Y Y (lb Y) (λa w h=>(h.get 0 Y)) λb1=>aA [0,2] U2 Y (nx (ax (lpo (ι:=(List BA)×(List (BA×BA))) (λ(vis,tn)=>(∀ q',aw tn q'=if q'∈vis then aw ts q' else aw tm q')/\(vis.Nodup)/\(∀ q'∈vis,q'∈ts.map (·.1))) (λ(vis,tn)=>(OB.iter b1 aB (λz':BA=>AV.str z') T1 ts vis::OB.mT M5 tn::R)) (λ(_,_)=>[]) (λ(vis,_)=>ts.length-vis.length) [0,1] U2 (([]:List BA),tm) ⟨λq'=>by simp,by simp,λq' h=>by simp at h⟩ ?_))))))
 rintro⟨vis,tn⟩ ⟨aQ,ah,bh⟩
 refine aL (IQ (Kd:=aB) (f:=(λz':BA=>AV.str z')) (L:=ts) (vis:=vis) (λk' hk'=>hq k' hk') V hJ0 Y Y Y (lb Y) (λa w h=>(h.get 0 Y)) λz2 Ab mW=>sy (.bool z2.1) (λh=>gt Y (h.get 0 Y) Y h.x) (aA [0,2,3] U3 Y (nx (cE 0 (λhb1=>?_) λhb1=>?_))))
 ·refine tw (jr (congrArg (λz'=>OB.iter b1 aB (λz':BA=>AV.str z') T1 ts (z')) (show(if z2.1 then vis++[z2.2]else vis)=(vis++[z2.2])from by rw[hb1];rfl))) (ak (nx (ax (au tb V [1,2,1003,1004] [.bF [.str z2.2,.str ((aw ts z2.2).getD default)],_,_,_,_] [0] U4 Y ⟨λ_ _ _ Z hl _=>HS (Kd:=aB) (f:=(λz':BA=>AV.str z')) (L:=ts) (k:=z2.2) Y (aG Z (mo 0 Y)) (hq z2.2 (by have:=(mW hb1).2;rw[lH]at this;simpa using this)) (hl.env 1 7 _ Y Y) Z,U⟩ ?_))))
  refine cC (ao 3 tb Y (kw bO (B4 (f:=(λz':BA=>AV.str z')) w9 V hJ0 z2.2 ((aw ts z2.2).getD default) Y Y (.inl Y) (λa w h=>⟨(h.get 2 Y),(h.get 1 Y),(h.get 0 Y)⟩) (aA [3,4] U2 Y (kw bO (br (vis++[z2.2],cn tn z2.2 ((aw ts z2.2).getD default)) [0,1] ⟨LT aQ (mW hb1),by rw[List.nodup_append];exact⟨ah,by simp,λx Z y hy e=>by rw[List.mem_singleton.1 hy]at e;subst e;exact(mW hb1).1 Z⟩,λq' hq'=>by rcases List.mem_append.1 hq' with h | h;exact bh q' h;rw[List.mem_singleton.1 h];have:=(mW hb1).2;rw[lH]at this;simpa using this⟩ (hm:=(show ts.length-(vis++[z2.2]).length<ts.length-vis.length from LS ah bh (mW hb1)))))))))
 ·refine tw (jr (congrArg (λz'=>OB.iter b1 aB (λz':BA=>AV.str z') T1 ts (z')) (show(if z2.1 then vis++[z2.2]else vis)=vis from by rw[hb1];rfl))) (aW (kw IX (kw bO (λa w h=>AQ  ⟨tn,by intro k';rw[aQ];by_cases wK:(aw ts k').isSome=true;(rw[if_pos wK,if_pos (Ab hb1 k' wK)]);(rw[if_neg wK];by_cases FH:k'∈vis;(exact absurd (by rw[lH];simpa using bh k' FH) wK);rw[if_neg FH])⟩ Y h Y))))
end
theorem KG:lN Tryz.prog 244 2:=⟨#[.map none,.map none],Y,λi=>(#[(0,1),(1,1)]:Array (Nat×Nat))[i]?,λj hj=>by rcases j with _ | _ | j<;>first | rfl | omega,λparts=>by kernel_rfl⟩
theorem Tk {J:WP} (V:aR J) (M1 M2:Nat) (M3 M4 M5:Nat) (cs vs fs:List BA) (hm:List (BA×Hy)) (tm:List (BA×BA)) (f:Fr) (bf:List Hy) (hw:f.wide.length*32<=140737488351232) (hG:gJ J):fc (ι:= { q':List BA×List (BA×Hy)×List (BA×BA) // gQ cs vs fs hm tm f bf=0->q'.1=cX fs f.ae/\q'.2.1=m7 hm (bI f)/\∀ k',aw q'.2.2 k'=if(aw (iY (bI f)) k').isSome then aw (iY (bI f)) k' else aw tm k' }) Tryz.prog J 138 [] [.ptr (dq [M1,M2,M3,M4,M5]),.agg (a8 f),.rd (bX bf)] [OB.set aB M1 cs,OB.set aB M2 vs,OB.set aB M3 fs,OB.mH M4 hm,OB.mT M5 tm] (λ_=>.int (gQ cs vs fs hm tm f bf)) (λi'=>[OB.set aB M1 cs,OB.set aB M2 vs,OB.set aB M3 (i'.1.1),OB.mH M4 (i'.1.2.1),OB.mT M5 (i'.1.2.2)]):=by
 refine ji Tryz.func138 λS w0 R hS hJ0 hH=>?_
 refine g5 (B:=So J S w0 183 (OB.set aB M1 cs::OB.set aB M2 vs::OB.set aB M3 fs::OB.mH M4 hm::OB.mT M5 tm::R) [(0,.ptr (dq [M1,M2,M3,M4,M5])),(1,.agg (a8 f)),(2,.rd (bX bf))]) ?_ λa w h=>h
 refine ln 2 λ_=>?_
 refine Cd (λa w h=>Oa (h.get 1 Y)) λPF=>?_
 refine au tb V [2,1000,1001] [.ptr [.ptr (dq [M1,M2,M3,M4,M5])],.ptr (a8 f),_] [0,1] U3 Y ⟨λ_ _ hk Z hl _=>xx Y (hl.env 0 0 _ Y Y) (aK hS _ hk Z _ aV) (jo V Z),cY hS V,U⟩ ?_
 refine af (au tb V [0,1,2,1003] [_,_,.bool (ga f.ae),_] [2] U4 Y ⟨bJ hS V (Bo V f.ae) (cO Tryz.func172),U⟩ ?_)
 refine cj 3 ?_ ?_<;>intro hb1
 ·have e9:gQ cs vs fs hm tm f bf=2:=by rw[gQ,if_pos hb1]
  refine aj tb V [1000] [_] [_] ?_
  exact aX (λa w h=>dx  (m:=0) ⟨(fs,hm,tm),by first | (intro h9;rw[e9]at h9;exact absurd h9 (by first | decide | exact nz)) | (intro _;exact⟨Y,by rw[bu,cS oz],λk'=>by rw[pz.2 k',e3]⟩)⟩ Y h Y (eI (e9.symm)))
 ·refine ak (nx (af (af (λa w h=>iF (γ:=Nat) (λix'=>([.ptr (dq [M1,M2,M3,M4,M5]),.ptr (dq [M1,M2,M3,M4,M5]),.ptr (dq [M4,M5]),.lit (.map (some M4)),.ptr (a8 f),.str f.ae,.bF [.agg (aP ((aw hm f.ae).getD default)),.bool ((aw hm f.ae).isSome)],.bF [.agg (aP ((aw hm f.ae).getD default)),.bool ((aw hm f.ae).isSome)],.agg (aP ((aw hm f.ae).getD default)),.bool ((aw hm f.ae).isSome),.any,.any,.bool ((aw hm f.ae).isSome)]:List AV).getD ix' .any) (λ_=>true) [(2,λ_=>.rd (bX bf)),(3,λ_=>.ptr [.ptr (dq [M1,M2,M3,M4,M5])]),(4,λ_=>.ptr (a8 f)),(8,λ_=>.bool ((aw hm f.ae).isSome))] (λj' g=>match j' with | 0=>(OB.set aB M1 cs::OB.set aB M2 vs::OB.set aB M3 fs::OB.mH M4 hm::OB.mT M5 tm::R) | 1=>(OB.var g [lS (⟨#[]⟩:BA),lB false,ai ([]:List BA)]::OB.set aB M1 cs::OB.set aB M2 vs::OB.set aB M3 fs::OB.mH M4 hm::OB.mT M5 tm::R) | _=>(OB.var g (aP ((aw hm f.ae).getD default))::OB.set aB M1 cs::OB.set aB M2 vs::OB.set aB M3 fs::OB.mH M4 hm::OB.mT M5 tm::R)) (λk' g=>match k' with | 0=>(.pointer (some ⟨g,0,none⟩)) | _=>undef) [10,11] 2 0 (λ_=>Y) h V cU Y Y Y Y Y Y hsb ⟨oX Y λZ hl=>qH uq Y (hl.env 1 3 _ Y Y) Z,oX Y λZ hl=>kJ Y (hl.D 0 24 Y Y) Z,oX Y λZ hl=>cd tA Y (hl.D 1 25 Y Y) Z,oX Y λZ hl=>bU ur Y (hl.D 2 26 Y Y) Z,oX Y λZ hl=>cd EC Y (hl.env 2 4 _ Y Y) Z,oX Y λZ hl=>bU fh Y (hl.D 4 28 Y Y) Z,λ_ O' cf=>⟨Y,λ_ _ _ Z hl _=>mn (Kd:=aB) (f:=(λz':Hy=>AV.agg (aP z'))) (L:=hm) uc yt f.ae Y (aG Z (cf _ (mo 3 Y))) (hl.D 3 27 Y Y) (hl.D 5 29 Y Y) Z⟩,oX Y λZ hl=>b9 Y (hl.D 6 30 Y Y) Z,oX Y λZ hl=>gt Y (hl.D 7 23 Y Y) Y Z,oX Y λZ hl=>gt Y (hl.D 7 23 Y Y) Y Z,bC Y,bC Y,oX Y λZ hl=>gY Y (hl.D 9 32 Y Y) Z,U⟩ ⟨?pZ,?tf,U⟩ ⟨.old 0 2 _,.old 1 3 _,.old 2 4 _,.new 12 8 _,U⟩ ?pj))))
  case pZ=>exact⟨_,Y,Y,Y,Y,λg _ w hk Z _ _=>bD (gD kR V Y hk Z) λv w' ⟨g',hv,hp⟩=>⟨g',Y,λk' hk'=>absurd hk' (Nat.not_lt_zero _),λ_=>hv,hp⟩⟩
  case tf=>exact⟨_,Y,Y,Y,Y,λg _ w hk Z hl hs=>(by obtain⟨eP,hv2,eh⟩:=jw (hl.D 8 31 Y Y);exact bD (iw (S':=S) (off:=0) (news:=U3) (es:=U3) (us:=eP) V hJ0 jx Y hk Z (kt (hs 0 10 _ 7 oz Y Y Y)) (by rw[hv2];rfl) eh (lb Y) Y) λv w' hp=>⟨g,Y,λ_ _=>rfl,λe=>(by cases e),hp⟩)⟩
  clear a w h
  intro b1
  dsimp only[List.map]
  refine kw cK (nx (au tb V [0,1,2,1015] (V5 [.bool (decide (f.ae∈cs)||decide (f.ae∈vs)),_,_,_,_,_,_,_,_,.bool (decide (f.ae∈fs)),_]) [5,14] U4 Y ⟨λ_ _ hk Z hl hc=>dv (xp V M1 M2 M3 M4 M5 cs vs f.ae) (cO Tryz.func171) Y (aK hS _ hk Z) (Z.1) (dJ (aG Z (mo 0 Y)) (dJ (aG Z (mo 1 Y)) b8)) (aq (hl.D 2 35 Y hc) (aq (hl.D 4 37 Y hc) aN)) (jo V Z),λ_ _ _ Z hl hc=>jL (Kd:=aB) (xs:=fs) iT jQ f.ae Y (aG Z (mo 2 Y)) (hl.D 11 44 Y hc) (hl.D 13 46 Y hc) Z,U⟩ ?_))
  refine cj 3 ?_ ?_<;>intro hb2
  ·have e9:gQ cs vs fs hm tm f bf=6:=by rw[gQ,if_neg (by rw[hb1];decide),if_pos hb2]
   refine aj tb V [1000] [_] [_] ?_
   exact aX (λa w h=>dx  (m:=0) ⟨(fs,hm,tm),by first | (intro h9;rw[e9]at h9;exact absurd h9 (by first | decide | exact nz)) | (intro _;exact⟨Y,by rw[bu,cS oz],λk'=>by rw[pz.2 k',e3]⟩)⟩ Y h Y (eI (e9.symm)))
  ·refine ak (nx (af (au tb V [0,1,2,1001,1009] [_,_,.int (f.aa.length:Nat),_,_,_,_,.int (f.bB.length:Nat),_,_] [2,7] U5 Y ⟨aC cW,aC cW,U⟩ ?_)))
   refine ln 3 λ_=>?_
   refine cj 4 ?_ ?_<;>intro aD
   ·have e9:gQ cs vs fs hm tm f bf=4:=by rw[gQ,if_neg (by rw[hb1];decide),if_neg (by rw[hb2];decide),if_pos aD]
    refine aj tb V [1000] [_] [_] ?_
    exact aX (λa w h=>dx  (m:=0) ⟨(fs,hm,tm),by first | (intro h9;rw[e9]at h9;exact absurd h9 (by first | decide | exact nz)) | (intro _;exact⟨Y,by rw[bu,cS oz],λk'=>by rw[pz.2 k',e3]⟩)⟩ Y h Y (eI (e9.symm)))
   ·have OM:f.aa.length<=40/\f.bB.length<=40:=by simp at aD;omega
    refine ak (nx (tw du (af (λa w h=>iF (γ:=Unit) (λix'=>([.ptr (dq [M1,M2,M3,M4,M5]),.ptr (dq [M1,M2,M3,M4,M5]),.ptr (dq [M3,M4,M5]),.lit (.map (some M3)),.ptr (a8 f),.str f.ae,.any]:List AV).getD ix' .any) (λ_=>true) [(2,λ_=>.rd (bX bf)),(3,λ_=>.ptr [.ptr (dq [M1,M2,M3,M4,M5])]),(4,λ_=>.ptr (a8 f))] (λj' _=>match j' with | 0=>(OB.set aB M3 fs::OB.set aB M1 cs::OB.set aB M2 vs::OB.mH M4 hm::OB.mT M5 tm::R) | _=>(OB.set aB M3 (cX fs f.ae)::OB.set aB M1 cs::OB.set aB M2 vs::OB.mH M4 hm::OB.mT M5 tm::R)) (λ_ _=>undef) [6] 0 () (λ_=>Y) h V cU Y Y Y Y Y Y hsb ⟨oX Y λZ hl=>qH uq Y (hl.env 1 3 _ Y Y) Z,oX Y λZ hl=>kJ Y (hl.D 0 59 Y Y) Z,oX Y λZ hl=>cd NF Y (hl.D 1 60 Y Y) Z,oX Y λZ hl=>bU GP Y (hl.D 2 61 Y Y) Z,oX Y λZ hl=>cd EC Y (hl.env 2 4 _ Y Y) Z,oX Y λZ hl=>bU fh Y (hl.D 4 63 Y Y) Z,bC Y,U⟩ ⟨?zo,U⟩ ⟨.old 0 2 _,.old 1 3 _,.old 2 4 _,U⟩ ?Rq))))
    case zo=>exact⟨_,Y,Y,Y,Y,λg _ w hk Z hl _=>bD (L0 iT V hJ0 f.ae (.inl Y) hk Z (hl.D 3 62 Y Y) (hl.D 5 64 Y Y) (Rel.aH (.bool true))) λv w' ⟨_,hp⟩=>⟨g,Y,λ_ _=>rfl,λe=>(by cases e),hp⟩⟩
    clear a w h
    intro _
    dsimp only[List.map]
    refine nx (aL (qS aB V Y Y Y (lb Y) λm2=>?_))
    refine qR aB (λz':BA=>AV.str z') V Y Y Y (lb Y) λm3=>?_
    refine sq (.agg [.lit (.map (some m2)),.lit (.map (some m3))]) Y Y (lb Y) (λa _ h=>gq (us:=[a.eval (.tmp 65),a.eval (.tmp 66)]) KG Y yz (b6 (h.get 1 Y) (b6 (h.get 0 Y) cM)) Y h.x) ?_
    refine cx WS V Y Y Y (lb Y) λb4=>?_
    refine ce (b:=b4) (off:=0) (es:=U2) (news:=U2) V hJ0 Vu Y Y Y (lb Y) Y (λa w h=>⟨(h.get 0 Y),(h.get 1 Y)⟩) ?_
    refine kw (λh=>fB hS h (m:=0) (s:=9) Y) (aA [0,4,5,6] U4 Y ?_)
    refine nx (af (af (aT tb V [0,1,2,3,1003,1004,1005,1006,1007] (V4 [.rd (AG ([f.aa,f.bB]:List (List Hy))),.rd (bX (([f.aa,f.bB]:List (List Hy)).flatten)),.int ((([f.aa,f.bB]:List (List Hy)).flatten).length:Nat),_]) [4,5,6] U9 Y ⟨λa _ hk Z hl _=>qF (k:=2) (us:=[a.eval (.tmp 69),a.eval (.tmp 71)]) vZ JG Y yz (b6 (hl.D 1 69 Y Y) (b6 (hl.D 3 71 Y Y) cM)) Y dz dz (aK hS _ hk Z _ aV) (jo V Z),bJ hS V (G2 V ([f.aa,f.bB]:List (List Hy)) (by refine kx ?_;simp;omega)) (cO Tryz.func173),aC cW,U⟩ ?_)))
    refine kw (sa 6 Y (congrArg (λz'=>AV.rd (bX z')) (show(([f.aa,f.bB]:List (List Hy)).flatten)=(bI f)from by simp))) (kw (sa 7 Y (congrArg AV.int (show(((([f.aa,f.bB]:List (List Hy)).flatten).length:Nat):Int)=(((bI f).length:Nat):Int)from by simp))) ?_)
    refine nx (ln 4 λhl3=>?_)
    refine ln 5 λ_=>?_
    refine ln 6 λ_=>?_
    refine ax (lpo (ι:=Nat×(List BA)×(List (BA×BA))) (λ(k,ls,ts)=>(k<=(bI f).length)/\(ls=ng ((bI f).take k))/\(ts=iY ((bI f).take k))/\(∀ j,j<k->lA cs vs fs hm tm f j=0)) (λ(_,ls,ts)=>(OB.mT m3 ts::OB.set aB m2 ls::OB.set aB M3 (cX fs f.ae)::OB.set aB M1 cs::OB.set aB M2 vs::OB.mH M4 hm::OB.mT M5 tm::R)) (λ(k,_,_)=>[(75,.int (k:Nat))]) (λ(k,_,_)=>(bI f).length-k) [0,1,2,3,6,7,8] U6 (0,([]:List BA),([]:List (BA×BA))) ⟨aI,Y,Y,λj hj=>by omega⟩ ?_)
    rintro⟨k,ls,ts⟩ ⟨aQ,ah,bh,ic⟩
    refine aj tb V (r7 [1000]) [_] U8 ?_
    refine cE 7 ?_ ?_<;>intro bd
    ·have hk4:k< (bI f).length:=Int.ofNat_lt.1 (of_decide_eq_true bd)
     refine ak (nx (af (ax (aL (ao 1 tb Y (sy (.ptr (aP (G (bI f) k))) (λh=>cb (i:=(k:Int)) cL Y (h.get 5 Y) (h.get 7 Y) bK (cl (xs:=bI f) (k:=k) ay) Y h.x) ?_))))))
     refine ao 1 tb Y (cx kR V Y Y Y (lb Y) λb5=>?_)
     refine ao 1 tb Y (ce (b:=b5) (off:=0) (es:=U3) (news:=U3) V hJ0 jx Y Y Y (lb Y) Y (λa w h=>⟨(h.get 1 Y),(h.get 2 Y)⟩) ?_)
     refine kw (λh=>fB hS h (m:=1) (s:=11) Y) (aA [0,1,5,6,7,8,9,10,11] U9 Y ?_)
     refine nx (af (au tb V [0,2,3,4,5,6,7,8,1009] (V6 [.int (f.aa.length:Nat),_,.int (i6 cs vs (cX fs f.ae) hm tm ls ts (G (bI f) k) (decide ((f.aa.length:Int)<=(k:Int)))),_]) [6,8] U9 Y ⟨aC cW,λ_ _ hk Z hl _=>dv (Tq V M1 M2 M3 M4 M5 m2 m3 cs vs (cX fs f.ae) hm tm ls ts (G (bI f) k) (decide ((f.aa.length:Int)<=(k:Int)))) (cO Tryz.func174) Y (aK hS _ hk Z) (Z.1) (dJ (aG Z (mo 3 Y)) (dJ (aG Z (mo 4 Y)) (dJ (aG Z (mo 2 Y)) (dJ (aG Z (mo 5 Y)) (dJ (aG Z (mo 6 Y)) (dJ (aG Z (mo 1 Y)) (dJ (aG Z (mo 0 Y)) b8))))))) (aq (hl.D 0 80 Y Y) (aq (hl.D 1 81 Y Y) (aq (hl.D 2 82 Y Y) (aq (hl.D 7 87 Y Y) aN)))) (jo V Z),U⟩ ?_))
     refine aj tb V (r9 [1001]) U2 fp ?_
     refine cj 9 ?_ ?_<;>intro bW
     ·have nz:=jc bW
      have e0:lA cs vs fs hm tm f k=i6 cs vs (cX fs f.ae) hm tm ls ts (G (bI f) k) (decide ((f.aa.length:Int)<=(k:Int))):=by rw[lA,<-ah,<-bh]
      have e5:fZ (bI f).length (lA cs vs fs hm tm f)=lA cs vs fs hm tm f k:=jj oz ic (by rw[e0];exact nz)
      have e9:gQ cs vs fs hm tm f bf=i6 cs vs (cX fs f.ae) hm tm ls ts (G (bI f) k) (decide ((f.aa.length:Int)<=(k:Int))):=by rw[gQ,if_neg (by rw[hb1];decide),if_neg (by rw[hb2];decide),if_neg (by rw[aD];decide),if_pos (by rw[e5,e0];exact bW),e5,e0]
      refine aj tb V [1001] U2 [_] ?_
      refine tw cK (tw cK ?_)
      refine tw ec (tw ec ?_)
      refine tw du (tw ec ?_)
      exact tw ec (aX (λa w h=>dx  (m:=0) ⟨((cX fs f.ae),hm,tm),by first | (intro h9;rw[e9]at h9;exact absurd h9 (by first | decide | exact nz)) | (intro _;exact⟨Y,by rw[bu,cS oz],λk'=>by rw[pz.2 k',e3]⟩)⟩ Y h Y (eI (e9.symm))))
     ·have q5:=pk bW
      have Fg:=FM q5
      refine ak (nx (aL (ao 4 tb Y (kw bO ?_))))
      refine sz iT V hJ0 ((G (bI f) k).ae) Y Y (.inl Y) (λa w h=>⟨(h.get 2 Y),(h.get 0 Y),(Rel.aH (.bool true))⟩) ?_
      refine aA [4,5,6,7,8,9,10,11] U8 Y (nx (aj tb V (r8 [1001]) U2 U9 ?_))
      refine cj 8 ?_ ?_<;>intro eW<;>try simp at eW
      ·refine tw bO (λa w h=>iF (γ:=Unit) (λix'=>([.ptr [.lit (.map (some m3))],.lit (.map (some m3)),.ptr [ai ((G (bI f) k).ac)],.rd (ai ((G (bI f) k).ac)),.ptr [lS (G ((G (bI f) k).ac) 1)],.str (G ((G (bI f) k).ac) 1),.ptr [ai ((G (bI f) k).ac)],.rd (ai ((G (bI f) k).ac)),.ptr [lS (G ((G (bI f) k).ac) 0)],.str (G ((G (bI f) k).ac) 0),.any]:List AV).getD ix' .any) (λ_=>true) [(9,λ_=>.ptr (dq [m2,m3])),(2,λ_=>.rd (bX bf)),(3,λ_=>.ptr [.ptr (dq [M1,M2,M3,M4,M5])]),(4,λ_=>.ptr (a8 f)),(73,λ_=>.rd (bX (bI f))),(74,λ_=>.int ((bI f).length:Nat)),(75,λ_=>.int (k:Nat))] (λj' _=>match j' with | 0=>(OB.mT m3 ts::OB.set aB m2 (cX ls ((G (bI f) k).ae))::OB.set aB M3 (cX fs f.ae)::OB.set aB M1 cs::OB.set aB M2 vs::OB.mH M4 hm::OB.mT M5 tm::R) | _=>(OB.mT m3 (cn ts (G ((G (bI f) k).ac) 1) (G ((G (bI f) k).ac) 0))::OB.set aB m2 (cX ls ((G (bI f) k).ae))::OB.set aB M3 (cX fs f.ae)::OB.set aB M1 cs::OB.set aB M2 vs::OB.mH M4 hm::OB.mT M5 tm::R)) (λ_ _=>undef) [10] 0 () (λ_=>Y) h V cU Y Y Y Y Y Y hsb ⟨oX Y λZ hl=>cd Ez Y (hl.env 1 9 _ Y Y) Z,oX Y λZ hl=>bU Bk Y (hl.D 0 98 Y Y) Z,oX Y λZ hl=>cd lX Y (hl.env 0 11 _ Y Y) Z,oX Y λZ hl=>bU ip Y (hl.D 2 100 Y Y) Z,?_,oX Y λZ hl=>bU fh Y (hl.D 4 102 Y Y) Z,oX Y λZ hl=>cd lX Y (hl.env 0 11 _ Y Y) Z,oX Y λZ hl=>bU ip Y (hl.D 6 104 Y Y) Z,?_,oX Y λZ hl=>bU fh Y (hl.D 8 106 Y Y) Z,bC Y,U⟩ ⟨?Mo,U⟩ ⟨.old 1 9 _,.old 2 2 _,.old 3 3 _,.old 4 4 _,.old 5 73 _,.old 6 74 _,.old 7 75 _,U⟩ ?X6)
       exact oX Y λZ hl=>cb (i:=((1:Nat):Int)) bz Y (hl.D 3 101 Y Y) (Rel.aH (.int .i64 1)) bK (cl (xs:=(G (bI f) k).ac) (k:=1) (by have:=iz Fg eW;omega)) Y Z
       exact oX Y λZ hl=>cb (i:=((0:Nat):Int)) bz Y (hl.D 7 105 Y Y) (Rel.aH (.int .i64 0)) bK (cl (xs:=(G (bI f) k).ac) (k:=0) (by have:=iz Fg eW;omega)) Y Z
       case Mo=>exact⟨_,Y,Y,Y,Y,λg _ w hk Z hl _=>bD (pW (f:=(λz':BA=>AV.str z')) w9 V hJ0 (G ((G (bI f) k).ac) 1) (G ((G (bI f) k).ac) 0) (.inl Y) hk Z (hl.D 1 99 Y Y) (hl.D 5 103 Y Y) (hl.D 9 107 Y Y)) λv w' ⟨_,hp⟩=>⟨g,Y,λ_ _=>rfl,λe=>(by cases e),hp⟩⟩
       clear a w h
       intro _
       dsimp only[List.map]
       refine nx (aT tb V (r6 [1001]) [.int (k+1:Nat),_] [0] U7 Y ⟨aM,U⟩ ?_)
       exact br (k+1,cX ls ((G (bI f) k).ae),cn ts (G ((G (bI f) k).ac) 1) (G ((G (bI f) k).ac) 0)) (r7 []) ⟨oz,by rw[dF oz,AX,<-ah],by rw[dF oz,uO,<-bh,if_pos eW],cB ic (by rw[lA,<-ah,<-bh];exact q5)⟩
      ·refine ak (nx (aT tb V [1,2,3,4,5,6,1001] [.int (k+1:Nat),_] [0] U7 Y ⟨aM,U⟩ ?_))
       refine kw gG (kw gG ?_)
       refine kw gG (kw gG ?_)
       refine kw gG (kw qD ?_)
       exact kw gG (br (k+1,cX ls ((G (bI f) k).ae),ts) (r7 []) ⟨oz,by rw[dF oz,AX,<-ah],by rw[dF oz,uO,<-bh,if_neg (by simp[eW])],cB ic (by rw[lA,<-ah,<-bh];exact q5)⟩)
    ·have hk4:(bI f).length<=k:=by have:=of_decide_eq_false bd;omega
     have e4:fZ (bI f).length (lA cs vs fs hm tm f)=0:=mP λj hj=>ic j oz
     have e3:ts=iY (bI f):=by rw[bh,cS oz]
     have Fj:∀ y∈bI f,∃ dm,ij y dm=false:=λy hy=>by obtain⟨j,hj,rfl⟩:=ej hy;exact⟨_,FM (ic j oz)⟩
     have E2:∀ y∈bI f,y.bn=true->y.ac.length=2:=λy hy hf=>by obtain⟨dm,hd⟩:=Fj y hy;exact iz hd hf
     refine aW (nx (af (au tb V [0,1,2,3,1002,1004] (V3 [.int (li cs vs f.ac),_]) [3] U6 Y ⟨λ_ _ hk Z hl _=>dv (Hq V M1 M2 M3 M4 M5 cs vs f.ac) (cO Tryz.func175) Y (aK hS _ hk Z) (Z.1) (dJ (aG Z (mo 3 Y)) (dJ (aG Z (mo 4 Y)) b8)) (aq (hl.D 0 109 Y Y) (aq (hl.D 2 111 Y Y) aN)) (jo V Z),U⟩ ?_)))
     refine ln 4 λ_=>?_
     refine aj tb V [0,1,2,3,5,1001] U2 U6 ?_
     refine cj 5 ?_ ?_<;>intro fV
     ·have nz:=jc fV
      have e9:gQ cs vs fs hm tm f bf=li cs vs f.ac:=by rw[gQ,if_neg (by rw[hb1];decide),if_neg (by rw[hb2];decide),if_neg (by rw[aD];decide),if_neg (by rw[e4];decide),if_pos fV]
      refine aj tb V [1001] U2 [_] ?_
      refine tw cK (tw cK ?_)
      refine tw ec (tw ec ?_)
      refine tw du (tw ec ?_)
      exact tw ec (aX (λa w h=>dx  (m:=0) ⟨((cX fs f.ae),hm,tm),by first | (intro h9;rw[e9]at h9;exact absurd h9 (by first | decide | exact nz)) | (intro _;exact⟨Y,by rw[bu,cS oz],λk'=>by rw[pz.2 k',e3]⟩)⟩ Y h Y (eI (e9.symm))))
     ·refine ak (nx (af (au tb V [0,1,2,3,1003] [_,_,.int (iH vs f),_] [2] U5 Y ⟨λ_ _ hk Z hl _=>dv (TB V M1 M2 M3 M4 M5 vs f (OM.1) (hw) (λx Z=>E2 x (List.mem_append_left _ Z))) (cO Tryz.func176) Y (aK hS _ hk Z) (Z.1) (dJ (aG Z (mo 4 Y)) b8) (aq (hl.D 0 116 Y Y) (aq (hl.D 1 117 Y Y) aN)) (jo V Z),U⟩ ?_)))
      refine aj tb V (r5 [1001]) U2 U6 ?_
      refine cj 5 ?_ ?_<;>intro iO
      ·have nz:=jc iO
       have e9:gQ cs vs fs hm tm f bf=iH vs f:=by rw[gQ,if_neg (by rw[hb1];decide),if_neg (by rw[hb2];decide),if_neg (by rw[aD];decide),if_neg (by rw[e4];decide),if_neg (by rw[fV];decide),if_pos iO]
       refine aj tb V [1001] U2 [_] ?_
       refine tw cK (tw cK ?_)
       refine tw ec (tw ec ?_)
       refine tw du (tw ec ?_)
       exact tw ec (aX (λa w h=>dx  (m:=0) ⟨((cX fs f.ae),hm,tm),by first | (intro h9;rw[e9]at h9;exact absurd h9 (by first | decide | exact nz)) | (intro _;exact⟨Y,by rw[bu,cS oz],λk'=>by rw[pz.2 k',e3]⟩)⟩ Y h Y (eI (e9.symm))))
      ·refine ak (nx (af (au tb V [0,1,2,3,1001,1019] [_,_,.int (f.proof.length:Nat),_,_,_,_,_,_,_,_,.int (f.proof.length:Nat),_,_,_,_,_,.bool (f.proof.any (λs=>!fy s)),_,_] [2,11,17] U6 Y ⟨aC b7,aC b7,λ_ _ hk Z hl hc=>dv (uv V f.proof 177 [] [] (λs=>!fy s) (λq'=>(Tl V q' hG).r) ((cO Tryz.func177))) (cO Tryz.func135) Y (aK hS _ hk Z) (Z.1) b8 (aq (hl.D 16 138 Y hc) (aq (np 177) aN)) (jo V Z),U⟩ ?_)))
       refine ln 4 λ_=>?_
       refine cj 5 ?_ ?_<;>intro il
       ·have e9:gQ cs vs fs hm tm f bf=2:=by rw[gQ,if_neg (by rw[hb1];decide),if_neg (by rw[hb2];decide),if_neg (by rw[aD];decide),if_neg (by rw[e4];decide),if_neg (by rw[fV];decide),if_neg (by rw[iO];decide),if_pos (show su f=true from il)]
        refine aj tb V [1000] [_] [_] ?_
        refine tw cK (tw cK ?_)
        refine tw ec (tw ec ?_)
        refine tw du (tw ec ?_)
        exact tw ec (aX (λa w h=>dx  (m:=0) ⟨((cX fs f.ae),hm,tm),by first | (intro h9;rw[e9]at h9;exact absurd h9 (by first | decide | exact nz)) | (intro _;exact⟨Y,by rw[bu,cS oz],λk'=>by rw[pz.2 k',e3]⟩)⟩ Y h Y (eI (e9.symm))))
       ·refine ak (nx (au tb V [0,1,2,3,1001,1002] [_,.rd (bX (bS f.aa)),_] [1] U6 Y ⟨bJ hS V (He V f (by refine kx ?_;omega)) (cO Tryz.func139),U⟩ ?_))
        refine ln 4 λ_=>?_
        refine au tb V [0,2,3,1008,1009] (V3 [.int (gC (bf.map Hy.ae) ((bS f.aa).map Hy.ae):Nat),_,.int ((bS f.aa).length:Nat),_,.int ((bS f.aa).length:Nat),.rd (bX ((bS f.aa).drop (gC (bf.map Hy.ae) ((bS f.aa).map Hy.ae)))),_]) [3,5,7,8] U5 Y ⟨bJ hS V (Ta V bf (bS f.aa)) (cO Tryz.func179),aC cW,aC cW,λ_ _ _ Z hl _=>Ul (ys:=(bS f.aa).drop (gC (bf.map Hy.ae) ((bS f.aa).map Hy.ae))) (lo:=gC (bf.map Hy.ae) ((bS f.aa).map Hy.ae)) Y cL (λ_=>Y) Y (hl.D 0 144 Y Y) (hl.D 3 147 Y Y) (hl.D 5 149 Y Y) (hl.D 7 151 Y Y) (by have:=y8 (bf.map Hy.ae) ((bS f.aa).map Hy.ae);simpa using this) Z,U⟩ ?_
        refine ln 3 λ_=>?_
        refine af (au tb V [0,1,2,1002] [_,.fn 180 [.ptr [.ptr (dq [M1,M2,M3,M4,M5])]],.bool (((bS f.aa).drop (gC (bf.map Hy.ae) ((bS f.aa).map Hy.ae))).any (λy=>(aw hm y.ae).isSome))] [1,2] U4 Y ⟨λ_ _ _ Z hl _=>lf (caps:=[(.tmp 3)]) Y (aq (hl.env 1 3 _ Y Y) aN) Z,λ_ _ hk Z hl _=>dv (Sz V ((bS f.aa).drop (gC (bf.map Hy.ae) ((bS f.aa).map Hy.ae))) 180 [.ptr [.ptr (dq [M1,M2,M3,M4,M5])]] [OB.mH M4 hm] (λy=>(aw hm y.ae).isSome) (λq'=>Tm V M1 M2 M3 M4 M5 hm q') ((cO Tryz.func180))) (cO Tryz.func142) Y (aK hS _ hk Z) (Z.1) (dJ (aG Z (mo 5 Y)) b8) (aq (hl.D 0 153 Y Y) (aq (hl.D 1 154 Y Y) aN)) (jo V Z),U⟩ ?_)
        refine cj 3 ?_ ?_<;>intro iA
        ·have e9:gQ cs vs fs hm tm f bf=7:=by rw[gQ,if_neg (by rw[hb1];decide),if_neg (by rw[hb2];decide),if_neg (by rw[aD];decide),if_neg (by rw[e4];decide),if_neg (by rw[fV];decide),if_neg (by rw[iO];decide),if_neg (by rw[show su f=_ from il];decide),if_pos iA]
         refine aj tb V [1000] [_] [_] ?_
         refine tw cK (tw cK ?_)
         refine tw ec (tw ec ?_)
         refine tw du (tw ec ?_)
         exact tw ec (aX (λa w h=>dx  (m:=0) ⟨((cX fs f.ae),hm,tm),by first | (intro h9;rw[e9]at h9;exact absurd h9 (by first | decide | exact nz)) | (intro _;exact⟨Y,by rw[bu,cS oz],λk'=>by rw[pz.2 k',e3]⟩)⟩ Y h Y (eI (e9.symm))))
        ·have e9:gQ cs vs fs hm tm f bf=0:=by rw[gQ,if_neg (by rw[hb1];decide),if_neg (by rw[hb2];decide),if_neg (by rw[aD];decide),if_neg (by rw[e4];decide),if_neg (by rw[fV];decide),if_neg (by rw[iO];decide),if_neg (by rw[show su f=_ from il];decide),if_neg (by rw[iA];decide)]
         refine ak (nx (af (af (aT tb V [0,1,1005,1006,1007] (V4 [.rd (AG ([f.aa,f.bB]:List (List Hy))),.rd (bX (([f.aa,f.bB]:List (List Hy)).flatten)),.int ((([f.aa,f.bB]:List (List Hy)).flatten).length:Nat),_]) [4,5,6] U5 Y ⟨λa _ hk Z hl _=>qF (k:=2) (us:=[a.eval (.tmp 157),a.eval (.tmp 159)]) vZ JG Y yz (b6 (hl.D 1 157 Y Y) (b6 (hl.D 3 159 Y Y) cM)) Y dz dz (aK hS _ hk Z _ aV) (jo V Z),bJ hS V (G2 V ([f.aa,f.bB]:List (List Hy)) (by refine kx ?_;simp;omega)) (cO Tryz.func173),aC cW,U⟩ ?_))))
         refine kw (sa 2 Y (congrArg (λz'=>AV.rd (bX z')) (show(([f.aa,f.bB]:List (List Hy)).flatten)=(bI f)from by simp))) (kw (sa 3 Y (congrArg AV.int (show(((([f.aa,f.bB]:List (List Hy)).flatten).length:Nat):Int)=(((bI f).length:Nat):Int)from by simp))) ?_)
         refine nx (ax (lpo (ι:=Nat×(List (BA×Hy))) (λ(k,hn)=>(k<=(bI f).length)/\(hn=m7 hm ((bI f).take k))) (λ(_,hn)=>(OB.mT m3 ts::OB.set aB m2 ls::OB.set aB M3 (cX fs f.ae)::OB.set aB M1 cs::OB.set aB M2 vs::OB.mH M4 hn::OB.mT M5 tm::R)) (λ(k,_)=>[(163,.int (k:Nat))]) (λ(k,_)=>(bI f).length-k) (r5 []) U4 (0,hm) ⟨aI,Y⟩ ?_))
         rintro⟨k,hn⟩ ⟨fD,bu⟩
         refine aj tb V (r5 [1000]) [_] U6 ?_
         refine cE 5 ?_ ?_<;>intro ly
         ·have hk4:k< (bI f).length:=Int.ofNat_lt.1 (of_decide_eq_true ly)
          refine ak (nx (af (ax (aL (sy (.ptr (aP (G (bI f) k))) (λh=>cb (i:=(k:Int)) cL Y (h.get 2 Y) (h.get 4 Y) bK (cl (xs:=bI f) (k:=k) ay) Y h.x) ?_)))))
          refine ao 1 tb Y (iX (cs:=aP (G (bI f) k)) sJ Y Y Y (lb Y) Y Y Y dz (m:=0) Y Y (λa w h=>aK hS _ h.keep h.x _ aV) (λa w h w' hk'=>fo V _ _ hk' h.x) ?_)
          refine aA [0,3,4,5,6,7] U6 Y (nx (tw qD ?_))
          refine λa w h=>iF (γ:=Unit) (λix'=>([.ptr (dq [M1,M2,M3,M4,M5]),.ptr (dq [M1,M2,M3,M4,M5]),.ptr (dq [M4,M5]),.lit (.map (some M4)),.ptr (aP (G (bI f) k)),.str ((G (bI f) k).ae),.agg (aP (G (bI f) k)),.agg (aP (G (bI f) k)),.any]:List AV).getD ix' .any) (λ_=>true) [(9,λ_=>.ptr (dq [m2,m3])),(3,λ_=>.ptr [.ptr (dq [M1,M2,M3,M4,M5])]),(161,λ_=>.rd (bX (bI f))),(162,λ_=>.int ((bI f).length:Nat)),(163,λ_=>.int (k:Nat))] (λj' _=>match j' with | 0=>(OB.mH M4 hn::OB.mT m3 ts::OB.set aB m2 ls::OB.set aB M3 (cX fs f.ae)::OB.set aB M1 cs::OB.set aB M2 vs::OB.mT M5 tm::R) | _=>(OB.mH M4 (cn hn ((G (bI f) k).ae) (G (bI f) k))::OB.mT m3 ts::OB.set aB m2 ls::OB.set aB M3 (cX fs f.ae)::OB.set aB M1 cs::OB.set aB M2 vs::OB.mT M5 tm::R)) (λ_ _=>undef) [8] 0 () (λ_=>Y) h V cU Y Y Y Y Y Y hsb ⟨oX Y λZ hl=>qH uq Y (hl.env 2 3 _ Y Y) Z,oX Y λZ hl=>kJ Y (hl.D 0 167 Y Y) Z,oX Y λZ hl=>cd tA Y (hl.D 1 168 Y Y) Z,oX Y λZ hl=>bU ur Y (hl.D 2 169 Y Y) Z,oX Y λZ hl=>cd wl Y (hl.env 0 18 _ Y Y) Z,oX Y λZ hl=>bU fh Y (hl.D 4 171 Y Y) Z,oX Y λZ hl=>j4 nF Y (hl.env 0 18 _ Y Y) aV Z,?_,bC Y,U⟩ ⟨?MB,U⟩ ⟨.old 1 9 _,.old 2 3 _,.old 3 161 _,.old 4 162 _,.old 5 163 _,U⟩ ?Yf
          exact oY Y λhk Z hl=>cV (Hd V (G (bI f) k) (by refine BZ ?_;obtain⟨dm,hd⟩:=Fj _ (aE (by omega:k< (bI f).length));have:=OD hd;omega)) (cO Tryz.func113) Y (aK hS _ hk Z) (Z.1) (aq (hl.D 6 173 Y Y) aN) (jo V Z)
          case MB=>exact⟨_,Y,Y,Y,Y,λg _ w hk Z hl _=>bD (pW (f:=(λz':Hy=>AV.agg (aP z'))) uc V hJ0 ((G (bI f) k).ae) (G (bI f) k) (.inl Y) hk Z (hl.D 3 170 Y Y) (hl.D 5 172 Y Y) (hl.D 7 174 Y Y)) λv w' ⟨_,hp⟩=>⟨g,Y,λ_ _=>rfl,λe=>(by cases e),hp⟩⟩
          clear a w h
          intro _
          dsimp only[List.map]
          refine nx (aT tb V [0,1,2,3,1001] [.int (k+1:Nat),_] [0] U5 Y ⟨aM,U⟩ ?_)
          refine kw gG (kw bO ?_)
          refine kw gG (kw gG ?_)
          refine kw gG (kw gG ?_)
          exact kw gG (br (k+1,cn hn ((G (bI f) k).ae) (G (bI f) k)) (r5 []) ⟨oz,by rw[dF oz,Pq,<-bu]⟩)
         ·have hk4:(bI f).length<=k:=by have:=of_decide_eq_false ly;omega
          refine aW (nx (tw gG (af (λa w h=>iF (γ:= { q':List (BA×BA) // ∀ k',aw q' k'=if(aw ts k').isSome then aw ts k' else aw tm k' }) (λix'=>([.ptr (dq [M1,M2,M3,M4,M5]),.ptr (dq [M1,M2,M3,M4,M5]),.ptr [.lit (.map (some M5))],.lit (.map (some M5)),.ptr [.lit (.map (some m3))],.lit (.map (some m3)),.any]:List AV).getD ix' .any) (λ_=>true) [] (λj' g=>match j' with | 0=>(OB.mT M5 tm::OB.mT m3 ts::OB.set aB m2 ls::OB.set aB M3 (cX fs f.ae)::OB.set aB M1 cs::OB.set aB M2 vs::OB.mH M4 hn::R) | _=>(OB.mT M5 g.1::OB.mT m3 ts::OB.set aB m2 ls::OB.set aB M3 (cX fs f.ae)::OB.set aB M1 cs::OB.set aB M2 vs::OB.mH M4 hn::R)) (λk' _=>match k' with | 0=>(.tuple #[]) | _=>undef) [6] 0 ⟨vP tm ts,DN tm ts⟩ (λ_=>Y) h V cU Y Y Y Y Y Y hsb ⟨oX Y λZ hl=>qH uq Y (hl.env 1 3 _ Y Y) Z,oX Y λZ hl=>kJ Y (hl.D 0 176 Y Y) Z,oX Y λZ hl=>cd NG Y (hl.D 1 177 Y Y) Z,oX Y λZ hl=>bU Bk Y (hl.D 2 178 Y Y) Z,oX Y λZ hl=>cd Ez Y (hl.env 0 9 _ Y Y) Z,oX Y λZ hl=>bU Bk Y (hl.D 4 180 Y Y) Z,bC Y,U⟩ ⟨?MC,U⟩ trivial ?Yg))))
          case MC=>exact⟨_,Y,Y,Y,Y,λ_ _ w hk Z hl _=>bD (pV (O:=[OB.mT M5 tm,OB.mT m3 ts]) (R:=(OB.set aB m2 ls::OB.set aB M3 (cX fs f.ae)::OB.set aB M1 cs::OB.set aB M2 vs::OB.mH M4 hn::R)) (SC V M5 m3 tm ts (by rw[e3];exact Wp _ E2 PF)) (cO Tryz.func181) Y hS hJ0 b8 hk Z (aq (hl.D 3 179 Y Y) (aq (hl.D 5 181 Y Y) aN))) λv w' ⟨i,hp,hv⟩=>⟨i,Y,λk' hk'=>absurd hk' (Nat.not_lt_zero _),λ_=>UI hv,hp⟩⟩
          clear a w h
          intro z6
          dsimp only[List.map]
          refine nx (aj tb V [1000] [_] [_] ?_)
          refine tw bO (tw cK ?_)
          refine tw bO (tw cK ?_)
          refine tw ec (tw du ?_)
          refine tw ec (tw ec ?_)
          exact aX (λa w h=>dx  (m:=0) ⟨((cX fs f.ae),hn,z6.1),by first | (intro h9;rw[e9]at h9;exact absurd h9 (by first | decide | exact nz)) | (intro _;exact⟨Y,by rw[bu,cS oz],λk'=>by rw[z6.2 k',e3]⟩)⟩ Y h Y (eI (e9.symm)))
theorem KF:lN Tryz.prog 219 5:=⟨#[.map none,.map none,.map none,.map none,.map none],Y,λi=>(#[(0,1),(1,1),(2,1),(3,1),(4,1)]:Array (Nat×Nat))[i]?,λj hj=>by rcases j with _ | _ | _ | _ | _ | j<;>first | rfl | omega,λparts=>by kernel_rfl⟩
theorem Sl {J:WP} (V:aR J) (d:Db) (hw:∀ f∈d.ab,f.wide.length*32<=140737488351232) (hG:gJ J):Fn Tryz.prog J 112 [.agg (bV d)] (.int (dG d)):=by
 refine fE Tryz.func112 λS w0 hS hJ0=>?_
 refine tw cc (au tb V [1000] [.ptr (bV d),_] [0] [_] Y ⟨cY hS V,U⟩ ?_)
 refine af (au tb V [0,1001,1015] [_,_,.int (d.ab.length:Nat),_,_,_,_,.int (d.bL.length:Nat),_,_,_,_,_,.int (d.vars.length:Nat),_,_] [2,7,13] U3 Y ⟨aC nv,aC b7,aC b7,U⟩ ?_)
 refine ln 1 λ_=>?_
 refine cj 2 ?_ ?_<;>intro hb1
 ·have e9:dG d=8:=by rw[dG,if_pos hb1]
  refine aj tb V [1000] [_] [_] ?_
  exact bH 0 (hE:=eI (e9.symm))
 ·replace hb1:=(Bool.not_eq_true _).mpr hb1
  refine ak (nx (aL (qS aB V Y Y Y (lb Y) λm1=>qS aB V Y Y Y (lb Y) λm2=>qS aB V Y Y Y (lb Y) λm3=>qR aB (λz':Hy=>AV.agg (aP z')) V Y Y Y (lb Y) λm4=>qR aB (λz':BA=>AV.str z') V Y Y Y (lb Y) λm5=>sq (.agg [.lit (.map (some m1)),.lit (.map (some m2)),.lit (.map (some m3)),.lit (.map (some m4)),.lit (.map (some m5))]) Y Y (lb Y) (λa _ h=>gq (us:=[a.eval (.tmp 25),a.eval (.tmp 26),a.eval (.tmp 27),a.eval (.tmp 28),a.eval (.tmp 29)]) KF Y yz (b6 (h.get 4 Y) (b6 (h.get 3 Y) (b6 (h.get 2 Y) (b6 (h.get 1 Y) (b6 (h.get 0 Y) cM))))) Y h.x) (sy (.ptr (dq [m1,m2,m3,m4,m5])) (λh=>fk Y (h.get 0 Y) (aK hS _ h.keep h.x _ aV) (jo V h.x)) ?_))))
  refine ao 1 tb Y (aA [0,8] U2 Y (nx (af (aL (ao 2 tb Y (kw du (kw du (kw du (kw gF (kw ec (iI (O:=[OB.set aB m1 ([]:List BA),OB.set aB m2 ([]:List BA)]) (R:=[OB.mT m5 ([]:List (BA×BA)),OB.mH m4 ([]:List (BA×Hy)),OB.set aB m3 ([]:List BA)]) (TC V m1 m2 m3 m4 m5 d) (cO Tryz.func137) Y Y Y (lb Y) hS hJ0 b8 (λa w h=>(aq (h.get 1 Y) (aq (h.get 0 Y) aN))) λz6=>ao 1 tb Y (aA [0,4,5] U3 Y (nx (aj tb V [0,1,2,1001] U2 U4 ?_))))))))))))))
  refine cj 3 ?_ ?_<;>intro hb2
  ·have e9:dG d=ed d:=by rw[dG,if_neg hb1,if_pos hb2]
   refine aj tb V [1001] U2 [_] ?_
   exact bH 0 (hE:=eI (e9.symm))
  ·have e2:ed d=0:=pk hb2
   have z2:=z6.2 e2
   replace hb2:=(Bool.not_eq_true _).mpr hb2
   refine tw (jr (congrArg (λz'=>OB.set aB m1 (z')) (show z6.1.1=d.bL from by rw[z2]))) (tw (GF (congrArg (λz'=>OB.set aB m2 (z')) (show z6.1.2=d.vars from by rw[z2]))) ?_)
   refine ak (nx (aj tb V [1,2,1000] [_] U3 ?_))
   refine af (au tb V [0,2,1001,1002,1003] [_,_,.int (d.ab.length:Nat),_] [2] U5 Y ⟨aC nv,U⟩ ?_)
   refine ax (tw (λh=>gu h (m:=1) (s:=5) Y) (lpo (ι:=Nat×(List Hy)×(List BA)×(List (BA×Hy))×(List (BA×BA))) (λ(k,bf,fs,hm,tm)=>(k<=d.ab.length)/\(nB d k fs hm tm bf)/\(∀ j,j<k->dI d j=0)) (λ(_,_,fs,hm,tm)=>[OB.set aB m1 d.bL,OB.set aB m2 d.vars,OB.mT m5 tm,OB.mH m4 hm,OB.set aB m3 fs]) (λ(k,bf,_,_,_)=>[(41,.int (k:Nat)),(5,.rd (bX bf))]) (λ(k,_,_,_,_)=>d.ab.length-k) [1,2,3,4,0] U3 (0,[],([]:List BA),([]:List (BA×Hy)),([]:List (BA×BA))) ⟨aI,Qr d,λj hj=>by omega⟩ ?_))
   rintro⟨k,bf,fs,hm,tm⟩ ⟨aQ,ah,bh⟩
   refine aj tb V (r5 [1000]) [_] U6 ?_
   refine ln 4 λ_=>?_
   refine cE 5 ?_ ?_<;>intro aD<;>try simp at aD
   ·refine ak (nx (af (ax (aL (sy (.ptr (a8 (G d.ab k))) (λh=>cb (i:=(k:Int)) fT Y (h.get 1 Y) (h.get 3 Y) bK (cl (xs:=d.ab) (k:=k) ay) Y h.x) ?_)))))
    refine ao 1 tb Y (iX (cs:=a8 (G d.ab k)) yn Y Y Y (lb Y) Y Y Y dz (m:=0) Y Y (λa w h=>aK hS _ h.keep h.x _ aV) (λa w h w' hk'=>fo V _ _ hk' h.x) (aA [0,3,4,5,6,7] U6 Y (nx (af (aL (ao 3 tb Y (kw du (kw gF (kw ec (kw ec (kw ec (iI (O:=[OB.set aB m1 d.bL,OB.set aB m2 d.vars,OB.set aB m3 fs,OB.mH m4 hm,OB.mT m5 tm]) (R:=[]) (Tk V m1 m2 m3 m4 m5 d.bL d.vars fs hm tm (G d.ab k) bf (hw _ (aE oz)) (hG)) (cO Tryz.func138) Y Y Y (lb Y) hS hJ0 b8 (λa w h=>(aq (h.get 2 Y) (aq (h.get 1 Y) (aq (h.get 0 Y) aN)))) λz7=>ao 1 tb Y (aA [0,5,6,7,8,9] U6 Y (nx (aj tb V (r6 [1001]) U2 U7 ?_)))))))))))))))
    refine cj 6 ?_ ?_<;>intro bd
    ·have e4:dI d k≠0:=by rw[<-zT ah oz];exact jc bd
     have e9:dG d=gQ d.bL d.vars fs hm tm (G d.ab k) bf:=by rw[dG,if_neg hb1,if_neg hb2,jj oz bh e4,zT ah oz]
     refine aj tb V [1001] U2 [_] ?_
     exact bH 0 (hE:=eI (e9.symm))
    ·have e4:dI d k=0:=by rw[<-zT ah oz];exact pk bd
     have z4:=z7.2 (pk bd)
     refine ak (nx (aT tb V [2,3,4,5,1001,1002] [_,.rd (bX (bS (G d.ab k).aa)),_] [1] U6 Y ⟨bJ hS V (He V (G d.ab k) (by have:=(tE e4).1;omega)) (cO Tryz.func139),U⟩ ?_))
     refine nx (ln 4 λhl3=>?_)
     refine aT tb V [0,1,2,5,1001] [.int (k+1:Nat),_] [0] U5 Y ⟨aM,U⟩ ?_
     refine kw du (kw gF (kw ec (kw ec (kw ec (br (k+1,(bS (G d.ab k).aa),z7.1.1,z7.1.2.1,z7.1.2.2) [0,1,2,4,3] ⟨oz,by rw[z4.1,z4.2.1];exact Qq ah oz e4 z4.2.2,cB bh e4⟩)))))
   ·have e9:dG d=0:=by rw[dG,if_neg hb1,if_neg hb2];exact mP λj hj=>bh j oz
    refine aW (nx (aj tb V [1000] [_] [_] ?_))
    exact bH 0 (hE:=eI (e9.symm))
end Go.Proofs.YtdfadihhfppjaaaGreatDoor
