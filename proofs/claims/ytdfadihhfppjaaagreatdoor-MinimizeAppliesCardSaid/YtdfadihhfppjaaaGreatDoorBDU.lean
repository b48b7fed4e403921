/-
  Part of the proof that MinimizeApplies returns true. Conditions: none.
-/
import Derived.Test.YtdfadihhfppjaaaGreatDoorBDT
import Derived.Test.YtdfadihhfppjaaaGreatDoorBDO
set_option maxRecDepth 100000
set_option maxHeartbeats 8000000
open List (append_nil flatten_cons flatten_nil length_append length_map length_set)
namespace Go.Proofs
open Go.Shelf
def Tryz.lays106_ren:Go.Shelf.Ren:=⟨fun | 106=>241 | 213=>256 | 265=>263 | n=>n,fun | 9=>9 | 3=>3 | n=>n,fun | n=>n⟩
theorem Tryz.lays106:Go.Proofs.Lays.n106 Tryz.prog Tryz.lays106_ren:= {
 mixed:=by kernel_rfl
 f106:=Tryz.func241.trans (congrArg some (by kernel_rfl))
 f213:=Tryz.func256.trans (congrArg some (by kernel_rfl))
 f265:=Tryz.func263.trans (congrArg some (by kernel_rfl))
 t3:=Tryz.underlying3
 a3:=Tryz.isAgg3
 z3:=Tryz.sizeOf3
 v3:=Tryz.zeroValue3
 t9:=Tryz.underlying9
 a9:=Tryz.isAgg9
 z9:=Tryz.sizeOf9
 v9:=Tryz.zeroValue9 }
open Go.RowKit in
theorem Tryz.strings_Compare (a b:ByteArray) (w:World):
 Calls Tryz.prog 241 #[.string a,.string b] w λe w'=>e= .returned (.int .i64 (Lib.compareBytes a.data.toList b.data.toList))/\w'=w:=Any.strings_Compare Tryz.lays106 a b w
end Go.Proofs
namespace Go.Proofs.YtdfadihhfppjaaaGreatDoor
open Go.Proofs.Tryz (prog)
open Go.RowKit
theorem GD {J:WP} (_:aS J) (x y:BA):Fn prog J 241 [.str x,.str y] (.int (oB x y)):=λS w vs hS hJ0 h=>by
 simp only[bd]at h
 obtain⟨u,_,rfl,h1,u2,_,rfl,h2,rfl⟩:=h
 rw[h1.lit,h2.lit]
 exact Calls.mono (Tryz.strings_Compare x y w) λe w' ⟨he,hw⟩=>⟨_,he,Rel.aG _,hw▸Keeps.refl _ _,hw▸hJ0⟩
section
variable {J:WP} (V:aS J)
include V
theorem Sy (x y:Pr)  :Fn prog J 217 [.agg (aR x),.agg (aR y)] (.int (oC x y)):=by
 refine fE Tryz.func217 λS w0 hS hJ0=>?_
 clear hJ0
 refine aJ tb V [1000,1001] [.ptr (aR x),.ptr (aR y),_] [0,1] U2 Y ⟨ej hS V,ej hS V,U⟩ ?_
 refine af (aJ tb V [0,1,1005] (V4 [.int (oB x.a y.a),_]) [4] U3 Y ⟨dh hS V (GD V (x:=x.a) (y:=y.a) ) (cO Tryz.func241),U⟩ ?_)
 refine qs tb V [0,1,2,1001] U2 U4 ?_
 refine cj 3 ?_ ?_<;>intro hb1<;>try simp at hb1
 ·
  refine qs tb V [1001] U2 [_] ?_
  exact aU 0 (hE:=eI (by grind[oC]))
 ·
  refine aj (nx (aJ tb V [1005] (V4 [.int (oB x.b y.b),_]) [4] [_] Y ⟨dh hS V (GD V (x:=x.b) (y:=y.b) ) (cO Tryz.func241),U⟩ ?_))
  exact aU 0 (hE:=eI (by grind[oC]))
theorem G0 (x y:Hy)  :Fn prog J 213 [.agg (aN x),.agg (aN y)] (.bool (kX x y)):=by
 refine fE Tryz.func213 λS w0 hS hJ0=>?_
 clear hJ0
 refine aJ tb V [1000,1001] [.ptr (aN x),.ptr (aN y),_] [0,1] U2 Y ⟨ej hS V,ej hS V,U⟩ ?_
 refine aJ tb V [1019] (qU [.bool (x.be==y.be),_,_,_,_,_,_,.bool (decide (x.ac=y.ac)),_,_]) [10,17] [_] Y ⟨λ_ _ _ Z hl hc=>Hq IV Y (hl.D 7 12 Y hc) (hl.D 9 14 Y hc) Z,dh hS V (w6 V x.ac y.ac) (cO Tryz.func58),U⟩ ?_
 exact aU 0 (hE:=eB (by first | rfl | grind[aC]))
theorem SF (hs:List Hy) (t:List BA) (b:hs.length<=40):Fn prog J 216 [.rd (bW hs),.rd (ai t)] (.rd (ct (t::(bR hs).map Hy.ac))):=by
 refine fE Tryz.func216 λS w0 hS hJ0=>?_
 refine tw cc (ln 0 λcx=>?_)
 refine ln 1 λ_=>?_
 refine ak tb V [0,1] [_] U2 ?_
 refine aL (ao 1 tb Y (Ip eC qO V Y Y Y (lb Y) (λ_ _ h=>(h.get 0 Y)) λv1=>?_))
 refine ao 1 tb Y (aA [0,3] U2 Y ?_)
 refine nx (af (au tb V [0,1000,1001,1002] [_,.int (hs.length:Nat),_] [1] U4 Y ⟨aD cT,U⟩ ?_))
 refine ax (lpo (ι:=Nat×Value×(List (List BA))) (λ(k,_,out)=>(k<=hs.length)/\(out=t::(bR (hs.take k)).map Hy.ac)/\(out.length<=k+1)) (λ(_,v,out)=>[OB.row v 22 1 (out.map kG)]) (λ(k,v,_)=>[(12,.int (k:Nat)),(5,.lit v)]) (λ(k,_,_)=>hs.length-k) [1,2,3,0] U2 (0,v1,[t]) ⟨aI,by simp[bR],by simp⟩ ?_)
 rintro⟨k,v,out⟩ ⟨aQ,ah,bp⟩
 refine ak tb V [0,1,2,3,1000] [_] U5 ?_
 refine cI 4 ?_ ?_<;>intro hb1<;>try simp at hb1
 ·
  refine aj (nx (af (ax (aL (sy (.ptr (aN (G hs k))) (λh=>cb (i:=(k:Int)) cD Y (h.get 0 Y) (h.get 2 Y) bM (cq (xs:=hs) (k:=k) az) Y h.x) ?_)))))
  refine ao 1 tb Y (iJ (cs:=aN (G hs k)) su Y Y Y (lb Y) Y Y Y dz (m:=0) Y Y (λa w h=>aK hS _ h.keep h.x _ aV) (λa w h w' hk'=>fi V _ _ hk' h.x) ?_)
  refine aA [0,3,4,5,6] U5 Y (nx (ak tb V (r5 [1002]) U3 U6 ?_))
  refine cj 5 ?_ ?_<;>intro hb2<;>try simp at hb2
  ·
   refine cG (ao 3 tb Y (sy (.rd (ct ([(G hs k).ac]))) (λh=>ft eC qO Y (h.get 0 Y) (aK hS _ h.keep h.x _ aV) (jo V h.x)) ?_))
   refine fP (f:=kG) (m:=3) (s:=19) out ([(G hs k).ac]) (λ_=>Y) sD V hJ0 Y Y Y (lb Y) Y Y (λa w h=>(h.get 0 Y)) az az λv2=>?_
   refine ao 1 tb Y (aA [0,2,3,7,8,9] U6 Y ?_)
   refine nx (ln 1 λhl3=>?_)
   refine ln 2 λ_=>?_
   refine aT tb V [0,3,4,1001] [.int (k+1:Nat),_] [0] U4 Y ⟨aM,U⟩ ?_
   exact bq (k+1,v2,out++([(G hs k).ac])) [1,2,3,0] ⟨oz,by rw[bR,kP oz,ah];simp[bR,hb2],by simp;omega⟩
  ·
   refine aj (nx (aT tb V [1,2,4,1001] [.int (k+1:Nat),_] [0] U4 Y ⟨aM,U⟩ ?_))
   exact bq (k+1,v,out) [0,1,3,2] ⟨oz,by rw[bR,kP oz,ah];simp[bR,hb2],oz⟩
 ·
  refine aW (nx (ak tb V [1001] U2 [_] ?_))
  exact tw (λh=>dV hS h (m:=0) (s:=4) Y) (bL 0 (hE:=congrArg (λz=>AV.rd (ct z)) (show out=(t::(bR hs).map Hy.ac)from by rw[ah,cS oz])))
theorem ST (M:Nat) (vs:List BA) (l:List (List BA))  :eX (ι:=Nat) prog J 215 [OB.set aB M vs] [.lit (.map (some M)),.rd (ct l)] [] (λi'=>.lit (.map (some (i')))) (λi'=>[OB.set aB (i') (dl vs l.flatten)]):=by
 refine i7 Tryz.func215 λS w0 R hS hJ0 hH=>?_
 refine gQ (B:=So J S w0 31 (R) [(0,.lit (.map (some M))),(1,.rd (ct l))]) ?_ λa w h=>h
 refine ln 1 λ_=>?_
 refine au tb V [0,1] [.rd (.lit (.map none))] [0] U2 Y ⟨λ_ _ _ Z _ _=>gO Y (Rel.aG (.map none)) Z,U⟩ ?_
 refine aL (qE aB V Y Y Y (lb Y) λm1=>?_)
 refine ao 1 tb Y (aA [0,2,3] U3 Y ?_)
 refine nx (af (au tb V [0,1,1000,1001,1002] [_,.int (l.length:Nat),_] [1] U5 Y ⟨aD sn,U⟩ ?_))
 refine ax (lpo (ι:=Nat×(List BA)) (λ(k,ys)=>(k<=l.length)/\(ys=dl vs (l.take k).flatten)) (λ(_,ys)=>(OB.set aB m1 ys::R)) (λ(k,_)=>[(13,.int (k:Nat))]) (λ(k,_)=>l.length-k) (r5 []) U4 (0,([]:List BA)) ⟨aI,by simp[dl]⟩ ?_)
 rintro⟨k,ys⟩ ⟨aQ,ah⟩
 refine ak tb V (r5 [1000]) [_] U6 ?_
 refine cI 5 ?_ ?_<;>intro hb1<;>try simp at hb1
 ·
  refine aj (nx (af (ax (au tb V (r5 [1001,1002]) [.ptr [ai (G l k)],_,_] [0] U7 Y ⟨bn eC,U⟩ ?_))))
  refine ln 5 λ_=>?_
  refine au tb V (r5 [1000,1001,1002]) [_,.int ((G l k).length:Nat),_] [1] U8 Y ⟨aD b6,U⟩ ?_
  refine ax (lpo (ι:=Nat×(List BA)) (λ(j,zs)=>(j<=(G l k).length)/\(zs=dl vs ((l.take k).flatten++(G l k).take j))) (λ(_,zs)=>(OB.set aB m1 zs::R)) (λ(j,_)=>[(19,.int (j:Nat))]) (λ(j,_)=>(G l k).length-j) (r8 []) U7 (0,ys) ⟨aI,by simp[ah]⟩ ?_)
  rintro⟨j,zs⟩ ⟨fx,bi⟩
  refine ak tb V (r8 [1000]) [_] U9 ?_
  refine cI 8 ?_ ?_<;>intro hb2<;>try simp at hb2
  ·
   refine aj (nx (af (ax (au tb V (r8 [1002]) [.ptr [lS (G (G l k) j)],_,_] [0] U9 Y ⟨bn bx,U⟩ ?_))))
   refine au tb V (r9 [1002]) [_,_,.bool (decide ((G (G l k) j)∈vs))] [2] fw Y ⟨λ_ _ hk Z hl _=>jD (Kd:=aB) (xs:=vs) iD jJ (G (G l k) j) Y (dD hH hk Z (mo 0 Y)) (hl.D 0 23 Y Y) (hl.D 1 24 Y Y) Z,U⟩ ?_
   refine cj 9 ?_ ?_<;>intro aE<;>try simp at aE
   ·
    refine cG (ao 2 tb Y (sf iD V hJ0 (G (G l k) j) Y Y (.inl Y) (λa w h=>⟨(h.get 1 Y),(h.get 0 Y),(Rel.aG (.bool true))⟩) ?_))
    refine aA [2,3,4,5,6,7,8,9] U8 Y (nx (aT tb V (r7 [1001]) [.int (j+1:Nat),_] [0] U8 Y ⟨aM,U⟩ ?_))
    exact bq (j+1,cU zs (G (G l k) j)) (r8 []) ⟨oz,by rw[dG oz,<-List.append_assoc,t6,<-bi];first | (simp[aE,cU];done) | (simp[aE,cU];grind)⟩
   ·
    refine aj (nx (aT tb V (r7 [1001]) [.int (j+1:Nat),_] [0] U8 Y ⟨aM,U⟩ ?_))
    exact bq (j+1,zs) (r8 []) ⟨oz,by rw[dG oz,<-List.append_assoc,t6,<-bi];first | (simp;done) | (simp[aE];done) | (simp;grind)⟩
  ·
   refine aW (nx (aT tb V [0,1,2,3,1001] [.int (k+1:Nat),_] [0] U5 Y ⟨aM,U⟩ ?_))
   exact bq (k+1,zs) (r5 []) ⟨oz,by rw[bi,cS (xs:=G l k) oz,dG oz];simp⟩
 ·
  refine aW (nx (ak tb V [1001] U2 [_] ?_))
  exact tw (ji (congrArg (λz'=>OB.set aB m1 (z')) (show ys=(dl vs l.flatten)from by rw[ah,cS oz]))) (aZ (λa w h=>dt  (m:=0) m1 Y h Y Y))
theorem S4 (M:Nat) (ms:List BA) (p:Pr)  :cM prog J 244 [OB.set aB M ms] [.agg (aR p),.ptr [.lit (.map (some M))]] (.bool (!decide (p.a∈ms)|| !decide (p.b∈ms))):=by
 refine fk Tryz.func244 λS w0 hS hJ0 hH=>?_
 clear hJ0
 refine aJ tb V [1,1000] [.ptr (aR p),_] [0] U2 Y ⟨ej hS V,U⟩ ?_
 refine aJ tb V [1012] (V3 [.bool (decide (p.a∈ms)),_,_,_,_,_,.bool (decide (p.b∈ms)),_,_,_]) [3,9] [_] Y ⟨λa _ hk Z hl _=>jD (Kd:=aB) (xs:=ms) iD jJ p.a Y (gt hH hk (mo 0 Y)) (hl.D 0 4 Y Y) (hl.D 2 6 Y Y) Z,λ_ _ hk Z hl hc=>jD (Kd:=aB) (xs:=ms) iD jJ p.b Y (gt hH hk (mo 0 Y)) (hl.D 6 10 Y hc) (hl.D 8 12 Y hc) Z,U⟩ ?_
 exact aU 0 (hE:=eB (by first | rfl | grind[aC]))
theorem S3 (M:Nat) (ms:List BA) (l:List Pr) (b:l.length*32<=140737488351232):cM prog J 219 [OB.set aB M ms] [.lit (.map (some M)),.rd (bI l)] (.rd (bI (l.filter (iQ ms)))):=by
 refine fk Tryz.func219 λS w0 hS hJ0 hH=>?_
 refine tw cc (ln 1 λcx=>?_)
 refine au tb V [1,1000] [.ptr [.lit (.map (some M))],_] [0] U2 Y ⟨λ_ _ hk Z hl _=>k4 Y (hl.env 0 0 _ Y Y) (aK hS _ hk Z _ aV) (jo V Z),U⟩ ?_
 refine aL (ao 1 tb Y (iI (O:=[]) (R:=[]) (RQ V l (b)) (cO Tryz.func243) Y Y Y (lb Y) hS hJ0 b9 (λa w h=>(aq (h.get 0 Y) aP)) λz1=>?_))
 refine sy (.fn 244 [.ptr [.lit (.map (some M))]]) (λh=>k5 (caps:=[(.tmp 2)]) Y (aq (h.get 3 Y) aP) h.x) ?_
 refine iI (O:=[OB.row z1 162 2 (l.map aR)]) (R:=[]) (R0 V z1 l 244 [.ptr [.lit (.map (some M))]] [] [OB.set aB M ms] (λx':Pr=>!decide (x'.a∈ms)|| !decide (x'.b∈ms)) (λq'=>S4 V M ms q') ((cO Tryz.func244)) oz) (cO Tryz.func242) Y Y Y (lb Y) hS hJ0 (dC (hH _ (mo 0 Y)) b9) (λa w h=>(aq (h.get 1 Y) (aq (h.get 0 Y) aP))) λ_=>?_
 refine ao 1 tb Y (aA [0,1] U2 Y ?_)
 refine nx (ln 0 λhl2=>?_)
 exact bL 0 (hE:=congrArg (λz=>AV.rd (bI z)) (show(l.filter λx'=>!(λx':Pr=>!decide (x'.a∈ms)|| !decide (x'.b∈ms)) x')=(l.filter (iQ ms))from by congr 1;funext x';simp[iQ]))
theorem SA (y:Hy)  :Fn prog J 184 [.agg (aN y)] (.bool y.be):=by
 refine fE Tryz.func184 λS w0 hS hJ0=>?_
 clear hJ0
 refine aJ tb V [1000] [.ptr (aN y),_] [0] [_] Y ⟨ej hS V,U⟩ ?_
 refine qs tb V [1002] U3 [_] ?_
 exact aU 0 (hE:=Y)
theorem GP (f:Fr) (b:f.aa.length*48<=140737488351232):Fn prog J 139 [.agg (aY f)] (.rd (bW (bR f.aa))):=by
 refine fE Tryz.func139 λS w0 hS hJ0=>?_
 refine tw cc (au tb V [1000] [.ptr (aY f),_] [0] [_] Y ⟨cW hS V,U⟩ ?_)
 refine aL (ao 2 tb Y (iI (O:=[]) (R:=[]) (RP V f.aa (b)) (cO Tryz.func183) Y Y Y (lb Y) hS hJ0 b9 (λa w h=>(aq (h.get 0 Y) aP)) λz1=>?_))
 refine iI (O:=[OB.row z1 119 3 (f.aa.map aN)]) (R:=[]) (RZ V z1 f.aa 184 [] [] [] (λx':Hy=>x'.be) (λq'=>(SA V q').r) ((cO Tryz.func184)) oz) (cO Tryz.func182) Y Y Y (lb Y) hS hJ0 b9 (λa w h=>(aq (h.get 0 Y) (aq (pc 184) aP))) λ_=>?_
 refine ao 1 tb Y (aA [0,1,3] U3 Y ?_)
 refine nx (ln 0 λcx=>?_)
 refine ln 2 λ_=>?_
 exact bL 0 (hE:=congrArg (λz=>AV.rd (bW z)) (show(f.aa.filter λx'=>!(λx':Hy=>x'.be) x')=(bR f.aa)from Y))
theorem Sw (xs ys:List Hy)  :Fn prog J 179 [.rd (bW xs),.rd (bW ys)] (.int (gp (xs.map Hy.ae) (ys.map Hy.ae):Nat)):=by
 refine fE Tryz.func179 λS w0 hS hJ0=>?_
 clear hJ0
 refine ln 0 λ_=>?_
 refine ln 1 λ_=>?_
 refine qs tb V [0,1] [_] U2 ?_
 refine qs tb V [0,1,1000] [_] U3 ?_
 refine af (ax (lp (ι:=Nat) (λk=>(k<=xs.length)/\(k<=ys.length)/\(∀ j,j<k->(G xs j).ae=(G ys j).ae)) (λk=>[(5,.int (k:Nat))]) (λk=>xs.length-k) [0,1,2] U2 0 ⟨aI,aI,λj hj=>by omega⟩ ?_))
 rintro k ⟨aQ,ah,bp⟩
 refine af (aJ tb V [0,1,2,1022] [_,_,.int (xs.length:Nat),_,_,_,_,.int (ys.length:Nat),_,_,_,_,_,.ptr (aN (G xs k)),_,_,_,_,.ptr (aN (G ys k)),_,_,_,_] [2,7,13,18] U4 Y ⟨aD cT,aD cT,cN cD (hk:=λ(aF:(((decide ((k:Int)< (xs.length:Int)))&& (decide ((k:Int)< (ys.length:Int))))==true)=true)=>by(try simp at aF);first | omega | (simp;omega) | grind[aC]),cN cD (hk:=λ(aF:(((decide ((k:Int)< (xs.length:Int)))&& (decide ((k:Int)< (ys.length:Int))))==true)=true)=>by(try simp at aF);first | omega | (simp;omega) | grind[aC]),U⟩ ?_)
 refine cj 3 ?_ ?_<;>intro hb1<;>try simp at hb1
 ·
  refine aj (nx (ax (dI tb V [0,1,1002] [_,.int (k+1:Nat),_] [1] U3 Y ⟨aM,U⟩ ?_)))
  exact dO (k+1) [0,1,2] ⟨oz,oz,cF bp (by simp_all)⟩
 ·
  refine aW (nx (qs tb V [1001] U2 [_] ?_))
  exact aU 0 (hE:=eI (by exact congrArg _ (yP (xs.map Hy.ae) (ys.map Hy.ae) k (by simpa using aQ) (by simpa using ah) (λj hj=>by rw[vX oz,vX oz];exact bp j hj) (by rw[length_map,length_map];rintro⟨h1,h2,h3⟩;rw[vX h1,vX h2]at h3;simp_all))))
theorem GO (y:Hy) (b:y.ac.length*16<=140737488351232):Fn prog J 113 [.agg (aN y)] (.agg (aN y)):=by
 refine fE Tryz.func113 λS w0 hS hJ0=>?_
 refine tw cc (aL ?_)
 refine xz (cs:=[lS y.ae,lB y.be,ai y.ac]) V Y Y Y (lb Y) (λa w h=>(h.get 0 Y)) λb1=>?_
 refine cz kK V Y Y Y (lb Y) λb2=>?_
 refine aA [0,1] U2 Y (nx (aL ?_))
 refine sy (.at b1 2) (λh=>cv lO Y (h.get 1 Y) h.x) ?_
 refine sy (.rd (ai y.ac)) (λh=>cg ia Y (aH h.x (mo 1 Y)) (h.get 0 Y) Y h.x) ?_
 refine iI (O:=[]) (R:=[OB.var b2 [lS (⟨#[]⟩:BA),lB false,ai ([]:List BA)],OB.var b1 (aN y)]) (GC V y.ac az) (cO Tryz.func87) Y Y Y (lb Y) hS hJ0 b9 (λa w h=>(aq (h.get 0 Y) aP)) λz3=>?_
 refine sy (.at b1 2) (λh=>cv lO Y (h.get 4 Y) h.x) ?_
 refine kw dq (kw bQ ?_)
 refine kw (λh=>dV hS h (m:=1) (s:=5) Y) (gz (b:=b1) (off:=2) (es:=U3) V hJ0 UJ Y Y Y (lb Y) Y (λa w h=>⟨(h.get 1 Y),(h.get 0 Y)⟩) ?_)
 refine aA [0,2,4,5] U4 Y (nx (ln 0 λcx=>?_))
 refine aL (sy (.agg [lS y.ae,lB y.be,ai y.ac]) (λh=>iX (ds:=[lS y.ae,lB y.be,ai y.ac]) nk Y (aH h.x (mo 0 Y)) (h.get 3 Y) Y Y h.x) ?_)
 refine kw bQ (ck (b:=b2) (off:=0) (es:=U3) (news:=U3) V hJ0 jn Y Y Y (lb Y) Y (λa w h=>⟨(h.get 3 Y),(h.get 0 Y)⟩) ?_)
 exact aA [3] [_] Y (nx (aZ (λa w h=>jU (m:=0) Y nk h Y Y Y)))
theorem G1 (M1 M2:Nat) (M3 M4 M5:Nat) (cs vs l:List BA)  :cM prog J 175 [OB.set aB M1 cs,OB.set aB M2 vs] [.ptr (di [M1,M2,M3,M4,M5]),.rd (ai l)] (.int (k8 cs vs l)):=by
 refine fk Tryz.func175 λS w0 hS hJ0 hH=>?_
 clear hJ0
 refine ln 1 λ_=>?_
 refine aJ tb V [1,1000] [.ptr [.ptr (di [M1,M2,M3,M4,M5])],_] [0] U2 Y ⟨λ_ _ hk Z hl _=>xd Y (hl.env 0 0 _ Y Y) (hS _ hk.size) (js V Z),U⟩ ?_
 refine af (ax (aJ tb V [0,1,1008] [_,.int (l.length:Nat),_,_,_,.int (l.length:Nat),_,_,_] [1,5] U3 Y ⟨aD b6,aD b6,U⟩ ?_))
 refine cj 2 ?_ ?_<;>intro hb1
 ·
  refine qs tb V [1000] [_] [_] ?_
  exact aU 0 (hE:=eI (by grind[k8]))
 ·
  refine aJ tb V [1015] (V5 [.ptr [lS (G l 0)],_,.bool (decide ((G l 0)∈cs)),_,_,_,.rd (ai (l.drop 1)),.fn 214 [.ptr [.ptr (di [M1,M2,M3,M4,M5])]],.bool ((l.drop 1).any (λs=>!(decide (s∈cs)||decide (s∈vs)))),_,_]) [5,7,11,12,13] [_] Y ⟨bn (k:=0) bx,λ_ _ hk Z hl _=>jD (Kd:=aB) (xs:=cs) iD jJ (G l 0) Y (gt hH hk (mo 0 Y)) (hl.D 3 18 Y Y) (hl.D 6 21 Y Y) Z,λ_ _ _ Z hl hc=>iH (ys:=l.drop 1) (lo:=1) (hi:=l.length) (by rw[List.take_length]) bx (λ_=>Y) Y (hl.D 10 25 Y hc) (Rel.aG (.int .i64 1)) Y (by have aF:((!(decide ((G l 0)∈cs)))==false)=true:=hc;(try simp at aF);(first | omega | (simp;omega) | grind[aC])) (by have aF:((!(decide ((G l 0)∈cs)))==false)=true:=hc;(try simp at aF);(first | omega | (simp;omega) | grind[aC])) Z,λ_ _ _ Z hl _=>k5 (caps:=[(.tmp 2)]) Y (aq (hl.env 1 2 _ Y Y) aP) Z,λ_ _ hk Z hl hc=>dE (uh V (l.drop 1) 214 [.ptr [.ptr (di [M1,M2,M3,M4,M5])]] [OB.set aB M1 cs,OB.set aB M2 vs] (λs=>!(decide (s∈cs)||decide (s∈vs))) (λq'=>SZ V M1 M2 M3 M4 M5 cs vs q') ((cO Tryz.func214))) (cO Tryz.func135) Y (nm hS hk) (Z) (dC (gt hH hk (mo 0 Y)) (dC (gt hH hk (mo 1 Y)) b9)) (aq (hl.D 11 26 Y hc) (aq (hl.D 12 27 Y hc) aP)) (js V Z),U⟩ ?_
  refine cj 0 ?_ ?_<;>intro hb2
  ·
   refine qs tb V [1000] [_] [_] ?_
   exact aU 0 (hE:=eI (by grind[k8]))
  ·
   refine aj (nx (qs tb V [1000] [_] [_] ?_))
   exact aU 0 (hE:=eI (by grind[k8]))
end
section
variable {J:WP} (V:aS J)
include V
theorem Sv   :Fn prog J 239 [] (.agg (kb.map f5)):=by
 refine fE Tryz.func239 λS w0 hS hJ0=>?_
 refine tw cc (aL ?_)
 refine cz I5 V Y Y Y (lb Y) λb1=>?_
 refine aA [0] [_] Y (nx (af (ak tb V [0,1000] [_] U2 ?_)))
 refine ax (lpo (ι:=Nat×(List UInt8)) (λ(k,xs)=>(k<=256)/\(xs.length=256)/\(∀ j,j<k->G xs j=gD (UInt8.ofNat j))/\(∀ j,k<=j->j<256->G xs j=0)) (λ(_,xs)=>[OB.var b1 (xs.map f5)]) (λ(k,_)=>[(3,.int (k:Nat))]) (λ(k,_)=>256-k) [0,1] [_] (0,(List.replicate 256 (0:UInt8))) ⟨aI,by simp,λj hj=>by omega,λj _ h=>by rw[cV (by simpa using h)];exact List.getElem_replicate _⟩ ?_)
 rintro⟨k,xs⟩ ⟨aQ,ah,bp,gV⟩
 refine ak tb V [0,1,1000] [_] U3 ?_
 refine cI 2 ?_ ?_<;>intro hb1<;>try simp at hb1
 ·
  refine aj (nx (af (ax (ak tb V [0,1,1001] U2 U3 ?_))))
  refine au tb V [0,1,2,1002] [_,.rd (.lit (.int .u8 ((UInt8.ofNat k).toNat:Int))),_] [1] U4 Y ⟨λ_ _ _ Z hl _=>Tu (k:=k) xS VQ Y (hl.D 0 6 Y Y) az Z,U⟩ ?_
  refine ax (ak tb V [0,1,2,3,1014] pm U5 ?_)
  refine cj 4 ?_ ?_<;>intro hb2
  ·
   replace hb2:yC (UInt8.ofNat k)=true:=hb2
   refine cG (ao 1 tb Y (sy (.at b1 k) (λh=>uq (i:=k) sE Y (h.get 1 Y) (h.get 0 Y) az h.x) ?_))
   refine gz (b:=b1) (off:=k) (c:=f5 (1:UInt8)) V hJ0 xu Y Y Y (by rw[length_map];exact az) (u5 az) (λa w h=>⟨(h.get 0 Y),(Rel.aG (.int .u8 1))⟩) ?_
   refine aA [2,3] U2 Y (nx (aT tb V [0,1001] [.int (k+1:Nat),_] [0] U2 Y ⟨aM,U⟩ ?_))
   exact bq (k+1,xs.set k (1:UInt8)) [0,1] ⟨oz,by rw[length_set];exact ah,vv ah oz bp (by simp[gD,hb2]),vt ah oz gV⟩
  ·
   replace hb2:yC (UInt8.ofNat k)=false:=hb2
   refine ak tb V [0,1,2,3,1002] U3 U5 ?_
   refine cj 4 ?_ ?_<;>intro aE
   ·
    replace aE:yD (UInt8.ofNat k)=true:=aE
    refine cG (ao 1 tb Y (sy (.at b1 k) (λh=>uq (i:=k) sE Y (h.get 1 Y) (h.get 0 Y) az h.x) ?_))
    refine gz (b:=b1) (off:=k) (c:=f5 (4:UInt8)) V hJ0 xu Y Y Y (by rw[length_map];exact az) (u5 az) (λa w h=>⟨(h.get 0 Y),(Rel.aG (.int .u8 4))⟩) ?_
    refine aA [2,3] U2 Y (nx (aT tb V [0,1001] [.int (k+1:Nat),_] [0] U2 Y ⟨aM,U⟩ ?_))
    exact bq (k+1,xs.set k (4:UInt8)) [0,1] ⟨oz,by rw[length_set];exact ah,vv ah oz bp (by simp[gD,hb2,aE]),vt ah oz gV⟩
   ·
    replace aE:yD (UInt8.ofNat k)=false:=aE
    refine ak tb V [0,1,2,3,1034] [_,_,_,_,_,_,_,_,_,_,_,_,_,_,_,_,_,_,_,_,_,_,_,_,_,_,_,_,_,_,_,_,_,_,_] U5 ?_
    refine cj 4 ?_ ?_<;>intro bh
    ·
     replace bh:yE (UInt8.ofNat k)=true:=bh
     refine cG (ao 1 tb Y (sy (.at b1 k) (λh=>uq (i:=k) sE Y (h.get 1 Y) (h.get 0 Y) az h.x) ?_))
     refine gz (b:=b1) (off:=k) (c:=f5 (2:UInt8)) V hJ0 xu Y Y Y (by rw[length_map];exact az) (u5 az) (λa w h=>⟨(h.get 0 Y),(Rel.aG (.int .u8 2))⟩) ?_
     refine aA [2,3] U2 Y (nx (aT tb V [0,1001] [.int (k+1:Nat),_] [0] U2 Y ⟨aM,U⟩ ?_))
     exact bq (k+1,xs.set k (2:UInt8)) [0,1] ⟨oz,by rw[length_set];exact ah,vv ah oz bp (by simp[gD,hb2,aE,bh]),vt ah oz gV⟩
    ·
     replace bh:yE (UInt8.ofNat k)=false:=bh
     refine ak tb V [0,1,2,1006] U7 U4 ?_
     refine cj 3 ?_ ?_<;>intro bV
     ·
      replace bV:yF (UInt8.ofNat k)=true:=bV
      refine cG (ao 1 tb Y (sy (.at b1 k) (λh=>uq (i:=k) sE Y (h.get 1 Y) (h.get 0 Y) az h.x) ?_))
      refine gz (b:=b1) (off:=k) (c:=f5 (3:UInt8)) V hJ0 xu Y Y Y (by rw[length_map];exact az) (u5 az) (λa w h=>⟨(h.get 0 Y),(Rel.aG (.int .u8 3))⟩) ?_
      refine aA [2,3] U2 Y (nx (aT tb V [0,1001] [.int (k+1:Nat),_] [0] U2 Y ⟨aM,U⟩ ?_))
      exact bq (k+1,xs.set k (3:UInt8)) [0,1] ⟨oz,by rw[length_set];exact ah,vv ah oz bp (by simp[gD,hb2,aE,bh,bV]),vt ah oz gV⟩
     ·
      replace bV:yF (UInt8.ofNat k)=false:=bV
      refine aj (nx (aT tb V [0,1001] [.int (k+1:Nat),_] [0] U2 Y ⟨aM,U⟩ ?_))
      exact bq (k+1,xs) [0,1] ⟨oz,ah,cF bp (by rw[gV k (Nat.le_refl k) oz];simp[gD,hb2,aE,bh,bV]),λj h1 h2=>gV j oz h2⟩
 ·
  refine aW (nx (aL (sy (.agg (xs.map f5)) (λh=>iX (ds:=xs.map f5) Cx Y (aH h.x (mo 0 Y)) (h.get 0 Y) (by rw[List.drop_zero,List.take_of_length_le (by rw[length_map];omega)]) (by rw[length_map];omega) h.x) ?_)))
  refine ck (b:=b1) (off:=0) (news:=xs.map f5) V hJ0 (by rw[length_map,show xs.length=256 from(ah)];exact Ie) Y Y Y (by simp only[length_map];exact oz) (CE (by rw[length_map]<;>exact(Y))) (λa w h=>⟨(h.get 1 Y),(h.get 0 Y)⟩) ?_
  exact aA [1] [_] Y (nx (aZ (λa w h=>jU (m:=0) Y Cx h Y (by rw[length_map];exact(ah)) (congrArg (λz':List UInt8=>z'.map f5) (show xs=kb from K6 ah λj hj=>bp j oz)))))
theorem R7 (xs:List UInt8) (c:UInt8)  :Fn prog J 255 [.rd (uH xs),.rd (.lit (.int .u8 (c.toNat:Int)))] (.int (cH (λx':UInt8=>decide (((c).toNat:Int)=((x').toNat:Int))) xs)):=by
 refine fE Tryz.func255 λS w0 hS hJ0=>?_
 clear hJ0
 refine ln 0 λ_=>?_
 refine qs tb V [0,1] [_] U2 ?_
 refine af (aJ tb V [0,1,1001,1002] [_,.int (xs.length:Nat),_] [1] U4 Y ⟨aD VU,U⟩ ?_)
 refine ax (lp (ι:=Nat) (λk=>(k<=xs.length)/\(∀ j,j<k->(λx':UInt8=>decide (((c).toNat:Int)=((x').toNat:Int))) (G xs j)=false)) (λk=>[(8,.int (k:Nat))]) (λk=>xs.length-k) [0,1,2,3] U3 0 ⟨aI,λj hj=>by omega⟩ ?_)
 rintro k ⟨aQ,ah⟩
 refine qs tb V [0,1,2,3,1000] [_] U5 ?_
 refine cI 4 ?_ ?_<;>intro hb1<;>try simp at hb1
 ·
  refine aj (nx (af (ax (qs tb V [0,1,2,3,1001] U2 U5 ?_))))
  refine aJ tb V (r5 [1005]) (V3 [.ptr [.lit (.int .u8 ((G xs k).toNat:Int))],_,_]) [3] U6 Y ⟨bn zb,U⟩ ?_
  refine cj 5 ?_ ?_<;>intro hb2<;>try simp at hb2
  ·
   refine qs tb V [1001] U2 [_] ?_
   exact aU 0 (hE:=eI (by first | exact(jb (p:=λx':UInt8=>decide (((c).toNat:Int)=((x').toNat:Int))) hb1 (by simpa using hb2) ah).symm | exact(jc (p:=λx':UInt8=>decide (((c).toNat:Int)=((x').toNat:Int))) λj hj=>ah j oz).symm))
  ·
   refine aj (nx (dI tb V [0,1,2,1001] [.int (k+1:Nat),_] [0] U4 Y ⟨aM,U⟩ ?_))
   exact dO (k+1) [0,1,2,3] ⟨oz,cF ah (by simpa using hb2)⟩
 ·
  refine aW (nx (qs tb V [1000] [_] [_] ?_))
  exact aU 0 (hE:=eI (by first | exact(jb (p:=λx':UInt8=>decide (((c).toNat:Int)=((x').toNat:Int))) hb1 (by simpa using hb2) ah).symm | exact(jc (p:=λx':UInt8=>decide (((c).toNat:Int)=((x').toNat:Int))) λj hj=>ah j oz).symm))
theorem RT (xs:List UInt8) (c:UInt8)  :Fn prog J 240 [.rd (uH xs),.rd (.lit (.int .u8 (c.toNat:Int)))] (.bool (decide (c∈xs))):=by
 refine fE Tryz.func240 λS w0 hS hJ0=>?_
 clear hJ0
 refine ln 0 λ_=>?_
 refine qs tb V [0,1] [_] U2 ?_
 refine aJ tb V [1004] [_,_,.int (cH (λx':UInt8=>decide (((c).toNat:Int)=((x').toNat:Int))) xs),_,_] [2] [_] Y ⟨dh hS V (R7 V xs c) (cO Tryz.func255),U⟩ ?_
 exact aU 0 (hE:=eB (by rw[p9,QD]))
theorem GX (s:BA) (bs:List UInt8)  :Fn prog J 211 [.str s,.rd (uH bs)] (.bool (jW s bs)):=by
 refine fE Tryz.func211 λS w0 hS hJ0=>?_
 refine tw cc (tT 0 λcx=>?_)
 refine ln 1 λ_=>?_
 refine ak tb V [0,1] [_] U2 ?_
 refine af (au tb V [0,1,1006] (V4 [.int (s.size:Nat),_,_]) [4] U3 Y ⟨oP kI,U⟩ ?_)
 refine cj 2 ?_ ?_<;>intro hb1
 ·
  refine ak tb V [1000] [_] [_] ?_
  exact bL 0 (hE:=eB (by first | (rw[jW,if_pos hb1];done) | (rw[jW,if_neg (by rw[hb1];decide)];symm;exact rQ (p:=λc=>decide (gD c∈bs)) hb2 (by simpa [vr]using aE)) | (rw[jW,if_neg (by rw[hb1];decide)];symm;exact qY λj hj=>ah j oz)))
 ·
  refine aj (nx (aL (sy (.agg (kb.map f5)) (λh=>cQ (Sv V  ) (cO Tryz.func239) Y (aK hS _ h.keep h.x) (h.x.1) aP (jo V h.x)) ?_)))
  refine cz I5 V Y Y Y (lb Y) λb1=>?_
  refine ck (b:=b1) (off:=0) (news:=kb.map f5) V hJ0 (by rw[length_map,show kb.length=256 from(pG)];exact Ie) Y Y Y (by simp only[length_map];exact(by rw[pG,List.length_replicate];exact Nat.le_of_ble_eq_true Y)) (CE (by rw[length_map]<;>exact(by rw[pG,List.length_replicate]))) (λa w h=>⟨(h.get 0 Y),(h.get 1 Y)⟩) ?_
  refine aA [0,2,3] U3 Y (nx (af (au tb V [0,1,2,1001,1002] [_,.int (s.size:Nat),_] [1] U5 Y ⟨oP kI,U⟩ ?_)))
  refine ax (lpo (ι:=Nat) (λk=>(k<=s.size)/\(∀ j,j<k->decide (gD (bt s j)∈bs)=true)) (λ_=>[OB.var b1 (kb.map f5)]) (λk=>[(17,.int (k:Nat))]) (λk=>s.size-k) (r5 []) U4 0 ⟨aI,λj hj=>by omega⟩ ?_)
  rintro k ⟨aQ,ah⟩
  refine ak tb V (r5 [1000]) [_] U6 ?_
  refine cI 5 ?_ ?_<;>intro hb2<;>try simp at hb2
  ·
   refine aj (nx (af (ax (ak tb V (r5 [1001]) U2 U6 ?_))))
   refine au tb V (r5 [1007]) (V3 [.rd (.lit (.int .u8 ((G s.data.toList k).toNat:Int))),.at b1 ((G s.data.toList k).toNat),.rd (.lit (.int .u8 ((G kb (G s.data.toList k).toNat).toNat:Int))),.bool (decide ((G kb (G s.data.toList k).toNat)∈bs)),_]) [3,4,5,6] U6 Y ⟨λ_ _ _ Z hl _=>ur (i:=(k:Int)) kI Y (hl.D 1 21 Y Y) (hl.D 2 22 Y Y) bM (sJ (s:=s) (k:=k) az) Z,λ_ _ _ Z hl _=>uq (i:=(G s.data.toList k).toNat) sE Y (hl.env 0 5 _ Y Y) (hl.D 3 23 Y Y) (UInt8.toNat_lt _) Z,λ_ _ _ Z hl _=>cg Re Y (aH Z (mo 0 Y)) (hl.D 4 24 Y Y) (JG (by rw[pG];exact UInt8.toNat_lt _)) Z,bN hS V (RT V bs (G kb (G s.data.toList k).toNat)) (cO Tryz.func240),U⟩ ?_
   refine cj 5 ?_ ?_<;>intro aE<;>try simp at aE
   ·
    refine ak tb V [1000] [_] [_] ?_
    exact bL 0 (hE:=eB (by first | (rw[jW,if_pos hb1];done) | (rw[jW,if_neg (by rw[hb1];decide)];symm;exact rQ (p:=λc=>decide (gD c∈bs)) hb2 (by simpa [vr]using aE)) | (rw[jW,if_neg (by rw[hb1];decide)];symm;exact qY λj hj=>ah j oz)))
   ·
    refine aj (nx (aT tb V [0,1,2,3,1001] [.int (k+1:Nat),_] [0] U5 Y ⟨aM,U⟩ ?_))
    exact bq (k+1) (r5 []) ⟨oz,cF ah (by simpa [vr]using aE)⟩
  ·
   refine aW (nx (ak tb V [1000] [_] [_] ?_))
   exact bL 0 (hE:=eB (by first | (rw[jW,if_pos hb1];done) | (rw[jW,if_neg (by rw[hb1];decide)];symm;exact rQ (p:=λc=>decide (gD c∈bs)) hb2 (by simpa [vr]using aE)) | (rw[jW,if_neg (by rw[hb1];decide)];symm;exact qY λj hj=>ah j oz)))
theorem A9 (s:BA)  :Fn prog J 172 [.str s] (.bool (fW s)):=by
 refine fE Tryz.func172 λS w0 hS hJ0=>?_
 clear hJ0
 refine qs tb V [0] [_] [_] ?_
 refine aJ tb V [1001,1003] [_,.rd (uH ([(2:UInt8)])),.bool (jW s ([(2:UInt8)])),_] [1,2] U2 Y ⟨λ_ _ hk Z _ _=>ft zb WS Y (Rel.aG (.int .u8 2)) (hS _ hk.size) (js V Z),dh hS V (GX V s ([(2:UInt8)])) (cO Tryz.func211),U⟩ ?_
 refine ln 0 λ_=>?_
 exact aU 1 (hE:=eB (Rg s))
theorem Ba (s:BA)  :Fn prog J 170 [.str s] (.bool (gP s)):=by
 refine fE Tryz.func170 λS w0 hS hJ0=>?_
 clear hJ0
 refine qs tb V [0] [_] [_] ?_
 refine aJ tb V [1001,1003] [_,.rd (uH ([2,3]:List UInt8)),.bool (jW s ([2,3]:List UInt8)),_] [1,2] U2 Y ⟨λa _ hk Z _ _=>qr (k:=2) (us:=[a.eval (.const (.int .u8 2)),a.eval (.const (.int .u8 3))]) zb WN Y yz (bX (Rel.aG (.int .u8 2)) (bX (Rel.aG (.int .u8 3)) cE)) Y dz dz (hS _ hk.size) (js V Z),dh hS V (GX V s ([2,3]:List UInt8)) (cO Tryz.func211),U⟩ ?_
 refine ln 0 λ_=>?_
 exact aU 1 (hE:=eB (Rh s))
end
theorem Kh:lE prog 287 4:=⟨#[.int .i64 0,.string ⟨#[]⟩,.slice none 0 0,.slice none 0 0],Y,λi=>(#[(0,1),(1,1),(2,1),(3,1)]:Array (Nat×Nat))[i]?,λj hj=>by rcases j with _ | _ | _ | _ | j<;>first | rfl | omega,λparts=>by kernel_rfl⟩
theorem SQ {J:WP} (V:aS J) (s:BA):Fn prog J 261 [.str s] (.bool (fq s)):=by
 intro S w vs hS hJ0 ha
 simp only[bd]at ha
 obtain⟨u,us,rfl,h1,rfl⟩:=ha
 rw[h1.lit]
 exact(PI s w).mono λe w' ⟨he,hb⟩=>by
  have hk:Keeps All w w':=(Keeps.of_below hb).sub λk hk _=>hk
  exact⟨_,he,Rel.aG _,hk,V w w' hk hJ0⟩
def gW (s:Sm):Bool:=((fW s.ae&& (decide ((1:Int)<=(s.ac.length:Int))&&decide ((s.ac.length:Int)<=200)))&&s.ac.all gP)&&s.proof.all fq
def kM (s:Sm):List BA:=((([s.ae]++[⟨#[36,112]⟩]++s.ac)++[⟨#[36,61]⟩])++s.proof)++[⟨#[36,46]⟩]
section
variable {J:WP} (V:aS J)
include V
theorem GQ (g:FuncId)  :Fn prog J 259 [.lit (.func (.func g) #[] #[])] (.fn 260 [.ptr [.lit (.func (.func g) #[] #[])]]):=by
 refine fE Tryz.func259 λS w0 hS hJ0=>?_
 clear hJ0
 refine aJ tb V [1000] [.ptr [.lit (.func (.func g) #[] #[])],_] [0] [_] Y ⟨λ_ _ hk Z hl _=>k4 Y (hl.env 0 0 _ Y Y) (hS _ hk.size) (js V Z),U⟩ ?_
 refine aJ tb V [1001] [.fn 260 [.ptr [.lit (.func (.func g) #[] #[])]],_] [0] [_] Y ⟨λ_ _ _ Z hl _=>k5 (caps:=[(.tmp 1)]) Y (aq (hl.env 0 1 _ Y Y) aP) Z,U⟩ ?_
 exact aU 0 (hE:=Y)
theorem GR (g:FuncId) (p:BA->Bool) (q:BA) (hk0:dL prog g) (hf:∀ q',Fn prog J g [.str q'] (.bool (p q'))):Fn prog J 260 [.str q,.ptr [.lit (.func (.func g) #[] #[])]] (.bool (!p q)):=by
 refine fE Tryz.func260 λS w0 hS hJ0=>?_
 clear hJ0
 refine qs tb V [0,1] [_] U2 ?_
 refine aJ tb V [1004] [_,_,.bool (p q),_,_] [2] [_] Y ⟨λ_ _ hk Z hl _=>iW ((hf q).r) hk0 Y (NA (hl.D 0 4 Y Y)) (nm hS hk) (Z) b9 (aq (hl.D 1 5 Y Y) aP) (js V Z),U⟩ ?_
 exact aU 0 (hE:=eB (by first | rfl | grind[aC]))
theorem SD (s:Sm) (hG:iv J) (h7:s.kind=7):Fn prog J 247 [.agg (kE s)] (.bool (gW s)):=by
 refine fE Tryz.func247 λS w0 hS hJ0=>?_
 refine tw cc (au tb V [1000] [.ptr (kE s),_] [0] [_] Y ⟨cW hS V,U⟩ ?_)
 refine af (ak tb V [0,1007] U8 U2 ?_)
 refine cj 1 ?_ ?_<;>intro hb1<;>try simp at hb1
 ·
  refine ak tb V [1000] [_] [_] ?_
  exact bL 0 (hE:=eB (by first | (exfalso;omega) | (unfold gW;grind) | (simp only[gW,List.all_eq_not_any_not];grind)))
 ·
  refine aj (nx (aL (ao 2 tb Y (sy (.at 1 28) (λh=>Hu (k:=7) IU xr Y (h.get 0 Y) (h7) dz h.x) ?_))))
  refine sy (.agg [lS (⟨#[36,112]⟩:BA),lB true,lI (1:Int),lI (200:Int)]) (λh=>Hv Cy Y (hG _ (h.x.1)) (h.get 0 Y) h.x) ?_
  refine cz I6 V Y Y Y (lb Y) λb1=>?_
  refine ck (b:=b1) (off:=0) (es:=U4) (news:=U4) V hJ0 xr Y Y Y (lb Y) Y (λa w h=>⟨(h.get 0 Y),(h.get 1 Y)⟩) ?_
  refine kw (λh=>fg hS h (m:=0) (s:=3) Y) (aA [0,5] U2 Y ?_)
  refine nx (af (au tb V [1,1033] (V5 [.bool (fW s.ae),_,_,_,_,_,_,_,_,_,_,_,_,_,_,_,.int (s.ac.length:Nat),_,_,_,_,_,_,_,.int (s.ac.length:Nat),_,_,_,_]) [5,21,29] U2 Y ⟨bN hS V (A9 V s.ae) (cO Tryz.func172),aD b6,aD b6,U⟩ ?_))
  refine cj 1 ?_ ?_<;>intro hb2<;>try simp at hb2
  ·
   refine ak tb V [1000] [_] [_] ?_
   exact bL 0 (hE:=eB (by first | (exfalso;omega) | (unfold gW;grind) | (simp only[gW,List.all_eq_not_any_not];grind)))
  ·
   refine aj (nx (ak tb V [0,1000] [_] U2 ?_))
   refine au tb V [1001,1025] (V3 [.fn 260 [.ptr [.lit (.func (.func 170) #[] #[])]],.bool (s.ac.any (λw'=>!gP w')),_,_,_,_,_,.fn 260 [.ptr [.lit (.func (.func 261) #[] #[])]],.bool (s.proof.any (λw'=>!fq w')),_,_,_,_,_,_,_,_,_,.int (s.proof.length:Nat),_,_,_,_]) [3,4,10,11,21] U2 Y ⟨λ_ _ hk Z hl _=>iW ((GQ V 170).r) (cO Tryz.func259) Y (hl.D 2 53 Y Y) (aK hS _ hk Z) (Z.1) b9 (aq (HZ 170) aP) (jo V Z),λ_ w hk Z hl _=>dE (uh V s.ac 260 [.ptr [.lit (.func (.func 170) #[] #[])]] [] (λw'=>!gP w') (λq'=>(GR V 170 gP q' (cO Tryz.func170) λz'=>Ba V z').r) ((cO Tryz.func260))) (cO Tryz.func135) Y (aK hS _ hk Z) (Z.1) b9 (aq (hl.D 1 52 Y Y) (aq (hl.D 3 54 Y Y) aP)) (jo V Z),λ_ _ hk Z hl hc=>iW ((GQ V 261).r) (cO Tryz.func259) Y (hl.D 9 60 Y hc) (aK hS _ hk Z) (Z.1) b9 (aq (HZ 261) aP) (jo V Z),λ_ w hk Z hl hc=>dE (uh V s.proof 260 [.ptr [.lit (.func (.func 261) #[] #[])]] [] (λw'=>!fq w') (λq'=>(GR V 261 fq q' (cO Tryz.func261) λz'=>SQ V z').r) ((cO Tryz.func260))) (cO Tryz.func135) Y (aK hS _ hk Z) (Z.1) b9 (aq (hl.D 8 59 Y hc) (aq (hl.D 10 61 Y hc) aP)) (jo V Z),aD b6,U⟩ ?_
   refine ln 0 λ_=>?_
   exact bL 1 (hE:=eB (by first | (exfalso;omega) | (unfold gW;grind) | (simp only[gW,List.all_eq_not_any_not];grind)))
theorem Sj (s:Sm) (hG:iv J) (h7:s.kind=7):Fn prog J 246 [.agg (kE s)] (.bool (!gW s)):=by
 refine fE Tryz.func246 λS w0 hS hJ0=>?_
 refine tw cc (au tb V [1000] [.ptr (kE s),_] [0] [_] Y ⟨cW hS V,U⟩ ?_)
 refine au tb V [1003] [_,.bool (gW s),_,_] [1] [_] Y ⟨bN hS V (SD V s (hG) (h7)) (cO Tryz.func247),U⟩ ?_
 exact bL 0 (hE:=eB (by first | rfl | grind[aC]))
theorem Sc (xs:List Sm) (f:FuncId) (caps:List AV) (Os:List OB) (p:Sm->Bool) (hf:∀ q'∈xs,cM prog J f Os ([.agg (kE (q'))]++caps) (.bool (p q'))) (hk0:dL prog f):cM prog J 258 Os [.rd (xJ xs),.fn f caps] (.int (cH p xs)):=by
 refine fk Tryz.func258 λS w0 hS hJ0 hH=>?_
 clear hJ0
 refine ln 0 λ_=>?_
 refine qs tb V [0,1] [_] U2 ?_
 refine af (aJ tb V [0,1,1001,1002] [_,.int (xs.length:Nat),_] [1] U4 Y ⟨aD B5,U⟩ ?_)
 refine ax (lp (ι:=Nat) (λk=>(k<=xs.length)/\(∀ j,j<k->p (G xs j)=false)) (λk=>[(8,.int (k:Nat))]) (λk=>xs.length-k) [0,1,2,3] U3 0 ⟨aI,λj hj=>by omega⟩ ?_)
 rintro k ⟨aQ,ah⟩
 refine qs tb V [0,1,2,3,1000] [_] U5 ?_
 refine cI 4 ?_ ?_<;>intro hb1<;>try simp at hb1
 ·
  refine aj (nx (af (ax (qs tb V [0,1,2,3,1001] U2 U5 ?_))))
  refine aJ tb V (r5 [1005]) (V3 [.ptr (kE (G xs k)),_,.bool (p (G xs k))]) [3,5] U6 Y ⟨bn zc,λ_ _ hk Z hl _=>iW (hf (G xs k) (aC oz)) hk0 Y (hl.D 0 11 Y Y) (nm hS hk) (Z) (λ_ ho=>gt hH hk ho) (aq (hl.D 4 15 Y Y) aP) (js V Z),U⟩ ?_
  refine cj 5 ?_ ?_<;>intro hb2<;>try simp at hb2
  ·
   refine qs tb V [1001] U2 [_] ?_
   exact aU 0 (hE:=eI (by first | exact(jb hb1 hb2 ah).symm | exact(jc λj hj=>ah j oz).symm))
  ·
   refine aj (nx (dI tb V [0,1,2,1001] [.int (k+1:Nat),_] [0] U4 Y ⟨aM,U⟩ ?_))
   exact dO (k+1) [0,1,2,3] ⟨oz,cF ah hb2⟩
 ·
  refine aW (nx (qs tb V [1000] [_] [_] ?_))
  exact aU 0 (hE:=eI (by first | exact(jb hb1 hb2 ah).symm | exact(jc λj hj=>ah j oz).symm))
theorem RX (xs:List Sm) (f:FuncId) (caps:List AV) (Os:List OB) (p:Sm->Bool) (hf:∀ q'∈xs,cM prog J f Os ([.agg (kE (q'))]++caps) (.bool (p q'))) (hk0:dL prog f):cM prog J 245 Os [.rd (xJ xs),.fn f caps] (.bool (xs.any p)):=by
 refine fk Tryz.func245 λS w0 hS hJ0 hH=>?_
 clear hJ0
 refine ln 0 λ_=>?_
 refine qs tb V [0,1] [_] U2 ?_
 refine aJ tb V [1004] [_,_,.int (cH p xs),_,_] [2] [_] Y ⟨λ_ _ hk Z hl _=>dE (Sc V xs f caps Os p (hf) (hk0)) (cO Tryz.func258) Y (nm hS hk) (Z) (λ_ ho=>gt hH hk ho) (aq (hl.D 0 5 Y Y) (aq (hl.D 1 6 Y Y) aP)) (js V Z),U⟩ ?_
 exact aU 0 (hE:=eB (by rw[<-p9]))
theorem S5 (s:Sm) (hG:iv J) (h7:s.kind=7) (hl:s.ac.length+s.proof.length<=100):Fn prog J 248 [.agg (kE s)] (.rd (ai (kM s))):=by
 refine fE Tryz.func248 λS w0 hS hJ0=>?_
 refine tw cc (au tb V [1000] [.ptr (kE s),_] [0] [_] Y ⟨cW hS V,U⟩ ?_)
 refine aL (ao 2 tb Y (sy (.at 1 28) (λh=>Hu (k:=7) IU xr Y (h.get 0 Y) (h7) dz h.x) ?_))
 refine sy (.agg [lS (⟨#[36,112]⟩:BA),lB true,lI (1:Int),lI (200:Int)]) (λh=>Hv Cy Y (hG _ (h.x.1)) (h.get 0 Y) h.x) ?_
 refine cz I6 V Y Y Y (lb Y) λb1=>?_
 refine ck (b:=b1) (off:=0) (es:=U4) (news:=U4) V hJ0 xr Y Y Y (lb Y) Y (λa w h=>⟨(h.get 0 Y),(h.get 1 Y)⟩) ?_
 refine kw (λh=>fg hS h (m:=0) (s:=3) Y) (aA [0,5] U2 Y ?_)
 refine nx (ak tb V [0,1,1000] [_] U3 ?_)
 refine af (ak tb V [0,1,2,1001] U2 U4 ?_)
 refine cj 3 ?_ ?_<;>intro hb1
 ·
  refine tw (iK 9 1 V) (cG (ao 3 tb Y ?_))
  refine sy (.rd (ai ([s.ae]))) (λh=>ft bx j0 Y (h.get 0 Y) (aK hS _ h.keep h.x _ aV) (jo V h.x)) ?_
  refine fP (f:=dJ) (m:=3) (s:=11) ([]:List BA) ([s.ae]) (λ_=>Y) j6 V hJ0 Y Y Y (lb Y) Y Y (λa w h=>(h.get 0 Y)) (by first | omega | (simp;done) | (simp;omega)) (by first | omega | (simp;done) | (simp;omega)) λv2=>?_
  refine ao 1 tb Y (aA [0,2,6,7] U4 Y ?_)
  refine nx (ln 1 λcx=>?_)
  refine af (λa w h=>oZ [] (γ:=Value×Value) (λix'=>([.lit v2,.ptr [lS (⟨#[36,112]⟩:BA),lB true,lI (1:Int),lI (200:Int)],.str (⟨#[36,112]⟩:BA),.rd (ai ([(⟨#[36,112]⟩:BA)])),.any,.ptr [ai s.ac,ai s.proof],.rd (ai s.ac),.any,.any]:List AV).getD ix' .any) (λ_=>true) [(3,λ_=>.ptr [lS (⟨#[36,112]⟩:BA),lB true,lI (1:Int),lI (200:Int)]),(1,λ_=>.ptr (kE s)),(4,λg=>.lit g.2)] (λj' g=>match j' with | 0=>[OB.row v2 9 1 ((([]:List BA)++([s.ae])).map dJ)] | 1=>[OB.row g.1 9 1 (((([]:List BA)++([s.ae]))++([(⟨#[36,112]⟩:BA)])).map dJ)] | _=>[OB.row g.2 9 1 ((((([]:List BA)++([s.ae]))++([(⟨#[36,112]⟩:BA)]))++s.ac).map dJ)]) (λk' g=>match k' with | 0=>g.1 | 1=>g.2 | 2=>g.2 | _=>undef) [4,7,8] 3 ((.slice none 0 0),(.slice none 0 0)) (λ_=>Y) h V cP Y Y Y Y Y Y hsb ⟨oX Y λZ hl=>b8 Y (hl.env 0 4 _ Y Y) Z,oX Y λZ hl=>ca Nh Y (hl.env 2 3 _ Y Y) Z,oX Y λZ hl=>bU fd Y (hl.D 1 17 Y Y) Z,oY Y λhk Z hl=>ft bx j0 Y (hl.D 2 18 Y Y) (aK hS _ hk Z _ aV) (jo V Z),bB Y,oX Y λZ hl=>ca Nb Y (hl.env 3 1 _ Y Y) Z,oX Y λZ hl=>bU ia Y (hl.D 5 21 Y Y) Z,bB Y,bB Y,U⟩ ⟨?Md,?Me,?Mf,U⟩ ⟨.old 2 3 _,.old 3 1 _,.dZ 2 8 4 (λ(g:Value×Value)=>g.2) Y Y (λ_=>Y) (λ_ _ Z=>m6 (Z.2.1 _ (mo 0 Y))),U⟩ ?Xz)
  case Md=>exact⟨_,Y,Y,Y,Y,λg _ w hk Z hl _=>bC (lj (f:=dJ) (([]:List BA)++([s.ae])) ([(⟨#[36,112]⟩:BA)]) (λ_=>rfl) j6 V hJ0 Y hk Z (hl.D 0 16 Y Y).lit (hl.D 3 19 Y Y) (by first | omega | (simp;done) | (simp;omega)) (by first | omega | (simp;done) | (simp;omega))) λv w' hp=>⟨(v,g.2),Y,λk' hk'=>absurd hk' (Nat.not_lt_zero _),λ_=>rfl,hp⟩⟩
  case Me=>exact⟨_,Y,Y,Y,Y,λg _ w hk Z hl hs=>bC (lj (f:=dJ) ((([]:List BA)++([s.ae]))++([(⟨#[36,112]⟩:BA)])) s.ac (λ_=>rfl) j6 V hJ0 Y hk Z (hs 0 4 _ 20 oz Y Y Y) (hl.D 6 22 Y Y) (by first | omega | (simp;done) | (simp;omega)) (by first | omega | (simp;done) | (simp;omega))) λv w' hp=>⟨(g.1,v),Y,λk' hk'=>by rcases k' with _ | _ | _ | k'<;>first | rfl | omega,λ_=>rfl,hp⟩⟩
  case Mf=>exact⟨_,Y,Y,Y,Y,λg _ w hk Z _ hs=>bC (rc (.inl Y) (hs 1 7 _ 23 oz Y Y Y) hk Z) λv w' hp=>⟨g,Y,λ_ _=>rfl,λ_=>hp.1,hp.2⟩⟩
  clear a w h
  rintro⟨v3,v4⟩
  dsimp only[List.map]
  refine nx (af (ak tb V [0,1,2,1002] U3 U4 ?_))
  refine cj 3 ?_ ?_<;>intro hb2
  ·
   refine λa w h=>oZ [] (γ:=Value×Value) (λix'=>([.lit v4,.rd (ai ([(⟨#[36,61]⟩:BA)])),.any,.ptr [ai s.proof],.rd (ai s.proof),.any,.any]:List AV).getD ix' .any) (λ_=>true) [(3,λ_=>.ptr [lS (⟨#[36,112]⟩:BA),lB true,lI (1:Int),lI (200:Int)]),(4,λg=>.lit g.2)] (λj' g=>match j' with | 0=>[OB.row v4 9 1 ((((([]:List BA)++([s.ae]))++([(⟨#[36,112]⟩:BA)]))++s.ac).map dJ)] | 1=>[OB.row g.1 9 1 (((((([]:List BA)++([s.ae]))++([(⟨#[36,112]⟩:BA)]))++s.ac)++([(⟨#[36,61]⟩:BA)])).map dJ)] | _=>[OB.row g.2 9 1 ((((((([]:List BA)++([s.ae]))++([(⟨#[36,112]⟩:BA)]))++s.ac)++([(⟨#[36,61]⟩:BA)]))++s.proof).map dJ)]) (λk' g=>match k' with | 0=>g.1 | 1=>g.2 | 2=>g.2 | _=>undef) [2,5,6] 3 ((.slice none 0 0),(.slice none 0 0)) (λ_=>Y) h V cP Y Y Y Y Y Y hsb ⟨oX Y λZ hl=>b8 Y (hl.env 2 4 _ Y Y) Z,λ_ O' _=>⟨Y,λ_ _ hk Z _ _=>ft bx j0 Y (Rel.aG (.string { data:= #[36,61] }) (lb Y)) (aK hS _ hk Z _ aV) (jo V Z)⟩,bB Y,oX Y λZ hl=>ca Nc Y (hl.env 1 1 _ Y Y) Z,oX Y λZ hl=>bU ia Y (hl.D 3 30 Y Y) Z,bB Y,bB Y,U⟩ ⟨?y8,?Mk,?Ml,U⟩ ⟨.old 0 3 _,.dZ 2 6 4 (λ(g:Value×Value)=>g.2) Y Y (λ_=>Y) (λ_ _ Z=>m6 (Z.2.1 _ (mo 0 Y))),U⟩ ?QO
   case y8=>exact⟨_,Y,Y,Y,Y,λg _ w hk Z hl _=>bC (lj (f:=dJ) (((([]:List BA)++([s.ae]))++([(⟨#[36,112]⟩:BA)]))++s.ac) ([(⟨#[36,61]⟩:BA)]) (λ_=>rfl) j6 V hJ0 Y hk Z (hl.D 0 27 Y Y).lit (hl.D 1 28 Y Y) (by first | omega | (simp;done) | (simp;omega)) (by first | omega | (simp;done) | (simp;omega))) λv w' hp=>⟨(v,g.2),Y,λk' hk'=>absurd hk' (Nat.not_lt_zero _),λ_=>rfl,hp⟩⟩
   case Mk=>exact⟨_,Y,Y,Y,Y,λg _ w hk Z hl hs=>bC (lj (f:=dJ) ((((([]:List BA)++([s.ae]))++([(⟨#[36,112]⟩:BA)]))++s.ac)++([(⟨#[36,61]⟩:BA)])) s.proof (λ_=>rfl) j6 V hJ0 Y hk Z (hs 0 2 _ 29 oz Y Y Y) (hl.D 4 31 Y Y) (by first | omega | (simp;done) | (simp;omega)) (by first | omega | (simp;done) | (simp;omega))) λv w' hp=>⟨(g.1,v),Y,λk' hk'=>by rcases k' with _ | _ | _ | k'<;>first | rfl | omega,λ_=>rfl,hp⟩⟩
   case Ml=>exact⟨_,Y,Y,Y,Y,λg _ w hk Z _ hs=>bC (rc (.inl Y) (hs 1 5 _ 32 oz Y Y Y) hk Z) λv w' hp=>⟨g,Y,λ_ _=>rfl,λ_=>hp.1,hp.2⟩⟩
   clear a w h
   rintro⟨v5,v6⟩
   dsimp only[List.map]
   refine nx (af (ak tb V [1,1002] U3 U2 ?_))
   refine cj 1 ?_ ?_<;>intro aE
   ·
    refine cG (ao 1 tb Y (sy (.rd (ai ([(⟨#[36,46]⟩:BA)]))) (λh=>ft bx j0 Y (Rel.aG (.string { data:= #[36,46] }) (lb Y)) (aK hS _ h.keep h.x _ aV) (jo V h.x)) ?_))
    refine fP (f:=dJ) (m:=1) (s:=36) (((((([]:List BA)++([s.ae]))++([(⟨#[36,112]⟩:BA)]))++s.ac)++([(⟨#[36,61]⟩:BA)]))++s.proof) ([(⟨#[36,46]⟩:BA)]) (λ_=>Y) j6 V hJ0 Y Y Y (lb Y) Y Y (λa w h=>(h.get 0 Y)) (by first | omega | (simp;done) | (simp;omega)) (by first | omega | (simp;done) | (simp;omega)) λv7=>?_
    refine ao 1 tb Y (aA [0,2] U2 Y ?_)
    refine nx (ln 1 λhl2=>?_)
    refine ak tb V [1001] U2 [_] ?_
    exact tw (λh=>dV hS h (m:=0) (s:=2) Y) (bL 0 (hE:=congrArg (λz=>AV.rd (ai z)) (show((((((([]:List BA)++([s.ae]))++([(⟨#[36,112]⟩:BA)]))++s.ac)++([(⟨#[36,61]⟩:BA)]))++s.proof)++([(⟨#[36,46]⟩:BA)]))=(kM s)from by simp[kM])))
   ·
    exact False.elim (by simp at aE)
  ·
   exact False.elim (by simp[h7]at hb2)
 ·
  exact False.elim (by cases hb1)
end
theorem Jc (s:Sm):(kM s).length=s.ac.length+s.proof.length+4:=by simp[kM];omega
theorem Si {J:WP} (V:aS J) (l:List Sm) (hG:iv J) (h1:l.length=1) (h7:(G l 0).kind=7) (hl:(G l 0).ac.length+(G l 0).proof.length<=100):Fn prog J 220 [.rd (xJ l)] (.bJ [.rd (ai (if gW (G l 0)then kM (G l 0)else [])),.int (if gW (G l 0)then 0 else 2:Int)]):=by
 refine fE Tryz.func220 λS w0 hS hJ0=>?_
 refine tw cc (ln 0 λcx=>?_)
 refine ak tb V [0] U2 [_] ?_
 refine af (au tb V [0,1002] [_,.int (l.length:Nat),_] [1] U2 Y ⟨aD B5,U⟩ ?_)
 refine cj 1 ?_ ?_<;>intro hb1
 ·
  exact False.elim (by rw[h1]at hb1;exact absurd hb1 dz)
 ·
  refine aj (nx (af (au tb V [0,1001] [_,.bool (l.any (λs'=>!gW s'))] [1] U2 Y ⟨λ_ _ hk Z hl _=>dE (RX V l 246 [] [] (λs'=>!gW s') (λq' hq'=>(Sj V q' hG (by obtain⟨j,hj,rfl⟩:=ee hq';obtain rfl:j=0:=oz;exact h7)).r) ((cO Tryz.func246))) (cO Tryz.func245) Y (aK hS _ hk Z) (Z.1) b9 (aq (hl.D 0 10 Y Y) (aq (pc 246) aP)) (jo V Z),U⟩ ?_)))
  refine cj 1 ?_ ?_<;>intro hb2
  ·
   have e2:gW (G l 0)=false:=by obtain⟨x,Z,hn⟩:=List.any_eq_true.1 hb2;obtain⟨q,hq,rfl⟩:=ee Z;obtain rfl:q=0:=oz;simpa using hn
   refine ak tb V [1000,1001] U2 U2 ?_
   exact tw (λh=>gj h (m:=0) (s:=2) Y) (aZ (λa w h=>dX (m:=0) (k:=1) Y (d9 h) Y Y (congrArg (λz=>AV.rd (ai z)) (show([]:List BA)=(if gW (G l 0)then kM (G l 0)else [])from by first | (rw[e2];rfl) | (rw[ah,if_neg oz,e2];rfl))) (eI (by first | (rw[e2];rfl) | (rw[ah,if_neg oz,e2];rfl)))))
  ·
   have e2:gW (G l 0)=true:=by have:=List.any_eq_false.1 hb2 (G l 0) (aC oz);simpa using this
   refine aj (nx (ak tb V [0,1000] [_] U2 ?_))
   refine af (au tb V [1,1000,1001,1002] [_,.int (l.length:Nat),_] [1] U4 Y ⟨aD B5,U⟩ ?_)
   refine ax (tw (iK 9 1 V) (lpo (ι:=Nat×Value×(List BA)) (λ(k,_,out)=>(k<=l.length)/\(out=if k=0 then []else kM (G l 0))) (λ(_,vo,out)=>[OB.row vo 9 1 (out.map dJ)]) (λ(k,vo,_)=>[(14,.int (k:Nat)),(4,.lit vo)]) (λ(k,_,_)=>l.length-k) [1,2,3,0] U2 (0,(.slice none 0 0),([]:List BA)) ⟨aI,Y⟩ ?_))
   rintro⟨k,vo,out⟩ ⟨aQ,ah⟩
   refine ak tb V [0,1,2,3,1000] [_] U5 ?_
   refine cI 4 ?_ ?_<;>intro aE<;>try simp at aE
   ·
    have e0:k=0:=by omega
    have e1:k=0->out=[]:=λe=>by rw[ah,if_pos e]
    have e5:=Jc (G l k)
    refine aj (nx (af (ax (aL (sy (.ptr (kE (G l k))) (λh=>cb (i:=(k:Int)) zc Y (h.get 0 Y) (h.get 2 Y) bM (cq (xs:=l) (k:=k) az) Y h.x) ?_)))))
    refine ao 1 tb Y (iJ (cs:=kE (G l k)) Wn Y Y Y (lb Y) Y Y Y dz (m:=0) Y Y (λa w h=>aK hS _ h.keep h.x _ aV) (λa w h w' hk'=>fi V _ _ hk' h.x) ?_)
    refine aA [0,3,4,5,6] U5 Y (nx (aL ?_))
    refine ao 2 tb Y (sy (.rd (ai (kM (G l k)))) (λh=>cQ (S5 V (G l k) (hG) (by rw[e0];exact h7) (by rw[e0];exact hl)) (cO Tryz.func248) Y (aK hS _ h.keep h.x) (h.x.1) (aq (h.get 0 Y) aP) (jo V h.x)) ?_)
    refine fP (f:=dJ) (m:=2) (s:=18) out (kM (G l k)) (λ_=>Y) j6 V hJ0 Y Y Y (lb Y) Y Y (λa w h=>(h.get 0 Y)) (by rw[e1 e0,e5,e0];simp only[List.length_nil];omega) (by rw[e1 e0,e5,e0];simp only[List.length_nil];omega) λv1=>?_
    refine ao 1 tb Y (aA [0,2,6,7,8] U5 Y ?_)
    refine nx (ln 1 λhl2=>?_)
    refine lZ tb V [0,2,3,4,1002] [_,.int ((out++(kM (G l k))).length:Nat),_] [1] U5 Y ⟨λ_ _ _ Z hl _=>kh b6 Y (kB hS Z (mo 0 Y) (hl.D 0 22 Y Y)) Z,U⟩ ?_
    refine cj 4 ?_ ?_<;>intro bh
    ·
     exact False.elim (by have:=Jc (G l k);rw[e0]at this;simp only[length_append,e1 e0,e0,decide_eq_true_eq]at bh;simp at bh;omega)
    ·
     refine aj (nx (aT tb V [0,1,2,1001] [.int (k+1:Nat),_] [0] U4 Y ⟨aM,U⟩ ?_))
     exact bq (k+1,v1,out++(kM (G l k))) [1,2,3,0] ⟨oz,by rw[e1 e0,e0];simp⟩
   ·
    refine aW (nx (ak tb V [1001,1002] U3 U2 ?_))
    exact tw (λh=>dV hS h (m:=0) (s:=2) Y) (aZ (λa w h=>dX (m:=0) (k:=1) Y (d9 h) Y Y (congrArg (λz=>AV.rd (ai z)) (show out=(if gW (G l 0)then kM (G l 0)else [])from by first | (rw[e2];rfl) | (rw[ah,if_neg oz,e2];rfl))) (eI (by first | (rw[e2];rfl) | (rw[ah,if_neg oz,e2];rfl)))))
theorem Ns (s:BA):gW ⟨7,⟨#[120]⟩,[⟨#[120]⟩],[s]⟩=fq s:=by
 have h1:fW ⟨#[120]⟩=true:=by decide+kernel
 have h2:gP ⟨#[120]⟩=true:=by decide+kernel
 simp[gW,h1,h2]
theorem SP {J:WP} (V:aS J) (s:BA) (hG:iv J):Fn prog J 178 [.str s] (.bool (fq s)):=by
 refine fE Tryz.func178 λS w0 hS hJ0=>?_
 refine tw cc (ak tb V [0] [_] [_] ?_)
 refine au tb V [1000,1002,1004,1007,1009,1010] [.rd (ai ([(⟨#[120]⟩:BA)])),_,.rd (ai ([s])),.agg (kE (⟨(7:Int),(⟨#[120]⟩:BA),[(⟨#[120]⟩:BA)],[s]⟩:Sm)),.rd (xJ ([(⟨(7:Int),(⟨#[120]⟩:BA),[(⟨#[120]⟩:BA)],[s]⟩:Sm)])),.bJ [.rd (ai (if gW (G ([(⟨(7:Int),(⟨#[120]⟩:BA),[(⟨#[120]⟩:BA)],[s]⟩:Sm)]) 0)then kM (G ([(⟨(7:Int),(⟨#[120]⟩:BA),[(⟨#[120]⟩:BA)],[s]⟩:Sm)]) 0)else [])),.int (if gW (G ([(⟨(7:Int),(⟨#[120]⟩:BA),[(⟨#[120]⟩:BA)],[s]⟩:Sm)]) 0)then 0 else 2:Int)],_,_,_,_,_] [0,2,3,4,5] U6 Y ⟨λ_ _ hk Z _ _=>ft bx j0 Y (Rel.aG (.string { data:= #[120] }) (lb Y)) (aK hS _ hk Z _ aV) (jo V Z),λ_ _ hk Z hl _=>ft bx j0 Y (hl.D 1 7 Y Y) (aK hS _ hk Z _ aV) (jo V Z),λa _ _ Z hl _=>gd (us:=[a.eval (.const (.int .i64 7)),a.eval (.const (.string { data:= #[120] })),a.eval (.tmp 6),a.eval (.tmp 8)]) Kh Y yz (bX (Rel.aG (.int .i64 7)) (bX (Rel.aG (.string { data:= #[120] }) (lb Y)) (bX (hl.D 0 6 Y Y) (bX (hl.D 2 8 Y Y) cE)))) Y Z,λ_ _ hk Z hl _=>To zc WQ Y Y (hl.D 3 9 Y Y) (aK hS _ hk Z _ aV) (jo V Z),bN hS V (Si V ([(⟨(7:Int),(⟨#[120]⟩:BA),[(⟨#[120]⟩:BA)],[s]⟩:Sm)]) (hG) (Y) (Y) (lb Y)) (cO Tryz.func220),U⟩ ?_
 refine ln 0 λ_=>?_
 refine ln 1 λ_=>?_
 refine ln 2 λ_=>?_
 refine ln 3 λ_=>?_
 refine ak tb V [1002] U3 [_] ?_
 exact bL 0 (hE:=eB (by rw[<-Ns s];simp only[G,List.getD_cons_zero];cases gW ⟨7,⟨#[120]⟩,[⟨#[120]⟩],[s]⟩<;>simp))
end Go.Proofs.YtdfadihhfppjaaaGreatDoor
namespace Go.Proofs.YtdfadihhfppjaaaGreatDoor
open Go.RowKit
theorem SY {J:WP} (V:aS J) (M1 M2:Nat) (M3 M4 M5:Nat) (d:Db)  :eX (ι:= { p':List BA×List BA // ec d=0->p'=(d.bH,d.vars) }) Tryz.prog J 137 [] [.ptr (di [M1,M2,M3,M4,M5]),.agg (bZ d)] [OB.set aB M1 ([]:List BA),OB.set aB M2 ([]:List BA)] (λ_=>.int (ec d)) (λi'=>[OB.set aB M1 (i'.1.1),OB.set aB M2 (i'.1.2)]):=by
 refine i7 Tryz.func137 λS w0 R hS hJ0 hH=>?_
 refine gQ (B:=So J S w0 50 (OB.set aB M1 ([]:List BA)::OB.set aB M2 ([]:List BA)::R) [(0,.ptr (di [M1,M2,M3,M4,M5])),(1,.agg (bZ d))]) ?_ λa w h=>h
 refine au tb V [0,1000] [.ptr (bZ d),_] [0] U2 Y ⟨cW hS V,U⟩ ?_
 refine af (au tb V [0,1,1001,1002,1003] [_,_,.int (d.bH.length:Nat),_] [2] U5 Y ⟨aD b6,U⟩ ?_)
 refine ln 2 λ_=>?_
 refine ax (lpo (ι:=Nat×(List BA)) (λ(k,cs)=>(k<=d.bH.length)/\(cs=d.bH.take k)/\(∀ j,j<k->gF d j=0)) (λ(_,cs)=>(OB.set aB M1 cs::OB.set aB M2 ([]:List BA)::R)) (λ(k,_)=>[(12,.int (k:Nat))]) (λ(k,_)=>d.bH.length-k) (r5 []) U4 (0,([]:List BA)) ⟨aI,Y,λj hj=>by omega⟩ ?_)
 rintro⟨k,cs⟩ ⟨aQ,ah,bp⟩
 refine ak tb V (r5 [1000]) [_] U6 ?_
 refine cI 5 ?_ ?_<;>intro hb1<;>try simp at hb1
 ·
  refine aj (nx (af (ax (au tb V (r5 [1002]) [.ptr [lS (G d.bH k)],_,_] [0] U6 Y ⟨bn bx,U⟩ ?_))))
  refine af (au tb V (r6 [1002]) [_,.bool (gP (G d.bH k)),_] [1] U7 Y ⟨bN hS V (Ba V (G d.bH k)) (cO Tryz.func170),U⟩ ?_)
  refine cj 6 ?_ ?_<;>intro hb2<;>try simp at hb2
  ·
   have q2:gF d k=2:=by simp[gF,hb2]
   have e9:ec d=2:=Iw oz bp (by rw[q2];decide) q2
   refine ak tb V [1000] [_] [_] ?_
   exact aZ (λa w h=>dt  (m:=0) ⟨(cs,([]:List BA)),by first | (intro h9;rw[e9]at h9;exact absurd h9 dz) | (intro _;rw[pL,bi,cS oz])⟩ Y h Y (eI (e9.symm)))
  ·
   refine aj (nx (af (au tb V (r6 [1005]) (V5 [.bool (decide ((G d.bH k)∈cs))]) [5] U7 Y ⟨λ_ _ _ Z hl _=>jD (Kd:=aB) (xs:=cs) iD jJ (G d.bH k) Y (aH Z (mo 0 Y)) (hl.D 3 22 Y Y) (hl.D 4 23 Y Y) Z,U⟩ ?_)))
   refine cj 6 ?_ ?_<;>intro aE<;>try simp at aE
   ·
    have q2:gF d k=6:=by simp[gF,hb2,<-ah,aE]
    have e9:ec d=6:=Iw oz bp (by rw[q2];decide) q2
    refine ak tb V [1000] [_] [_] ?_
    exact aZ (λa w h=>dt  (m:=0) ⟨(cs,([]:List BA)),by first | (intro h9;rw[e9]at h9;exact absurd h9 dz) | (intro _;rw[pL,bi,cS oz])⟩ Y h Y (eI (e9.symm)))
   ·
    refine aj (nx (cG (ao 5 tb Y (sf iD V hJ0 (G d.bH k) Y Y (.inl Y) (λa w h=>⟨(h.get 1 Y),(h.get 0 Y),(Rel.aG (.bool true))⟩) ?_))))
    refine aA [5,6,7,8,9] U5 Y (nx (aT tb V [0,1,2,3,1001] [.int (k+1:Nat),_] [0] U5 Y ⟨aM,U⟩ ?_))
    exact bq (k+1,cU cs (G d.bH k)) (r5 []) ⟨oz,by rw[dG oz,<-ah];simp[cU,aE],cF bp (by simp[gF,hb2,<-ah,aE])⟩
 ·
  have pL:cs=d.bH:=by rw[ah,cS oz]
  have e1:fS d.bH.length (gF d)=0:=mB λj hj=>bp j oz
  refine aW (nx (af (au tb V [0,1001,1002,1003] [_,_,.int (d.vars.length:Nat),_] [2] U4 Y ⟨aD b6,U⟩ ?_)))
  refine ln 1 λ_=>?_
  refine ax (lpo (ι:=Nat×(List BA)) (λ(k,vs)=>(k<=d.vars.length)/\(vs=d.vars.take k)/\(∀ j,j<k->iM d j=0)) (λ(_,vs)=>(OB.set aB M1 cs::OB.set aB M2 vs::R)) (λ(k,_)=>[(34,.int (k:Nat))]) (λ(k,_)=>d.vars.length-k) [0,1,2,3] U3 (0,([]:List BA)) ⟨aI,Y,λj hj=>by omega⟩ ?_)
  rintro⟨k,vs⟩ ⟨fx,bi,iN⟩
  refine ak tb V [0,1,2,3,1000] [_] U5 ?_
  refine cI 4 ?_ ?_<;>intro bh<;>try simp at bh
  ·
   refine aj (nx (af (ax (au tb V [0,1,2,3,1002] [.ptr [lS (G d.vars k)],_,_] [0] U5 Y ⟨bn bx,U⟩ ?_))))
   refine af (au tb V (r5 [1002]) [_,.bool (gP (G d.vars k)),_] [1] U6 Y ⟨bN hS V (Ba V (G d.vars k)) (cO Tryz.func170),U⟩ ?_)
   refine cj 5 ?_ ?_<;>intro bV<;>try simp at bV
   ·
    have q5:iM d k=2:=by simp[iM,bV]
    have e9:ec d=2:=Ix e1 oz iN (by rw[q5];decide) q5
    refine ak tb V [1000] [_] [_] ?_
    exact aZ (λa w h=>dt  (m:=0) ⟨(cs,vs),by first | (intro h9;rw[e9]at h9;exact absurd h9 dz) | (intro _;rw[pL,bi,cS oz])⟩ Y h Y (eI (e9.symm)))
   ·
    refine aj (nx (af (au tb V (r5 [1002]) [_,_,.bool (decide ((G d.vars k)∈cs)||decide ((G d.vars k)∈vs))] [2] U6 Y ⟨λ_ _ hk Z hl _=>dE (w7 V M1 M2 M3 M4 M5 cs vs (G d.vars k)) (cO Tryz.func171) Y (aK hS _ hk Z) (Z.1) (dC (aH Z (mo 0 Y)) (dC (aH Z (mo 1 Y)) b9)) (aq (hl.D 0 41 Y Y) (aq (hl.D 1 42 Y Y) aP)) (jo V Z),U⟩ ?_)))
    refine cj 5 ?_ ?_<;>intro eM<;>try simp at eM
    ·
     have q5:iM d k=6:=by rw[iM,if_neg (by simp[bV]),if_pos (by rw[<-bi,<-pL];simpa using eM)]
     have e9:ec d=6:=Ix e1 oz iN (by rw[q5];decide) q5
     refine ak tb V [1000] [_] [_] ?_
     exact aZ (λa w h=>dt  (m:=0) ⟨(cs,vs),by first | (intro h9;rw[e9]at h9;exact absurd h9 dz) | (intro _;rw[pL,bi,cS oz])⟩ Y h Y (eI (e9.symm)))
    ·
     refine aj (nx (cG (ao 5 tb Y (kw bQ ?_))))
     refine sf iD V hJ0 (G d.vars k) Y Y (.inl Y) (λa w h=>⟨(h.get 1 Y),(h.get 0 Y),(Rel.aG (.bool true))⟩) ?_
     refine aA [5,6,7,8] U4 Y (nx (aT tb V [0,1,2,1001] [.int (k+1:Nat),_] [0] U4 Y ⟨aM,U⟩ ?_))
     exact kw bQ (bq (k+1,cU vs (G d.vars k)) [0,1,2,3] ⟨oz,by rw[dG oz,<-bi];simp only[cU];rw[if_neg eM.2],cF iN (by rw[iM,if_neg (by simp[bV]),if_neg (by rw[<-bi,<-pL];simpa using eM)])⟩)
  ·
   have e9:ec d=0:=Vt e1 (mB λj hj=>iN j oz)
   refine aW (nx (ak tb V [1000] [_] [_] ?_))
   exact aZ (λa w h=>dt  (m:=0) ⟨(cs,vs),by first | (intro h9;rw[e9]at h9;exact absurd h9 dz) | (intro _;rw[pL,bi,cS oz])⟩ Y h Y (eI (e9.symm)))
theorem SM {J:WP} (V:aS J) (M1 M2:Nat) (M3 M4:Nat) (M5 L1 T1:Nat) (cs vs fs:List BA) (hm:List (BA×Hy)) (tm:List (BA×BA)) (ls:List BA) (ts:List (BA×BA)) (y:Hy) (dm:Bool)  :cM Tryz.prog J 174 [OB.set aB M1 cs,OB.set aB M2 vs,OB.set aB M3 fs,OB.mH M4 hm,OB.mT M5 tm,OB.set aB L1 ls,OB.mT T1 ts] [.ptr (di [M1,M2,M3,M4,M5]),.agg [.lit (.map (some L1)),.lit (.map (some T1))],.agg (aN y),.bool dm] (.int (iP cs vs fs hm tm ls ts y dm)):=by
 refine fk Tryz.func174 λS w0 hS hJ0 hH=>?_
 refine tw cc (au tb V [0,3,1000,1001] [.ptr (di [L1,T1]),.ptr (aN y),_] [0,1] U4 Y ⟨cW hS V,cW hS V,U⟩ ?_)
 refine af (au tb V [0,2,3,1038] [_,_,.bool (fW y.ae),_,_,_,_,_,_,_,_,_,_,_,_,_,_,_,.int (y.ac.length:Nat),_,_,_,_,_,_,_,_,_,_,.int (y.ac.length:Nat),_,_,_,_,.int (y.ac.length:Nat),_,_,_,_] [2,18,29,34] U4 Y ⟨bN hS V (A9 V y.ae) (cO Tryz.func172),aD b6,aD b6,aD b6,U⟩ ?_)
 refine cj 3 ?_ ?_<;>intro hb1
 ·
  replace hb1:gY y dm=true:=hb1
  refine ak tb V [1000] [_] [_] ?_
  exact bL 0 (hE:=eI (by grind[iP]))
 ·
  replace hb1:gY y dm=false:=hb1
  have rK:=EK hb1
  refine aj (nx (af (au tb V [0,1,2,1019] (V3 [.bool (decide (y.ae∈cs)||decide (y.ae∈vs)),_,_,_,_,_,_,_,.bool (decide (y.ae∈fs)),_,_,_,_,_,_,.bool (decide (y.ae∈ls)),_]) [3,11,18] U4 Y ⟨λ_ _ hk Z hl _=>dE (w7 V M1 M2 M3 M4 M5 cs vs y.ae) (cO Tryz.func171) Y (aK hS _ hk Z) (Z.1) (dC (dD hH hk Z (mo 0 Y)) (dC (dD hH hk Z (mo 1 Y)) b9)) (aq (hl.D 0 55 Y Y) (aq (hl.D 2 57 Y Y) aP)) (jo V Z),λ_ _ hk Z hl hc=>jD (Kd:=aB) (xs:=fs) iD jJ y.ae Y (dD hH hk Z (mo 2 Y)) (hl.D 8 63 Y hc) (hl.D 10 65 Y hc) Z,λ_ _ hk Z hl hc=>jD (Kd:=aB) (xs:=ls) iD jJ y.ae Y (dD hH hk Z (mo 5 Y)) (hl.D 15 70 Y hc) (hl.D 17 72 Y hc) Z,U⟩ ?_)))
  refine cj 3 ?_ ?_<;>intro hb2
  ·
   refine ak tb V [1000] [_] [_] ?_
   exact bL 0 (hE:=eI (by grind[iP]))
  ·
   refine aj (nx (af (ak tb V [0,1,2,1001] U2 U4 ?_)))
   refine cj 3 ?_ ?_<;>intro aE
   ·
    refine af (au tb V [0,1,2,1005,1021] (V6 [.ptr [lS (G y.ac 0)],_,.bool (decide ((G y.ac 0)∈cs)),_,_,_,_,_,_,_,_,.ptr [lS (G y.ac 1)],_,.bool (decide ((G y.ac 1)∈vs)),_,_]) [6,8,17,19] U5 Y ⟨bn (k:=0) bx (hk:=by have:=im hb1 aE;omega),λ_ _ hk Z hl _=>jD (Kd:=aB) (xs:=cs) iD jJ (G y.ac 0) Y (dD hH hk Z (mo 0 Y)) (hl.D 3 80 Y Y) (hl.D 7 84 Y Y) Z,cN (k:=1) bx (hk:=λ(aF:((!(decide ((G y.ac 0)∈cs)))==false)=true)=>by(try simp at aF);have:=im hb1 aE;omega),λ_ _ hk Z hl hc=>jD (Kd:=aB) (xs:=vs) iD jJ (G y.ac 1) Y (dD hH hk Z (mo 1 Y)) (hl.D 14 91 Y hc) (hl.D 18 95 Y hc) Z,U⟩ ?_)
    refine ln 3 λ_=>?_
    refine cj 4 ?_ ?_<;>intro bh
    ·
     refine ak tb V [1000] [_] [_] ?_
     exact bL 0 (hE:=eI (by grind[iP]))
    ·
     refine aj (nx (au tb V [0,2,1010,1011] (V4 [.ptr [lS (G y.ac 1)],_,.bJ [.str ((aw ts (G y.ac 1)).getD default),.bool ((aw ts (G y.ac 1)).isSome)],_,_,_,_,_]) [4,6] U4 Y ⟨bn (k:=1) bx (hk:=by have:=im hb1 aE;omega),λ_ _ hk Z hl _=>mc (Kd:=aB) (f:=(λz':BA=>AV.str z')) (L:=ts) wP Je (G y.ac 1) Y (dD hH hk Z (mo 6 Y)) (hl.D 1 101 Y Y) (hl.D 5 105 Y Y) Z,U⟩ ?_))
     refine af (au tb V [0,1,2,3,1012,1013] (V6 [.ptr [lS (G y.ac 1)],_,.bJ [.str ((aw tm (G y.ac 1)).getD default),.bool ((aw tm (G y.ac 1)).isSome)],_,_,_,_,_]) [6,8] U6 Y ⟨bn (k:=1) bx (hk:=by have:=im hb1 aE;omega),λ_ _ hk Z hl _=>mc (Kd:=aB) (f:=(λz':BA=>AV.str z')) (L:=tm) wP Je (G y.ac 1) Y (dD hH hk Z (mo 4 Y)) (hl.D 3 113 Y Y) (hl.D 7 117 Y Y) Z,U⟩ ?_)
     refine au tb V [0,1,3,1019] (V5 [.ptr [lS (G y.ac 0)],_,_,_,_,_,_,_,_,_,.ptr [lS (G y.ac 0)],_,_,_,_]) [5,15] U4 Y ⟨cN (k:=0) bx (hk:=λ(aF:(((aw tm (G y.ac 1)).isSome)==true)=true)=>by(try simp at aF);have:=im hb1 aE;omega),cN (k:=0) bx (hk:=λ(aF:(((((aw tm (G y.ac 1)).isSome)&& (!decide (((aw tm (G y.ac 1)).getD default)=(G y.ac 0))))==false)&& (((aw ts (G y.ac 1)).isSome)==true))=true)=>by(try simp at aF);have:=im hb1 aE;omega),U⟩ ?_
     refine cj 3 ?_ ?_<;>intro bV
     ·
      refine ak tb V [1000] [_] [_] ?_
      exact bL 0 (hE:=eI (by grind[iP]))
     ·
      refine aj (nx (ak tb V [0,1,1000] [_] U3 ?_))
      refine cj 2 ?_ ?_<;>intro eM
      ·
       refine ak tb V [1000] [_] [_] ?_
       exact bL 0 (hE:=eI (by grind[iP]))
      ·
       refine aj (nx (af (af (λa w h=>iq (γ:=Nat) (λix'=>([.ptr (di [M1,M2,M3,M4,M5]),.ptr (di [M1,M2,M3,M4,M5]),.ptr (di [M4,M5]),.lit (.map (some M4)),.ptr (aN y),.str y.ae,.bJ [.agg (aN ((aw hm y.ae).getD default)),.bool ((aw hm y.ae).isSome)],.bJ [.agg (aN ((aw hm y.ae).getD default)),.bool ((aw hm y.ae).isSome)],.agg (aN ((aw hm y.ae).getD default)),.bool ((aw hm y.ae).isSome),.any,.any,.bool ((aw hm y.ae).isSome)]:List AV).getD ix' .any) (λ_=>true) [(6,λ_=>.ptr (aN y)),(14,λg=>.at g 0),(15,λ_=>.bool ((aw hm y.ae).isSome))] (λj' g=>match j' with | 0=>[] | 1=>[OB.var g [lS (⟨#[]⟩:BA),lB false,ai ([]:List BA)]] | _=>[OB.var g (aN ((aw hm y.ae).getD default))]) (λk' g=>match k' with | 0=>(.pointer (some ⟨g,0,none⟩)) | _=>undef) [10,11] 2 0 (λ_=>Y) h V cP Y Y Y Y Y Y hsb ⟨oX Y λZ hl=>b8 Y (hl.env 0 0 _ Y Y) Z,oX Y λZ hl=>kC Y (hl.D 0 150 Y Y) Z,oX Y λZ hl=>ca th Y (hl.D 1 151 Y Y) Z,oX Y λZ hl=>bU ue Y (hl.D 2 152 Y Y) Z,oX Y λZ hl=>ca vR Y (hl.env 1 6 _ Y Y) Z,oX Y λZ hl=>bU fd Y (hl.D 4 154 Y Y) Z,oY Y λhk Z hl=>mc (Kd:=aB) (f:=(λz':Hy=>AV.agg (aN z'))) (L:=hm) tU yc y.ae Y (dD hH hk Z (mo 3 Y)) (hl.D 3 153 Y Y) (hl.D 5 155 Y Y) Z,oX Y λZ hl=>b8 Y (hl.D 6 156 Y Y) Z,oX Y λZ hl=>gi Y (hl.D 7 149 Y Y) Y Z,oX Y λZ hl=>gi Y (hl.D 7 149 Y Y) Y Z,bB Y,bB Y,oX Y λZ hl=>gO Y (hl.D 9 158 Y Y) Z,U⟩ ⟨?LN,?LO,U⟩ ⟨.old 1 6 _,.dZ 0 10 14 (λg=>(.pointer (some ⟨g,0,none⟩))) Y Y (λ_=>Y) (λ_=>True.intro),.new 12 15 _,U⟩ ?Xk))))
       case LN=>exact⟨_,Y,Y,Y,Y,λg _ w hk Z _ _=>bC (gq kK V Y hk Z) λv w' ⟨g',hv,hp⟩=>⟨g',Y,λk' hk'=>absurd hk' (Nat.not_lt_zero _),λ_=>hv,hp⟩⟩
       case LO=>exact⟨_,Y,Y,Y,Y,λg _ w hk Z hl hs=>(by obtain⟨eJ,hv2,ed⟩:=jm (hl.D 8 157 Y Y);exact bC (ii (S':=S) (off:=0) (news:=U3) (es:=U3) (us:=eJ) V hJ0 jn Y hk Z (kj (hs 0 10 _ 14 oz Y Y Y)) (by rw[hv2];rfl) ed (lb Y) Y) λv w' hp=>⟨g,Y,λ_ _=>rfl,λe=>(by cases e),hp⟩)⟩
       clear a w h
       intro b1
       dsimp only[List.map]
       refine kw (λh=>fg hS h (m:=1) (s:=14) Y) (nx (au tb V [1006] (V4 [.bool (kX ((aw hm y.ae).getD default) y),_,_]) [4] [_] Y ⟨bN hS V (G0 V ((aw hm y.ae).getD default) y) (cO Tryz.func213),U⟩ ?_))
       refine cj 0 ?_ ?_<;>intro iA
       ·
        refine ak tb V [1000] [_] [_] ?_
        exact bL 0 (hE:=eI (by grind[iP]))
       ·
        refine aj (nx (ak tb V [1000] [_] [_] ?_))
        exact bL 0 (hE:=eI (by grind[iP]))
   ·
    refine au tb V [0,2,1002,1004] (V3 [.int (k8 cs vs y.ac),_]) [3] U4 Y ⟨λ_ _ hk Z hl _=>dE (G1 V M1 M2 M3 M4 M5 cs vs y.ac) (cO Tryz.func175) Y (aK hS _ hk Z) (Z.1) (dC (dD hH hk Z (mo 0 Y)) (dC (dD hH hk Z (mo 1 Y)) b9)) (aq (hl.D 0 142 Y Y) (aq (hl.D 2 144 Y Y) aP)) (jo V Z),U⟩ ?_
    refine ln 2 λ_=>?_
    refine ak tb V [0,1,3,1001] U2 U4 ?_
    refine cj 3 ?_ ?_<;>intro fM
    ·
     refine ak tb V [1001] U2 [_] ?_
     exact bL 0 (hE:=eI (by grind[iP]))
    ·
     refine aj (nx (af (af (λa w h=>iq (γ:=Nat) (λix'=>([.ptr (di [M1,M2,M3,M4,M5]),.ptr (di [M1,M2,M3,M4,M5]),.ptr (di [M4,M5]),.lit (.map (some M4)),.ptr (aN y),.str y.ae,.bJ [.agg (aN ((aw hm y.ae).getD default)),.bool ((aw hm y.ae).isSome)],.bJ [.agg (aN ((aw hm y.ae).getD default)),.bool ((aw hm y.ae).isSome)],.agg (aN ((aw hm y.ae).getD default)),.bool ((aw hm y.ae).isSome),.any,.any,.bool ((aw hm y.ae).isSome)]:List AV).getD ix' .any) (λ_=>true) [(6,λ_=>.ptr (aN y)),(14,λg=>.at g 0),(15,λ_=>.bool ((aw hm y.ae).isSome))] (λj' g=>match j' with | 0=>[] | 1=>[OB.var g [lS (⟨#[]⟩:BA),lB false,ai ([]:List BA)]] | _=>[OB.var g (aN ((aw hm y.ae).getD default))]) (λk' g=>match k' with | 0=>(.pointer (some ⟨g,0,none⟩)) | _=>undef) [10,11] 2 0 (λ_=>Y) h V cP Y Y Y Y Y Y hsb ⟨oX Y λZ hl=>b8 Y (hl.env 0 0 _ Y Y) Z,oX Y λZ hl=>kC Y (hl.D 0 150 Y Y) Z,oX Y λZ hl=>ca th Y (hl.D 1 151 Y Y) Z,oX Y λZ hl=>bU ue Y (hl.D 2 152 Y Y) Z,oX Y λZ hl=>ca vR Y (hl.env 1 6 _ Y Y) Z,oX Y λZ hl=>bU fd Y (hl.D 4 154 Y Y) Z,oY Y λhk Z hl=>mc (Kd:=aB) (f:=(λz':Hy=>AV.agg (aN z'))) (L:=hm) tU yc y.ae Y (dD hH hk Z (mo 3 Y)) (hl.D 3 153 Y Y) (hl.D 5 155 Y Y) Z,oX Y λZ hl=>b8 Y (hl.D 6 156 Y Y) Z,oX Y λZ hl=>gi Y (hl.D 7 149 Y Y) Y Z,oX Y λZ hl=>gi Y (hl.D 7 149 Y Y) Y Z,bB Y,bB Y,oX Y λZ hl=>gO Y (hl.D 9 158 Y Y) Z,U⟩ ⟨?LP,?LQ,U⟩ ⟨.old 1 6 _,.dZ 0 10 14 (λg=>(.pointer (some ⟨g,0,none⟩))) Y Y (λ_=>Y) (λ_=>True.intro),.new 12 15 _,U⟩ ?Xl))))
     case LP=>exact⟨_,Y,Y,Y,Y,λg _ w hk Z _ _=>bC (gq kK V Y hk Z) λv w' ⟨g',hv,hp⟩=>⟨g',Y,λk' hk'=>absurd hk' (Nat.not_lt_zero _),λ_=>hv,hp⟩⟩
     case LQ=>exact⟨_,Y,Y,Y,Y,λg _ w hk Z hl hs=>(by obtain⟨eJ,hv2,ed⟩:=jm (hl.D 8 157 Y Y);exact bC (ii (S':=S) (off:=0) (news:=U3) (es:=U3) (us:=eJ) V hJ0 jn Y hk Z (kj (hs 0 10 _ 14 oz Y Y Y)) (by rw[hv2];rfl) ed (lb Y) Y) λv w' hp=>⟨g,Y,λ_ _=>rfl,λe=>(by cases e),hp⟩)⟩
     clear a w h
     intro b2
     dsimp only[List.map]
     refine kw (λh=>fg hS h (m:=1) (s:=14) Y) (nx (au tb V [1006] (V4 [.bool (kX ((aw hm y.ae).getD default) y),_,_]) [4] [_] Y ⟨bN hS V (G0 V ((aw hm y.ae).getD default) y) (cO Tryz.func213),U⟩ ?_))
     refine cj 0 ?_ ?_<;>intro iA
     ·
      refine ak tb V [1000] [_] [_] ?_
      exact bL 0 (hE:=eI (by grind[iP]))
     ·
      refine aj (nx (ak tb V [1000] [_] [_] ?_))
      exact bL 0 (hE:=eI (by grind[iP]))
section
variable {J:WP} (V:aS J)
include V
theorem R2 (xs ys:List Pr)  :Fn Tryz.prog J 218 [.rd (bI xs),.rd (bI ys)] (.bool (decide (xs=ys))):=by
 refine fE Tryz.func218 λS w0 hS hJ0=>?_
 clear hJ0
 refine ln 0 λ_=>?_
 refine ln 1 λ_=>?_
 refine qs tb V [0,1] [_] U2 ?_
 refine af (aJ tb V [0,1,1004] [_,.int (xs.length:Nat),_,.int (ys.length:Nat),_] [1,3] U3 Y ⟨aD fH,aD fH,U⟩ ?_)
 refine cj 2 ?_ ?_<;>intro hb1<;>try simp at hb1
 ·
  refine qs tb V [1000] [_] [_] ?_
  exact aU 0 (hE:=eB (by first | (have:=jN (xs:=xs) (ys:=ys) oz (λj hj=>sb.1 (ah j oz));simp[this];done) | (symm;rw[decide_eq_false_iff_not];intro e;subst e;simp at aE;done) | (symm;rw[decide_eq_false_iff_not];intro e;subst e;exact hb1 Y)))
 ·
  refine aj (nx (af (aJ tb V [0,1,1001,1002] [_,.int (xs.length:Nat),_] [1] U4 Y ⟨aD fH,U⟩ ?_)))
  refine ax (lp (ι:=Nat) (λk=>(k<=xs.length)/\(∀ j,j<k->ib (G xs j) (G ys j)=true)) (λk=>[(13,.int (k:Nat))]) (λk=>xs.length-k) [0,1,2,3] U3 0 ⟨aI,λj hj=>by omega⟩ ?_)
  rintro k ⟨aQ,ah⟩
  refine qs tb V [0,1,2,3,1000] [_] U5 ?_
  refine cI 4 ?_ ?_<;>intro hb2<;>try simp at hb2
  ·
   refine aj (nx (af (ax (qs tb V [0,1,2,3,1001] U2 U5 ?_))))
   refine aJ tb V [0,1,2,3,1008] [_,_,.ptr (aR (G xs k)),_,_,_,.ptr (aR (G ys k)),_,.bool (!(decide ((G xs k).a=(G ys k).a)&&decide ((G xs k).b=(G ys k).b)))] [2,6,8] U5 Y ⟨bn de,bn de,λ_ _ _ Z hl _=>Bn rf Y (hl.D 3 19 Y Y) (hl.D 7 23 Y Y) Z,U⟩ ?_
   refine cj 4 ?_ ?_<;>intro aE<;>try simp at aE
   ·
    refine qs tb V [1000] [_] [_] ?_
    exact aU 0 (hE:=eB (by first | (have:=jN (xs:=xs) (ys:=ys) oz (λj hj=>sb.1 (ah j oz));simp[this];done) | (symm;rw[decide_eq_false_iff_not];intro e;subst e;simp at aE;done) | (symm;rw[decide_eq_false_iff_not];intro e;subst e;exact hb1 Y)))
   ·
    refine aj (nx (dI tb V [0,1,2,1001] [.int (k+1:Nat),_] [0] U4 Y ⟨aM,U⟩ ?_))
    exact dO (k+1) [0,1,2,3] ⟨oz,cF ah (by simp[ib,aE])⟩
  ·
   refine aW (nx (qs tb V [1000] [_] [_] ?_))
   exact aU 0 (hE:=eB (by first | (have:=jN (xs:=xs) (ys:=ys) oz (λj hj=>sb.1 (ah j oz));simp[this];done) | (symm;rw[decide_eq_false_iff_not];intro e;subst e;simp at aE;done) | (symm;rw[decide_eq_false_iff_not];intro e;subst e;exact hb1 Y)))
theorem SX (M1 M2:Nat) (M3 M4 M5:Nat) (vs:List BA) (f:Fr) (h2:f.aa.length<=40) (h3:f.wide.length*32<=140737488351232) (h4:∀ x∈f.aa,x.be=true->x.ac.length=2):cM Tryz.prog J 176 [OB.set aB M2 vs] [.ptr (di [M1,M2,M3,M4,M5]),.agg (aY f)] (.int (iu vs f)):=by
 refine fk Tryz.func176 λS w0 hS hJ0 hH=>?_
 refine tw cc (au tb V [0,1000] [.ptr (aY f),_] [0] U2 Y ⟨cW hS V,U⟩ ?_)
 refine af (λa w h=>iq (γ:=Nat) (λix'=>([.ptr (di [M1,M2,M3,M4,M5]),.ptr (di [M1,M2,M3,M4,M5]),.ptr (di [M2,M3,M4,M5]),.lit (.map (some M2)),.ptr [bW f.aa,bI f.apart,ai f.ac,bW f.bA,bI f.wide,ai f.proof],.rd (bW f.aa),.ptr [ai f.ac,bW f.bA,bI f.wide,ai f.proof],.rd (ai f.ac),.rd (ct (f.ac::(bR f.aa).map Hy.ac)),.any,.any]:List AV).getD ix' .any) (λ_=>true) [(0,λ_=>.ptr (di [M1,M2,M3,M4,M5])),(3,λ_=>.ptr (aY f)),(5,λg=>.lit (.map (some g)))] (λj' g=>match j' with | 0=>[] | _=>[OB.set aB g (dl vs (f.ac::(bR f.aa).map Hy.ac).flatten)]) (λk' g=>match k' with | 0=>(.map (some g)) | 1=>(.map (some g)) | _=>undef) [9,10] 2 0 (λ_=>Y) h V cP Y Y Y Y Y Y hsb ⟨oX Y λZ hl=>b8 Y (hl.env 0 0 _ Y Y) Z,oX Y λZ hl=>kC Y (hl.D 0 11 Y Y) Z,oX Y λZ hl=>ca M8 Y (hl.D 1 12 Y Y) Z,oX Y λZ hl=>bU Gr Y (hl.D 2 13 Y Y) Z,oX Y λZ hl=>ca ti Y (hl.env 1 3 _ Y Y) Z,oX Y λZ hl=>bU rW Y (hl.D 4 15 Y Y) Z,oX Y λZ hl=>ca Nl Y (hl.env 1 3 _ Y Y) Z,oX Y λZ hl=>bU ia Y (hl.D 6 17 Y Y) Z,oY Y λhk Z hl=>cQ (SF V f.aa f.ac (h2)) (cO Tryz.func216) Y (aK hS _ hk Z) (Z.1) (aq (hl.D 5 16 Y Y) (aq (hl.D 7 18 Y Y) aP)) (jo V Z),bB Y,bB Y,U⟩ ⟨?ny,?pK,U⟩ ⟨.old 0 0 _,.old 1 3 _,.dZ 1 10 5 (λg=>(.map (some g))) Y Y (λ_=>Y) (λ_=>True.intro),U⟩ ?tV)
 case ny=>exact⟨_,Y,Y,Y,Y,λ_ _ w hk Z hl _=>bC (pI (O:=[]) (R:=[]) (ST V M2 vs (f.ac::(bR f.aa).map Hy.ac)) (cO Tryz.func215) Y hS hJ0 (dC (hH _ (mo 0 Y)) b9) hk Z (aq (hl.D 3 14 Y Y) (aq (hl.D 8 19 Y Y) aP))) λv w' ⟨i,hp,hv⟩=>⟨i,Y,λk' hk'=>absurd hk' (Nat.not_lt_zero _),λ_=>hv.lit,hp⟩⟩
 case pK=>exact⟨_,Y,Y,Y,Y,λg _ w hk Z _ hs=>bC (rc (.inl Y) (hs 0 9 _ 20 oz Y Y Y) hk Z) λv w' hp=>⟨g,Y,λ_ _=>rfl,λ_=>hp.1,hp.2⟩⟩
 clear a w h
 intro z1
 dsimp only[List.map]
 refine nx (ak tb V [0,1,2,1000] [_] U4 ?_)
 refine af (au tb V [0,1,2,3,1001,1002,1003] [_,_,.int (f.aa.length:Nat),_] [2] U7 Y ⟨aD cT,U⟩ ?_)
 refine ln 4 λ_=>?_
 refine ax (lpo (ι:=Nat×Nat) (λ(k,n)=>(k<=f.aa.length)/\(n=(eG (f.aa.take k)).length)/\((f.aa.take k).all (kR (kx vs f))=true)/\(n<=k)) (λ(_,_)=>[OB.set aB z1 (dl vs (f.ac::(bR f.aa).map Hy.ac).flatten)]) (λ(k,n)=>[(24,.int (k:Nat)),(6,.int (n:Nat))]) (λ(k,_)=>f.aa.length-k) [0,1,2,4,5,6,3] U5 (0,0) ⟨aI,Y,Y,aI⟩ ?_)
 rintro⟨k,n⟩ ⟨aQ,ah,bp,gV⟩
 refine ak tb V (r7 [1000]) [_] U8 ?_
 refine cI 7 ?_ ?_<;>intro hb1<;>try simp at hb1
 ·
  refine aj (nx (af (ax (aL (sy (.ptr (aN (G f.aa k))) (λh=>cb (i:=(k:Int)) cD Y (h.get 3 Y) (h.get 5 Y) bM (cq (xs:=f.aa) (k:=k) az) Y h.x) ?_)))))
  refine ao 1 tb Y (iJ (cs:=aN (G f.aa k)) su Y Y Y (lb Y) Y Y Y dz (m:=0) Y Y (λa w h=>aK hS _ h.keep h.x _ aV) (λa w h w' hk'=>fi V _ _ hk' h.x) ?_)
  refine aA [0,3,4,5,6,7,8,9] U8 Y (nx (ak tb V (r8 [1001]) U2 U9 ?_))
  refine cj 8 ?_ ?_<;>intro hb2<;>try simp at hb2
  ·
   refine af (au tb V [1,2,3,4,5,6,7,1002,1006] (V3 [.ptr [lS (G ((G f.aa k).ac) 1)],_,.bool (decide ((G ((G f.aa k).ac) 1)∈(dl vs (f.ac::(bR f.aa).map Hy.ac).flatten))),_]) [3,5] U9 Y ⟨bn (k:=1) bx (hk:=by have:=h4 _ (aC oz) hb2;omega),λ_ _ _ Z hl _=>jD (Kd:=aB) (xs:=(dl vs (f.ac::(bR f.aa).map Hy.ac).flatten)) iD jJ (G ((G f.aa k).ac) 1) Y (aH Z (mo 0 Y)) (hl.D 0 30 Y Y) (hl.D 4 34 Y Y) Z,U⟩ ?_)
   refine ln 7 λ_=>?_
   refine cj 8 ?_ ?_<;>intro aE
   ·
    have q3:iu vs f=70:=Uy (tX hb1 (by simp only[kR,hb2,Bool.not_true,Bool.false_or];exact decide_eq_false (iU aE)))
    refine ak tb V [1000] [_] [_] ?_
    exact bL 0 (hE:=eI (q3.symm))
   ·
    refine aj (nx (aT tb V (r6 [1002]) [_,.int (n+1:Nat),_] [1] U7 Y ⟨aM (h0:=by omega),U⟩ ?_))
    refine nx (aT tb V (r5 [6,1001]) [.int (k+1:Nat),_] [0] U7 Y ⟨aM,U⟩ ?_)
    exact bq (k+1,n+1) (r5 [6,5]) ⟨oz,by rw[eG,kP oz,ah];simp[eG,hb2],by rw[qZ oz,bp];simp only[kR,hb2,Bool.not_true,Bool.false_or,Bool.true_and];exact decide_eq_true (oU aE),oz⟩
  ·
   refine aj (nx (aT tb V [1,2,3,4,5,7,1001] [.int (k+1:Nat),_] [0] U7 Y ⟨aM,U⟩ ?_))
   exact bq (k+1,n) (r5 [6,5]) ⟨oz,by rw[eG,kP oz,ah];simp[eG,hb2],by rw[qZ oz,bp];simp[kR,hb2],oz⟩
 ·
  have e1:f.aa.all (kR (kx vs f))=true:=by rw[<-cS (xs:=f.aa) oz];exact bp
  have s5:n=(eG f.aa).length:=by rw[ah,cS oz]
  refine aW (nx (af (au tb V [0,1,2,1003] [_,_,.int ((dl vs (f.ac::(bR f.aa).map Hy.ac).flatten).length:Nat),_] [2] U4 Y ⟨λ_ _ _ Z hl _=>TE VS Y (aH Z (mo 0 Y)) (hl.D 1 41 Y Y) Z,U⟩ ?_)))
  refine cj 3 ?_ ?_<;>intro bh
  ·
   have zP:¬ n=(kx vs f).length:=λe=>iU bh (congrArg Int.ofNat e)
   have q3:iu vs f=70:=Uz (by rw[<-s5];exact zP)
   refine ak tb V [1000] [_] [_] ?_
   exact bL 0 (hE:=eI (q3.symm))
  ·
   have zP:n=(kx vs f).length:=Int.ofNat.inj (oU bh)
   refine aj (nx (af (au tb V [0,1,2,1001,1002,1003] [_,_,.int (f.wide.length:Nat),_] [2] U6 Y ⟨aD fH,U⟩ ?_)))
   refine ln 3 λ_=>?_
   refine ax (lpo (ι:=Nat) (λk=>(k<=f.wide.length)/\(∀ j,j<k->mq vs f.wide j=false)) (λ_=>[OB.set aB z1 (dl vs (f.ac::(bR f.aa).map Hy.ac).flatten)]) (λk=>[(47,.int (k:Nat))]) (λk=>f.wide.length-k) (r6 []) U5 0 ⟨aI,λj hj=>by omega⟩ ?_)
   rintro k ⟨fx,bi⟩
   refine ak tb V (r6 [1000]) [_] U7 ?_
   refine cI 6 ?_ ?_<;>intro bV<;>try simp at bV
   ·
    refine aj (nx (af (ax (aL (ao 1 tb Y (sy (.ptr (aR (G f.wide k))) (λh=>cb (i:=(k:Int)) de Y (h.get 4 Y) (h.get 6 Y) bM (cq (xs:=f.wide) (k:=k) az) Y h.x) ?_))))))
    refine ao 1 tb Y (cz na V Y Y Y (lb Y) λb2=>?_)
    refine ao 1 tb Y (ck (b:=b2) (off:=0) (es:=U2) (news:=U2) V hJ0 jZ Y Y Y (lb Y) Y (λa w h=>⟨(h.get 1 Y),(h.get 2 Y)⟩) ?_)
    refine kw (λh=>fg hS h (m:=1) (s:=10) Y) (aA [0,1,5,6,7,8,9,10] U8 Y ?_)
    refine nx (au tb V [2,3,4,5,6,7,1039] (Jv [.bool (decide ((G f.wide k).a∈vs)),_,_,_,_,_,_,_,_,_,.bool (decide ((G f.wide k).b∈vs)),_,_,_,_,_,_,_,_,_,.int ((k:Int)-(1:Int)),.ptr (aR (G f.wide ((k:Int)-(1:Int)).toNat)),_,_,.int (oC (G f.wide ((k:Int)-(1:Int)).toNat) (G f.wide k)),_,_,_]) [12,22,32,33,36] U7 Y ⟨λa _ hk Z hl hc=>jD (Kd:=aB) (xs:=vs) iD jJ ((G f.wide k).a) Y (dD hH hk Z (mo 0 Y)) (hl.D 9 61 Y hc) (hl.D 11 63 Y hc) Z,λ_ _ hk Z hl hc=>jD (Kd:=aB) (xs:=vs) iD jJ ((G f.wide k).b) Y (dD hH hk Z (mo 0 Y)) (hl.D 19 71 Y hc) (hl.D 21 73 Y hc) Z,λa _ _ Z hl hc=>Bq (i:=(k:Int)) (j:=(1:Int)) Y (hl.D 31 83 Y hc) (Rel.aG (.int .i64 1)) (by have aF:(((((!Op.bytesLess ((G f.wide k).a).toList ((G f.wide k).b).toList)|| (!(decide ((G f.wide k).a∈vs))))|| (!(decide ((G f.wide k).b∈vs))))==false)&& ((decide ((0:Int)< (k:Int)))==true))=true:=hc;(try simp at aF);(first | omega | (simp;omega) | grind[aC])) (by have aF:(((((!Op.bytesLess ((G f.wide k).a).toList ((G f.wide k).b).toList)|| (!(decide ((G f.wide k).a∈vs))))|| (!(decide ((G f.wide k).b∈vs))))==false)&& ((decide ((0:Int)< (k:Int)))==true))=true:=hc;(try simp at aF);(first | omega | (simp;omega) | grind[aC])) Z,λa _ _ Z hl hc=>cb (i:=(k:Int)-(1:Int)) de Y (hl.D 30 82 Y hc) (hl.D 32 84 Y hc) (by have aF:(((((!Op.bytesLess ((G f.wide k).a).toList ((G f.wide k).b).toList)|| (!(decide ((G f.wide k).a∈vs))))|| (!(decide ((G f.wide k).b∈vs))))==false)&& ((decide ((0:Int)< (k:Int)))==true))=true:=hc;(try simp at aF);(first | omega | (simp;omega) | grind[aC])) (n3 (xs:=f.wide) (i:=(k:Int)-(1:Int)) (by have aF:(((((!Op.bytesLess ((G f.wide k).a).toList ((G f.wide k).b).toList)|| (!(decide ((G f.wide k).a∈vs))))|| (!(decide ((G f.wide k).b∈vs))))==false)&& ((decide ((0:Int)< (k:Int)))==true))=true:=hc;(try simp at aF);(first | omega | (simp;omega) | grind[aC])) (by have aF:(((((!Op.bytesLess ((G f.wide k).a).toList ((G f.wide k).b).toList)|| (!(decide ((G f.wide k).a∈vs))))|| (!(decide ((G f.wide k).b∈vs))))==false)&& ((decide ((0:Int)< (k:Int)))==true))=true:=hc;(try simp at aF);(first | omega | (simp;omega) | grind[aC]))) Y Z,bN hS V (Sy V (G f.wide ((k:Int)-(1:Int)).toNat) (G f.wide k)) (cO Tryz.func217),U⟩ ?_)
    refine cj 6 ?_ ?_<;>intro eM
    ·
     have q3:iu vs f=70:=UB bV eM
     refine ak tb V [1000] [_] [_] ?_
     exact bL 0 (hE:=eI (q3.symm))
    ·
     refine aj (nx (aT tb V (r5 [1001]) [.int (k+1:Nat),_] [0] U6 Y ⟨aM,U⟩ ?_))
     exact bq (k+1) (r6 []) ⟨oz,cF bi eM⟩
   ·
    refine aW (nx (af (au tb V [1001,1005,1007] (V5 [.rd (bI (f.wide.filter (iQ (dl vs (f.ac::(bR f.aa).map Hy.ac).flatten)))),.bool (decide (f.apart=(f.wide.filter (iQ (dl vs (f.ac::(bR f.aa).map Hy.ac).flatten))))),_]) [5,6] U3 Y ⟨λ_ _ hk Z hl _=>dE (S3 V z1 (dl vs (f.ac::(bR f.aa).map Hy.ac).flatten) f.wide (h3)) (cO Tryz.func219) Y (aK hS _ hk Z) (Z.1) (dC (aH Z (mo 0 Y)) b9) (aq (hl.D 2 95 Y Y) (aq (hl.D 4 97 Y Y) aP)) (jo V Z),bN hS V (R2 V f.apart (f.wide.filter (iQ (dl vs (f.ac::(bR f.aa).map Hy.ac).flatten)))) (cO Tryz.func218),U⟩ ?_)))
    refine ln 0 λ_=>?_
    refine ln 1 λ_=>?_
    refine cj 2 ?_ ?_<;>intro fM
    ·
     have q3:iu vs f=70:=Ux (iU fM)
     refine ak tb V [1000] [_] [_] ?_
     exact bL 0 (hE:=eI (q3.symm))
    ·
     have q3:iu vs f=0:=UA e1 (by rw[<-s5];exact zP) (λj hj=>bi j oz) (oU fM)
     refine aj (nx (ak tb V [1000] [_] [_] ?_))
     exact bL 0 (hE:=eI (q3.symm))
theorem SH (s:BA) (hG:iv J):Fn Tryz.prog J 177 [.str s] (.bool (!fq s)):=by
 refine fE Tryz.func177 λS w0 hS hJ0=>?_
 clear hJ0
 refine qs tb V [0] [_] [_] ?_
 refine aJ tb V [1003] [_,.bool (fq s),_,_] [1] [_] Y ⟨dh hS V (SP V s (hG)) (cO Tryz.func178),U⟩ ?_
 exact aU 0 (hE:=eB (by first | rfl | grind[aC]))
theorem SI (M1 M2:Nat) (M3 M4 M5:Nat) (hm:List (BA×Hy)) (y:Hy)  :cM Tryz.prog J 180 [OB.mH M4 hm] [.agg (aN y),.ptr [.ptr (di [M1,M2,M3,M4,M5])]] (.bool ((aw hm y.ae).isSome)):=by
 refine fk Tryz.func180 λS w0 hS hJ0 hH=>?_
 refine tw cc (au tb V [1,1000] [.ptr (aN y),_] [0] U2 Y ⟨cW hS V,U⟩ ?_)
 refine af (λa w h=>iq (γ:=Nat) (λix'=>([.ptr (di [M1,M2,M3,M4,M5]),.ptr (di [M1,M2,M3,M4,M5]),.ptr (di [M4,M5]),.lit (.map (some M4)),.ptr (aN y),.str y.ae,.bJ [.agg (aN ((aw hm y.ae).getD default)),.bool ((aw hm y.ae).isSome)],.bJ [.agg (aN ((aw hm y.ae).getD default)),.bool ((aw hm y.ae).isSome)],.agg (aN ((aw hm y.ae).getD default)),.bool ((aw hm y.ae).isSome),.any,.any,.bool ((aw hm y.ae).isSome)]:List AV).getD ix' .any) (λ_=>true) [(5,λ_=>.bool ((aw hm y.ae).isSome))] (λj' g=>match j' with | 0=>[] | 1=>[OB.var g [lS (⟨#[]⟩:BA),lB false,ai ([]:List BA)]] | _=>[OB.var g (aN ((aw hm y.ae).getD default))]) (λk' g=>match k' with | 0=>(.pointer (some ⟨g,0,none⟩)) | _=>undef) [10,11] 2 0 (λ_=>Y) h V cP Y Y Y Y Y Y hsb ⟨oX Y λZ hl=>qu ud Y (hl.env 0 1 _ Y Y) Z,oX Y λZ hl=>kC Y (hl.D 0 7 Y Y) Z,oX Y λZ hl=>ca th Y (hl.D 1 8 Y Y) Z,oX Y λZ hl=>bU ue Y (hl.D 2 9 Y Y) Z,oX Y λZ hl=>ca vR Y (hl.env 1 2 _ Y Y) Z,oX Y λZ hl=>bU fd Y (hl.D 4 11 Y Y) Z,oY Y λhk Z hl=>mc (Kd:=aB) (f:=(λz':Hy=>AV.agg (aN z'))) (L:=hm) tU yc y.ae Y (dD hH hk Z (mo 0 Y)) (hl.D 3 10 Y Y) (hl.D 5 12 Y Y) Z,oX Y λZ hl=>b8 Y (hl.D 6 13 Y Y) Z,oX Y λZ hl=>gi Y (hl.D 7 6 Y Y) Y Z,oX Y λZ hl=>gi Y (hl.D 7 6 Y Y) Y Z,bB Y,bB Y,oX Y λZ hl=>gO Y (hl.D 9 15 Y Y) Z,U⟩ ⟨?ny,?pK,U⟩ ⟨.new 12 5 _,U⟩ ?tV)
 case ny=>exact⟨_,Y,Y,Y,Y,λg _ w hk Z _ _=>bC (gq kK V Y hk Z) λv w' ⟨g',hv,hp⟩=>⟨g',Y,λk' hk'=>absurd hk' (Nat.not_lt_zero _),λ_=>hv,hp⟩⟩
 case pK=>exact⟨_,Y,Y,Y,Y,λg _ w hk Z hl hs=>(by obtain⟨eJ,hv2,ed⟩:=jm (hl.D 8 14 Y Y);exact bC (ii (S':=S) (off:=0) (news:=U3) (es:=U3) (us:=eJ) V hJ0 jn Y hk Z (kj (hs 0 10 _ 4 oz Y Y Y)) (by rw[hv2];rfl) ed (lb Y) Y) λv w' hp=>⟨g,Y,λ_ _=>rfl,λe=>(by cases e),hp⟩)⟩
 clear a w h
 intro b1
 dsimp only[List.map]
 refine kw cR (nx (ak tb V [1001] U2 [_] ?_))
 exact bL 0 (hE:=Y)
end
section
variable {J:WP} (V:aS J)
include V
theorem R5 (n:Nat) (b:n*48<=140737488351232):eX (ι:=Value) Tryz.prog J 212 [] [.lit (.slice none 0 0),.int (n:Nat)] [] (λi'=>.lit (i')) (λi'=>[OB.row i' 119 3 (([]:List Hy).map aN)]):=by
 refine i7 Tryz.func212 λS w0 R hS hJ0 hH=>?_
 refine gQ (B:=So J S w0 27 (R) [(0,.lit (.slice none 0 0)),(1,.int (n:Nat))]) ?_ λa w h=>h
 refine ak tb V [0,1] [_] U2 ?_
 refine af (ak tb V [0,1,1001] U2 U3 ?_)
 refine cj 2 ?_ ?_<;>intro hb1<;>try simp at hb1
 ·
  exact False.elim oz
 ·
  refine aj (nx (af (au tb V [0,1007] [_,_,.int (0:Nat),_,.int (0:Nat),.int (((0:Nat):Int)-((0:Nat):Int)),.int ((n:Int)-((0:Nat):Int)-((0:Nat):Int)),_] [2,4,5,6] U2 Y ⟨λ_ _ _ Z hl _=>Hn cT Y (hl.D 1 9 Y Y) Z,λ_ _ _ Z hl _=>Hz cT Y (hl.D 3 11 Y Y) Z,l2,l2,U⟩ ?_)))
  refine tw (sa 1 Y (congrArg AV.int (show(n:Int)-((0:Nat):Int)-((0:Nat):Int)=(n:Int)from by omega))) (ak tb V [0,1,1001] U2 U3 ?_)
  refine cj 2 ?_ ?_<;>intro hb2<;>try simp at hb2
  ·
   refine cG (ao 2 tb Y (sy (.int (0:Nat)) (λh=>Hn cT Y (h.get 0 Y) h.x) ?_))
   refine sy (.lit (.slice none 0 0)) (λh=>Tv cD Y (h.get 2 Y) (h.get 0 Y) h.x) ?_
   refine ao 1 tb Y (UX (m:=n) nl xS V Y Y Y (lb Y) oz oz oz (λa w h=>⟨(h.get 1 Y),(h.get 0 Y)⟩) λv1=>?_)
   refine ao 1 tb Y (sy (.int (0:Nat)) (λh=>Hz cT Y (h.get 0 Y) h.x) ?_)
   refine sy (.lit (du v1 0)) (λh=>qt (m:=0) cD Y (aH h.x (mo 0 Y)) (by first | rfl | (rw[length_map];exact(Y))) (h.get 2 Y) (h.get 0 Y) h.x) ?_
   refine ao 1 tb Y (aA [0] [_] Y ?_)
   refine nx (ak tb V [1001] U2 [_] ?_)
   exact aZ (λa w h=>dt  (m:=0) (du v1 0) Y h Y Y)
  ·
   refine aj (nx (ak tb V [1001] U2 [_] ?_))
   exact tw (iK 119 3 V) (aZ (λa w h=>dt  (m:=0) (.slice none 0 0) Y h Y Y))
theorem GE (ls:List (List Hy)) (b:ls.flatten.length*48<=140737488351232):Fn Tryz.prog J 173 [.rd (Ar ls)] (.rd (bW ls.flatten)):=by
 refine fE Tryz.func173 λS w0 hS hJ0=>?_
 refine tw cc (ln 0 λcx=>?_)
 refine ak tb V [0] [_] [_] ?_
 refine ak tb V [0,1000] [_] U2 ?_
 refine af (au tb V [0,1,1000,1001,1002] [_,.int (ls.length:Nat),_] [1] U5 Y ⟨aD IY,U⟩ ?_)
 refine ax (lpo (ι:=Nat×Nat) (λ(k,z)=>(k<=ls.length)/\(z=(ls.take k).flatten.length)) (λ(_,_)=>[]) (λ(k,z)=>[(11,.int (k:Nat)),(3,.int (z:Nat))]) (λ(k,_)=>ls.length-k) [0,2,3,4,1] U3 (0,0) ⟨aI,by simp⟩ ?_)
 rintro⟨k,z⟩ ⟨aQ,ah⟩
 refine ak tb V (r5 [1000]) [_] U6 ?_
 refine cI 5 ?_ ?_<;>intro hb1<;>try simp at hb1
 ·
  refine aj (nx (af (ax (au tb V (r5 [1001,1002]) [.ptr [bW (G ls k)],_,_] [0] U7 Y ⟨bn vK,U⟩ ?_))))
  refine ln 5 λ_=>?_
  refine au tb V [0,1,2,3,1004] [_,_,.int ((G ls k).length:Nat),.int (z+(G ls k).length:Nat),_] [2,3] U5 Y ⟨aD cT,aM (h0:=by have:=vQ ls (k+1);rw[dG oz]at this;simp only[List.flatten_append,length_append,flatten_cons,flatten_nil,append_nil]at this;omega),U⟩ ?_
  refine ak tb V (r5 [1001]) U2 U6 ?_
  refine cj 5 ?_ ?_<;>intro hb2<;>try simp at hb2
  ·
   exact False.elim oz
  ·
   refine aj (nx (aT tb V [0,1,2,4,1001] [.int (k+1:Nat),_] [0] U5 Y ⟨aM,U⟩ ?_))
   exact bq (k+1,z+(G ls k).length) [0,1,2,4,3] ⟨oz,by rw[ah,dG oz];simp⟩
 ·
  refine aW (nx (aL (ao 1 tb Y (iI (O:=[]) (R:=[]) (R5 V z (by rw[ah];exact Nat.le_trans (Nat.mul_le_mul_right 48 (vQ ls k)) b)) (cO Tryz.func212) Y Y Y (lb Y) hS hJ0 b9 (λa w h=>(aq (Rel.aG (.slice none 0 0)) (aq (h.get 0 Y) aP))) λz1=>?_))))
  refine ao 1 tb Y (aA [0,3] U2 Y ?_)
  refine nx (af (au tb V [0,1000,1001,1002] [_,.int (ls.length:Nat),_] [1] U4 Y ⟨aD IY,U⟩ ?_))
  refine ax (lpo (ι:=Nat×Value×(List Hy)) (λ(k,_,out)=>(k<=ls.length)/\(out=(ls.take k).flatten)) (λ(_,vo,out)=>[OB.row vo 119 3 (out.map aN)]) (λ(k,vo,_)=>[(27,.int (k:Nat)),(6,.lit vo)]) (λ(k,_,_)=>ls.length-k) [1,2,3,0] U2 (0,z1,([]:List Hy)) ⟨aI,by simp⟩ ?_)
  rintro⟨k,vo,out⟩ ⟨fx,bi⟩
  refine ak tb V [0,1,2,3,1000] [_] U5 ?_
  refine cI 4 ?_ ?_<;>intro aE<;>try simp at aE
  ·
   refine aj (nx (af (ax (au tb V [0,1,2,3,1001,1002] [.ptr [bW (G ls k)],_,_] [0] U6 Y ⟨bn vK,U⟩ ?_))))
   refine ln 4 λ_=>?_
   refine cG (ao 2 tb Y (fP (f:=aN) (m:=1) (s:=31) out (G ls k) (λ_=>Y) nl V hJ0 Y Y Y (lb Y) Y Y (λa w h=>(h.get 0 Y)) (by have:=vQ ls (k+1);rw[dG oz]at this;simp only[List.flatten_append,length_append,flatten_cons,flatten_nil,append_nil]at this;rw[bi];omega) (by have:=vQ ls (k+1);rw[dG oz]at this;simp only[List.flatten_append,length_append,flatten_cons,flatten_nil,append_nil]at this;rw[bi];omega) λv2=>?_))
   refine ao 1 tb Y (aA [0,4,5,6] U4 Y ?_)
   refine nx (aT tb V [0,1,2,1001] [.int (k+1:Nat),_] [0] U4 Y ⟨aM,U⟩ ?_)
   exact bq (k+1,v2,out++(G ls k)) [1,2,3,0] ⟨oz,by rw[bi,dG oz];simp⟩
  ·
   refine aW (nx (ak tb V [1001] U2 [_] ?_))
   exact tw (λh=>dV hS h (m:=0) (s:=2) Y) (bL 0 (hE:=congrArg (λz=>AV.rd (bW z)) (show out=ls.flatten from by rw[bi,cS oz])))
theorem RY (M5 T1:Nat) (tm:List (BA×BA)) (ts:List (BA×BA)) (hq:∀ q'∈ts.map (·.1),q'.size<=9223372036854775807):eX (ι:= { q':List (BA×BA) // ∀ k',aw q' k'=if(aw ts k').isSome then aw ts k' else aw tm k' }) Tryz.prog J 181 [] [.lit (.map (some M5)),.lit (.map (some T1))] [OB.mT M5 tm,OB.mT T1 ts] (λ_=>.bJ []) (λi'=>[OB.mT M5 (i'.1),OB.mT T1 ts]):=by
 refine i7 Tryz.func181 λS w0 R hS hJ0 hH=>?_
 refine gQ (B:=So J S w0 16 (OB.mT M5 tm::OB.mT T1 ts::R) [(0,.lit (.map (some M5))),(1,.lit (.map (some T1)))]) ?_ λa w h=>h
 refine aL (ao 1 tb Y (kw bQ ?_))
 refine Iq (Kd:=aB) (f:=(λz':BA=>AV.str z')) (L:=ts) VT V hJ0 Y Y Y (lb Y) (λa w h=>(h.get 0 Y)) λb1=>?_
 refine aA [0,2] U2 Y (nx (ax (lpo (ι:=(List BA)×(List (BA×BA))) (λ(vis,tn)=>(∀ q',aw tn q'=if q'∈vis then aw ts q' else aw tm q')/\(vis.Nodup)/\(∀ q'∈vis,q'∈ts.map (·.1))) (λ(vis,tn)=>(OB.iter b1 aB (λz':BA=>AV.str z') T1 ts vis::OB.mT M5 tn::R)) (λ(_,_)=>[]) (λ(vis,_)=>ts.length-vis.length) [0,1] U2 (([]:List BA),tm) ⟨λq'=>by simp,by simp,λq' h=>by simp at h⟩ ?_)))
 rintro⟨vis,tn⟩ ⟨aQ,ah,bp⟩
 refine aL (Io (Kd:=aB) (f:=(λz':BA=>AV.str z')) (L:=ts) (vis:=vis) (λk' hk'=>hq k' hk') V hJ0 Y Y Y (lb Y) (λa w h=>(h.get 0 Y)) λz2 zL mJ=>?_)
 refine sy (.bool z2.1) (λh=>gi Y (h.get 0 Y) Y h.x) ?_
 refine aA [0,2,3] U3 Y (nx (cI 0 (λhb1=>?_) λhb1=>?_))
 ·
  refine tw (ji (congrArg (λz'=>OB.iter b1 aB (λz':BA=>AV.str z') T1 ts (z')) (show(if z2.1 then vis++[z2.2]else vis)=(vis++[z2.2])from by rw[hb1];rfl))) (aj (nx (ax (au tb V [1,2,1003,1004] [.bJ [.str z2.2,.str ((aw ts z2.2).getD default)],_,_,_,_] [0] U4 Y ⟨λ_ _ _ Z hl _=>Ho (Kd:=aB) (f:=(λz':BA=>AV.str z')) (L:=ts) (k:=z2.2) Y (aH Z (mo 0 Y)) (hq z2.2 (by have:=(mJ hb1).2;rw[lx]at this;simpa using this)) (hl.env 1 7 _ Y Y) Z,U⟩ ?_))))
  refine cG (ao 3 tb Y (kw bQ ?_))
  refine BO (f:=(λz':BA=>AV.str z')) wP V hJ0 z2.2 ((aw ts z2.2).getD default) Y Y (.inl Y) (λa w h=>⟨(h.get 2 Y),(h.get 1 Y),(h.get 0 Y)⟩) ?_
  refine aA [3,4] U2 Y (kw bQ ?_)
  exact bq (vis++[z2.2],cl tn z2.2 ((aw ts z2.2).getD default)) [0,1] ⟨Lp aQ (mJ hb1),by rw[List.nodup_append];exact⟨ah,by simp,λx Z y hy e=>by rw[List.mem_singleton.1 hy]at e;subst e;exact(mJ hb1).1 Z⟩,λq' hq'=>by rcases List.mem_append.1 hq' with h | h;exact bp q' h;rw[List.mem_singleton.1 h];have:=(mJ hb1).2;rw[lx]at this;simpa using this⟩ (hm:=(show ts.length-(vis++[z2.2]).length<ts.length-vis.length from Lo ah bp (mJ hb1)))
 ·
  refine tw (ji (congrArg (λz'=>OB.iter b1 aB (λz':BA=>AV.str z') T1 ts (z')) (show(if z2.1 then vis++[z2.2]else vis)=vis from by rw[hb1];rfl))) (aW (kw It ?_))
  exact kw bQ (λa w h=>Az  ⟨tn,by intro k';rw[aQ];by_cases wn:(aw ts k').isSome=true;(rw[if_pos wn,if_pos (zL hb1 k' wn)]);(rw[if_neg wn];by_cases Fk:k'∈vis;(exact absurd (by rw[lx];simpa using bp k' Fk) wn);rw[if_neg Fk])⟩ Y h Y)
end
theorem Kg:lE Tryz.prog 244 2:=⟨#[.map none,.map none],Y,λi=>(#[(0,1),(1,1)]:Array (Nat×Nat))[i]?,λj hj=>by rcases j with _ | _ | j<;>first | rfl | omega,λparts=>by kernel_rfl⟩
theorem SG {J:WP} (V:aS J) (M1 M2:Nat) (M3 M4 M5:Nat) (cs vs fs:List BA) (hm:List (BA×Hy)) (tm:List (BA×BA)) (f:Fr) (bf:List Hy) (hw:f.wide.length*32<=140737488351232) (hG:iv J):eX (ι:= { q':List BA×List (BA×Hy)×List (BA×BA) // gG cs vs fs hm tm f bf=0->q'.1=cU fs f.ae/\q'.2.1=mN hm (bG f)/\∀ k',aw q'.2.2 k'=if(aw (iL (bG f)) k').isSome then aw (iL (bG f)) k' else aw tm k' }) Tryz.prog J 138 [] [.ptr (di [M1,M2,M3,M4,M5]),.agg (aY f),.rd (bW bf)] [OB.set aB M1 cs,OB.set aB M2 vs,OB.set aB M3 fs,OB.mH M4 hm,OB.mT M5 tm] (λ_=>.int (gG cs vs fs hm tm f bf)) (λi'=>[OB.set aB M1 cs,OB.set aB M2 vs,OB.set aB M3 (i'.1.1),OB.mH M4 (i'.1.2.1),OB.mT M5 (i'.1.2.2)]):=by
 refine i7 Tryz.func138 λS w0 R hS hJ0 hH=>?_
 refine gQ (B:=So J S w0 183 (OB.set aB M1 cs::OB.set aB M2 vs::OB.set aB M3 fs::OB.mH M4 hm::OB.mT M5 tm::R) [(0,.ptr (di [M1,M2,M3,M4,M5])),(1,.agg (aY f)),(2,.rd (bW bf))]) ?_ λa w h=>h
 refine ln 2 λ_=>?_
 refine BX (λa w h=>NG (h.get 1 Y)) λO5=>?_
 refine au tb V [2,1000,1001] [.ptr [.ptr (di [M1,M2,M3,M4,M5])],.ptr (aY f),_] [0,1] U3 Y ⟨λ_ _ hk Z hl _=>xd Y (hl.env 0 0 _ Y Y) (aK hS _ hk Z _ aV) (jo V Z),cW hS V,U⟩ ?_
 refine af (au tb V [0,1,2,1003] [_,_,.bool (fW f.ae),_] [2] U4 Y ⟨bN hS V (A9 V f.ae) (cO Tryz.func172),U⟩ ?_)
 refine cj 3 ?_ ?_<;>intro hb1
 ·
  have e9:gG cs vs fs hm tm f bf=2:=by rw[gG,if_pos hb1]
  refine ak tb V [1000] [_] [_] ?_
  exact aZ (λa w h=>dt  (m:=0) ⟨(fs,hm,tm),by first | (intro h9;rw[e9]at h9;exact absurd h9 (by first | decide | exact nz)) | (intro _;exact⟨Y,by rw[bi,cS oz],λk'=>by rw[pk.2 k',e3]⟩)⟩ Y h Y (eI (e9.symm)))
 ·
  refine aj (nx (af (af (λa w h=>iq (γ:=Nat) (λix'=>([.ptr (di [M1,M2,M3,M4,M5]),.ptr (di [M1,M2,M3,M4,M5]),.ptr (di [M4,M5]),.lit (.map (some M4)),.ptr (aY f),.str f.ae,.bJ [.agg (aN ((aw hm f.ae).getD default)),.bool ((aw hm f.ae).isSome)],.bJ [.agg (aN ((aw hm f.ae).getD default)),.bool ((aw hm f.ae).isSome)],.agg (aN ((aw hm f.ae).getD default)),.bool ((aw hm f.ae).isSome),.any,.any,.bool ((aw hm f.ae).isSome)]:List AV).getD ix' .any) (λ_=>true) [(2,λ_=>.rd (bW bf)),(3,λ_=>.ptr [.ptr (di [M1,M2,M3,M4,M5])]),(4,λ_=>.ptr (aY f)),(8,λ_=>.bool ((aw hm f.ae).isSome))] (λj' g=>match j' with | 0=>(OB.set aB M1 cs::OB.set aB M2 vs::OB.set aB M3 fs::OB.mH M4 hm::OB.mT M5 tm::R) | 1=>(OB.var g [lS (⟨#[]⟩:BA),lB false,ai ([]:List BA)]::OB.set aB M1 cs::OB.set aB M2 vs::OB.set aB M3 fs::OB.mH M4 hm::OB.mT M5 tm::R) | _=>(OB.var g (aN ((aw hm f.ae).getD default))::OB.set aB M1 cs::OB.set aB M2 vs::OB.set aB M3 fs::OB.mH M4 hm::OB.mT M5 tm::R)) (λk' g=>match k' with | 0=>(.pointer (some ⟨g,0,none⟩)) | _=>undef) [10,11] 2 0 (λ_=>Y) h V cP Y Y Y Y Y Y hsb ⟨oX Y λZ hl=>qu ud Y (hl.env 1 3 _ Y Y) Z,oX Y λZ hl=>kC Y (hl.D 0 24 Y Y) Z,oX Y λZ hl=>ca th Y (hl.D 1 25 Y Y) Z,oX Y λZ hl=>bU ue Y (hl.D 2 26 Y Y) Z,oX Y λZ hl=>ca Eg Y (hl.env 2 4 _ Y Y) Z,oX Y λZ hl=>bU fd Y (hl.D 4 28 Y Y) Z,λ_ O' cf=>⟨Y,λ_ _ _ Z hl _=>mc (Kd:=aB) (f:=(λz':Hy=>AV.agg (aN z'))) (L:=hm) tU yc f.ae Y (aH Z (cf _ (mo 3 Y))) (hl.D 3 27 Y Y) (hl.D 5 29 Y Y) Z⟩,oX Y λZ hl=>b8 Y (hl.D 6 30 Y Y) Z,oX Y λZ hl=>gi Y (hl.D 7 23 Y Y) Y Z,oX Y λZ hl=>gi Y (hl.D 7 23 Y Y) Y Z,bB Y,bB Y,oX Y λZ hl=>gO Y (hl.D 9 32 Y Y) Z,U⟩ ⟨?nA,?pM,U⟩ ⟨.old 0 2 _,.old 1 3 _,.old 2 4 _,.new 12 8 _,U⟩ ?nU))))
  case nA=>exact⟨_,Y,Y,Y,Y,λg _ w hk Z _ _=>bC (gq kK V Y hk Z) λv w' ⟨g',hv,hp⟩=>⟨g',Y,λk' hk'=>absurd hk' (Nat.not_lt_zero _),λ_=>hv,hp⟩⟩
  case pM=>exact⟨_,Y,Y,Y,Y,λg _ w hk Z hl hs=>(by obtain⟨eJ,hv2,ed⟩:=jm (hl.D 8 31 Y Y);exact bC (ii (S':=S) (off:=0) (news:=U3) (es:=U3) (us:=eJ) V hJ0 jn Y hk Z (kj (hs 0 10 _ 7 oz Y Y Y)) (by rw[hv2];rfl) ed (lb Y) Y) λv w' hp=>⟨g,Y,λ_ _=>rfl,λe=>(by cases e),hp⟩)⟩
  clear a w h
  intro b1
  dsimp only[List.map]
  refine kw cR (nx (au tb V [0,1,2,1015] (V5 [.bool (decide (f.ae∈cs)||decide (f.ae∈vs)),_,_,_,_,_,_,_,_,.bool (decide (f.ae∈fs)),_]) [5,14] U4 Y ⟨λ_ _ hk Z hl hc=>dE (w7 V M1 M2 M3 M4 M5 cs vs f.ae) (cO Tryz.func171) Y (aK hS _ hk Z) (Z.1) (dC (aH Z (mo 0 Y)) (dC (aH Z (mo 1 Y)) b9)) (aq (hl.D 2 35 Y hc) (aq (hl.D 4 37 Y hc) aP)) (jo V Z),λ_ _ _ Z hl hc=>jD (Kd:=aB) (xs:=fs) iD jJ f.ae Y (aH Z (mo 2 Y)) (hl.D 11 44 Y hc) (hl.D 13 46 Y hc) Z,U⟩ ?_))
  refine cj 3 ?_ ?_<;>intro hb2
  ·
   have e9:gG cs vs fs hm tm f bf=6:=by rw[gG,if_neg (by rw[hb1];decide),if_pos hb2]
   refine ak tb V [1000] [_] [_] ?_
   exact aZ (λa w h=>dt  (m:=0) ⟨(fs,hm,tm),by first | (intro h9;rw[e9]at h9;exact absurd h9 (by first | decide | exact nz)) | (intro _;exact⟨Y,by rw[bi,cS oz],λk'=>by rw[pk.2 k',e3]⟩)⟩ Y h Y (eI (e9.symm)))
  ·
   refine aj (nx (af (au tb V [0,1,2,1001,1009] [_,_,.int (f.aa.length:Nat),_,_,_,_,.int (f.bA.length:Nat),_,_] [2,7] U5 Y ⟨aD cT,aD cT,U⟩ ?_)))
   refine ln 3 λ_=>?_
   refine cj 4 ?_ ?_<;>intro aE
   ·
    have e9:gG cs vs fs hm tm f bf=4:=by rw[gG,if_neg (by rw[hb1];decide),if_neg (by rw[hb2];decide),if_pos aE]
    refine ak tb V [1000] [_] [_] ?_
    exact aZ (λa w h=>dt  (m:=0) ⟨(fs,hm,tm),by first | (intro h9;rw[e9]at h9;exact absurd h9 (by first | decide | exact nz)) | (intro _;exact⟨Y,by rw[bi,cS oz],λk'=>by rw[pk.2 k',e3]⟩)⟩ Y h Y (eI (e9.symm)))
   ·
    have Oc:f.aa.length<=40/\f.bA.length<=40:=by simp at aE;omega
    refine aj (nx (tw dq (af (λa w h=>iq (γ:=Unit) (λix'=>([.ptr (di [M1,M2,M3,M4,M5]),.ptr (di [M1,M2,M3,M4,M5]),.ptr (di [M3,M4,M5]),.lit (.map (some M3)),.ptr (aY f),.str f.ae,.any]:List AV).getD ix' .any) (λ_=>true) [(2,λ_=>.rd (bW bf)),(3,λ_=>.ptr [.ptr (di [M1,M2,M3,M4,M5])]),(4,λ_=>.ptr (aY f))] (λj' _=>match j' with | 0=>(OB.set aB M3 fs::OB.set aB M1 cs::OB.set aB M2 vs::OB.mH M4 hm::OB.mT M5 tm::R) | _=>(OB.set aB M3 (cU fs f.ae)::OB.set aB M1 cs::OB.set aB M2 vs::OB.mH M4 hm::OB.mT M5 tm::R)) (λ_ _=>undef) [6] 0 () (λ_=>Y) h V cP Y Y Y Y Y Y hsb ⟨oX Y λZ hl=>qu ud Y (hl.env 1 3 _ Y Y) Z,oX Y λZ hl=>kC Y (hl.D 0 59 Y Y) Z,oX Y λZ hl=>ca M9 Y (hl.D 1 60 Y Y) Z,oX Y λZ hl=>bU Gr Y (hl.D 2 61 Y Y) Z,oX Y λZ hl=>ca Eg Y (hl.env 2 4 _ Y Y) Z,oX Y λZ hl=>bU fd Y (hl.D 4 63 Y Y) Z,bB Y,U⟩ ⟨?y9,U⟩ ⟨.old 0 2 _,.old 1 3 _,.old 2 4 _,U⟩ ?QP))))
    case y9=>exact⟨_,Y,Y,Y,Y,λg _ w hk Z hl _=>bC (Ly iD V hJ0 f.ae (.inl Y) hk Z (hl.D 3 62 Y Y) (hl.D 5 64 Y Y) (Rel.aG (.bool true))) λv w' ⟨_,hp⟩=>⟨g,Y,λ_ _=>rfl,λe=>(by cases e),hp⟩⟩
    clear a w h
    intro _
    dsimp only[List.map]
    refine nx (aL (qE aB V Y Y Y (lb Y) λm2=>?_))
    refine qD aB (λz':BA=>AV.str z') V Y Y Y (lb Y) λm3=>?_
    refine sq (.agg [.lit (.map (some m2)),.lit (.map (some m3))]) Y Y (lb Y) (λa _ h=>gd (us:=[a.eval (.tmp 65),a.eval (.tmp 66)]) Kg Y yz (bX (h.get 1 Y) (bX (h.get 0 Y) cE)) Y h.x) ?_
    refine cz Wd V Y Y Y (lb Y) λb4=>?_
    refine ck (b:=b4) (off:=0) (es:=U2) (news:=U2) V hJ0 UK Y Y Y (lb Y) Y (λa w h=>⟨(h.get 0 Y),(h.get 1 Y)⟩) ?_
    refine kw (λh=>fg hS h (m:=0) (s:=9) Y) (aA [0,4,5,6] U4 Y ?_)
    refine nx (af (af (aT tb V [0,1,2,3,1003,1004,1005,1006,1007] (V4 [.rd (Ar ([f.aa,f.bA]:List (List Hy))),.rd (bW (([f.aa,f.bA]:List (List Hy)).flatten)),.int ((([f.aa,f.bA]:List (List Hy)).flatten).length:Nat),_]) [4,5,6] U9 Y ⟨λa _ hk Z hl _=>qr (k:=2) (us:=[a.eval (.tmp 69),a.eval (.tmp 71)]) vK Jh Y yz (bX (hl.D 1 69 Y Y) (bX (hl.D 3 71 Y Y) cE)) Y dz dz (aK hS _ hk Z _ aV) (jo V Z),bN hS V (GE V ([f.aa,f.bA]:List (List Hy)) (by refine km ?_;simp;omega)) (cO Tryz.func173),aD cT,U⟩ ?_)))
    refine kw (sa 6 Y (congrArg (λz'=>AV.rd (bW z')) (show(([f.aa,f.bA]:List (List Hy)).flatten)=(bG f)from by simp))) (kw (sa 7 Y (congrArg AV.int (show(((([f.aa,f.bA]:List (List Hy)).flatten).length:Nat):Int)=(((bG f).length:Nat):Int)from by simp))) ?_)
    refine nx (ln 4 λhl3=>?_)
    refine ln 5 λ_=>?_
    refine ln 6 λ_=>?_
    refine ax (lpo (ι:=Nat×(List BA)×(List (BA×BA))) (λ(k,ls,ts)=>(k<=(bG f).length)/\(ls=mS ((bG f).take k))/\(ts=iL ((bG f).take k))/\(∀ j,j<k->lm cs vs fs hm tm f j=0)) (λ(_,ls,ts)=>(OB.mT m3 ts::OB.set aB m2 ls::OB.set aB M3 (cU fs f.ae)::OB.set aB M1 cs::OB.set aB M2 vs::OB.mH M4 hm::OB.mT M5 tm::R)) (λ(k,_,_)=>[(75,.int (k:Nat))]) (λ(k,_,_)=>(bG f).length-k) [0,1,2,3,6,7,8] U6 (0,([]:List BA),([]:List (BA×BA))) ⟨aI,Y,Y,λj hj=>by omega⟩ ?_)
    rintro⟨k,ls,ts⟩ ⟨aQ,ah,bp,gV⟩
    refine ak tb V (r7 [1000]) [_] U8 ?_
    refine cI 7 ?_ ?_<;>intro bh
    ·
     have hk4:k< (bG f).length:=Int.ofNat_lt.1 (of_decide_eq_true bh)
     refine aj (nx (af (ax (aL (ao 1 tb Y (sy (.ptr (aN (G (bG f) k))) (λh=>cb (i:=(k:Int)) cD Y (h.get 5 Y) (h.get 7 Y) bM (cq (xs:=bG f) (k:=k) az) Y h.x) ?_))))))
     refine ao 1 tb Y (cz kK V Y Y Y (lb Y) λb5=>?_)
     refine ao 1 tb Y (ck (b:=b5) (off:=0) (es:=U3) (news:=U3) V hJ0 jn Y Y Y (lb Y) Y (λa w h=>⟨(h.get 1 Y),(h.get 2 Y)⟩) ?_)
     refine kw (λh=>fg hS h (m:=1) (s:=11) Y) (aA [0,1,5,6,7,8,9,10,11] U9 Y ?_)
     refine nx (af (au tb V [0,2,3,4,5,6,7,8,1009] (V6 [.int (f.aa.length:Nat),_,.int (iP cs vs (cU fs f.ae) hm tm ls ts (G (bG f) k) (decide ((f.aa.length:Int)<=(k:Int)))),_]) [6,8] U9 Y ⟨aD cT,λ_ _ hk Z hl _=>dE (SM V M1 M2 M3 M4 M5 m2 m3 cs vs (cU fs f.ae) hm tm ls ts (G (bG f) k) (decide ((f.aa.length:Int)<=(k:Int)))) (cO Tryz.func174) Y (aK hS _ hk Z) (Z.1) (dC (aH Z (mo 3 Y)) (dC (aH Z (mo 4 Y)) (dC (aH Z (mo 2 Y)) (dC (aH Z (mo 5 Y)) (dC (aH Z (mo 6 Y)) (dC (aH Z (mo 1 Y)) (dC (aH Z (mo 0 Y)) b9))))))) (aq (hl.D 0 80 Y Y) (aq (hl.D 1 81 Y Y) (aq (hl.D 2 82 Y Y) (aq (hl.D 7 87 Y Y) aP)))) (jo V Z),U⟩ ?_))
     refine ak tb V (r9 [1001]) U2 fw ?_
     refine cj 9 ?_ ?_<;>intro bV
     ·
      have nz:=iU bV
      have e0:lm cs vs fs hm tm f k=iP cs vs (cU fs f.ae) hm tm ls ts (G (bG f) k) (decide ((f.aa.length:Int)<=(k:Int))):=by rw[lm,<-ah,<-bp]
      have e5:fS (bG f).length (lm cs vs fs hm tm f)=lm cs vs fs hm tm f k:=i8 oz gV (by rw[e0];exact nz)
      have e9:gG cs vs fs hm tm f bf=iP cs vs (cU fs f.ae) hm tm ls ts (G (bG f) k) (decide ((f.aa.length:Int)<=(k:Int))):=by rw[gG,if_neg (by rw[hb1];decide),if_neg (by rw[hb2];decide),if_neg (by rw[aE];decide),if_pos (by rw[e5,e0];exact bV),e5,e0]
      refine ak tb V [1001] U2 [_] ?_
      refine tw cR (tw cR ?_)
      refine tw d8 (tw d8 ?_)
      refine tw dq (tw d8 ?_)
      exact tw d8 (aZ (λa w h=>dt  (m:=0) ⟨((cU fs f.ae),hm,tm),by first | (intro h9;rw[e9]at h9;exact absurd h9 (by first | decide | exact nz)) | (intro _;exact⟨Y,by rw[bi,cS oz],λk'=>by rw[pk.2 k',e3]⟩)⟩ Y h Y (eI (e9.symm))))
     ·
      have q5:=oU bV
      have EW:=Fq q5
      refine aj (nx (aL (ao 4 tb Y (kw bQ ?_))))
      refine sf iD V hJ0 ((G (bG f) k).ae) Y Y (.inl Y) (λa w h=>⟨(h.get 2 Y),(h.get 0 Y),(Rel.aG (.bool true))⟩) ?_
      refine aA [4,5,6,7,8,9,10,11] U8 Y (nx (ak tb V (r8 [1001]) U2 U9 ?_))
      refine cj 8 ?_ ?_<;>intro eM<;>try simp at eM
      ·
       refine tw bQ (λa w h=>iq (γ:=Unit) (λix'=>([.ptr [.lit (.map (some m3))],.lit (.map (some m3)),.ptr [ai ((G (bG f) k).ac)],.rd (ai ((G (bG f) k).ac)),.ptr [lS (G ((G (bG f) k).ac) 1)],.str (G ((G (bG f) k).ac) 1),.ptr [ai ((G (bG f) k).ac)],.rd (ai ((G (bG f) k).ac)),.ptr [lS (G ((G (bG f) k).ac) 0)],.str (G ((G (bG f) k).ac) 0),.any]:List AV).getD ix' .any) (λ_=>true) [(9,λ_=>.ptr (di [m2,m3])),(2,λ_=>.rd (bW bf)),(3,λ_=>.ptr [.ptr (di [M1,M2,M3,M4,M5])]),(4,λ_=>.ptr (aY f)),(73,λ_=>.rd (bW (bG f))),(74,λ_=>.int ((bG f).length:Nat)),(75,λ_=>.int (k:Nat))] (λj' _=>match j' with | 0=>(OB.mT m3 ts::OB.set aB m2 (cU ls ((G (bG f) k).ae))::OB.set aB M3 (cU fs f.ae)::OB.set aB M1 cs::OB.set aB M2 vs::OB.mH M4 hm::OB.mT M5 tm::R) | _=>(OB.mT m3 (cl ts (G ((G (bG f) k).ac) 1) (G ((G (bG f) k).ac) 0))::OB.set aB m2 (cU ls ((G (bG f) k).ae))::OB.set aB M3 (cU fs f.ae)::OB.set aB M1 cs::OB.set aB M2 vs::OB.mH M4 hm::OB.mT M5 tm::R)) (λ_ _=>undef) [10] 0 () (λ_=>Y) h V cP Y Y Y Y Y Y hsb ⟨oX Y λZ hl=>ca Ed Y (hl.env 1 9 _ Y Y) Z,oX Y λZ hl=>bU A5 Y (hl.D 0 98 Y Y) Z,oX Y λZ hl=>ca lO Y (hl.env 0 11 _ Y Y) Z,oX Y λZ hl=>bU ia Y (hl.D 2 100 Y Y) Z,?_,oX Y λZ hl=>bU fd Y (hl.D 4 102 Y Y) Z,oX Y λZ hl=>ca lO Y (hl.env 0 11 _ Y Y) Z,oX Y λZ hl=>bU ia Y (hl.D 6 104 Y Y) Z,?_,oX Y λZ hl=>bU fd Y (hl.D 8 106 Y Y) Z,bB Y,U⟩ ⟨?LU,U⟩ ⟨.old 1 9 _,.old 2 2 _,.old 3 3 _,.old 4 4 _,.old 5 73 _,.old 6 74 _,.old 7 75 _,U⟩ ?Xo)
       exact oX Y λZ hl=>cb (i:=((1:Nat):Int)) bx Y (hl.D 3 101 Y Y) (Rel.aG (.int .i64 1)) bM (cq (xs:=(G (bG f) k).ac) (k:=1) (by have:=im EW eM;omega)) Y Z
       exact oX Y λZ hl=>cb (i:=((0:Nat):Int)) bx Y (hl.D 7 105 Y Y) (Rel.aG (.int .i64 0)) bM (cq (xs:=(G (bG f) k).ac) (k:=0) (by have:=im EW eM;omega)) Y Z
       case LU=>exact⟨_,Y,Y,Y,Y,λg _ w hk Z hl _=>bC (pJ (f:=(λz':BA=>AV.str z')) wP V hJ0 (G ((G (bG f) k).ac) 1) (G ((G (bG f) k).ac) 0) (.inl Y) hk Z (hl.D 1 99 Y Y) (hl.D 5 103 Y Y) (hl.D 9 107 Y Y)) λv w' ⟨_,hp⟩=>⟨g,Y,λ_ _=>rfl,λe=>(by cases e),hp⟩⟩
       clear a w h
       intro _
       dsimp only[List.map]
       refine nx (aT tb V (r6 [1001]) [.int (k+1:Nat),_] [0] U7 Y ⟨aM,U⟩ ?_)
       exact bq (k+1,cU ls ((G (bG f) k).ae),cl ts (G ((G (bG f) k).ac) 1) (G ((G (bG f) k).ac) 0)) (r7 []) ⟨oz,by rw[dG oz,AD,<-ah],by rw[dG oz,uB,<-bp,if_pos eM],cF gV (by rw[lm,<-ah,<-bp];exact q5)⟩
      ·
       refine aj (nx (aT tb V [1,2,3,4,5,6,1001] [.int (k+1:Nat),_] [0] U7 Y ⟨aM,U⟩ ?_))
       refine kw gx (kw gx ?_)
       refine kw gx (kw gx ?_)
       refine kw gx (kw qn ?_)
       exact kw gx (bq (k+1,cU ls ((G (bG f) k).ae),ts) (r7 []) ⟨oz,by rw[dG oz,AD,<-ah],by rw[dG oz,uB,<-bp,if_neg (by simp[eM])],cF gV (by rw[lm,<-ah,<-bp];exact q5)⟩)
    ·
     have hk4:(bG f).length<=k:=by have:=of_decide_eq_false bh;omega
     have e4:fS (bG f).length (lm cs vs fs hm tm f)=0:=mB λj hj=>gV j oz
     have e3:ts=iL (bG f):=by rw[bp,cS oz]
     have EZ:∀ y∈bG f,∃ dm,gY y dm=false:=λy hy=>by obtain⟨j,hj,rfl⟩:=ee hy;exact⟨_,Fq (gV j oz)⟩
     have EI:∀ y∈bG f,y.be=true->y.ac.length=2:=λy hy hf=>by obtain⟨dm,hd⟩:=EZ y hy;exact im hd hf
     refine aW (nx (af (au tb V [0,1,2,3,1002,1004] (V3 [.int (k8 cs vs f.ac),_]) [3] U6 Y ⟨λ_ _ hk Z hl _=>dE (G1 V M1 M2 M3 M4 M5 cs vs f.ac) (cO Tryz.func175) Y (aK hS _ hk Z) (Z.1) (dC (aH Z (mo 3 Y)) (dC (aH Z (mo 4 Y)) b9)) (aq (hl.D 0 109 Y Y) (aq (hl.D 2 111 Y Y) aP)) (jo V Z),U⟩ ?_)))
     refine ln 4 λ_=>?_
     refine ak tb V [0,1,2,3,5,1001] U2 U6 ?_
     refine cj 5 ?_ ?_<;>intro fM
     ·
      have nz:=iU fM
      have e9:gG cs vs fs hm tm f bf=k8 cs vs f.ac:=by rw[gG,if_neg (by rw[hb1];decide),if_neg (by rw[hb2];decide),if_neg (by rw[aE];decide),if_neg (by rw[e4];decide),if_pos fM]
      refine ak tb V [1001] U2 [_] ?_
      refine tw cR (tw cR ?_)
      refine tw d8 (tw d8 ?_)
      refine tw dq (tw d8 ?_)
      exact tw d8 (aZ (λa w h=>dt  (m:=0) ⟨((cU fs f.ae),hm,tm),by first | (intro h9;rw[e9]at h9;exact absurd h9 (by first | decide | exact nz)) | (intro _;exact⟨Y,by rw[bi,cS oz],λk'=>by rw[pk.2 k',e3]⟩)⟩ Y h Y (eI (e9.symm))))
     ·
      refine aj (nx (af (au tb V [0,1,2,3,1003] [_,_,.int (iu vs f),_] [2] U5 Y ⟨λ_ _ hk Z hl _=>dE (SX V M1 M2 M3 M4 M5 vs f (Oc.1) (hw) (λx Z=>EI x (List.mem_append_left _ Z))) (cO Tryz.func176) Y (aK hS _ hk Z) (Z.1) (dC (aH Z (mo 4 Y)) b9) (aq (hl.D 0 116 Y Y) (aq (hl.D 1 117 Y Y) aP)) (jo V Z),U⟩ ?_)))
      refine ak tb V (r5 [1001]) U2 U6 ?_
      refine cj 5 ?_ ?_<;>intro iA
      ·
       have nz:=iU iA
       have e9:gG cs vs fs hm tm f bf=iu vs f:=by rw[gG,if_neg (by rw[hb1];decide),if_neg (by rw[hb2];decide),if_neg (by rw[aE];decide),if_neg (by rw[e4];decide),if_neg (by rw[fM];decide),if_pos iA]
       refine ak tb V [1001] U2 [_] ?_
       refine tw cR (tw cR ?_)
       refine tw d8 (tw d8 ?_)
       refine tw dq (tw d8 ?_)
       exact tw d8 (aZ (λa w h=>dt  (m:=0) ⟨((cU fs f.ae),hm,tm),by first | (intro h9;rw[e9]at h9;exact absurd h9 (by first | decide | exact nz)) | (intro _;exact⟨Y,by rw[bi,cS oz],λk'=>by rw[pk.2 k',e3]⟩)⟩ Y h Y (eI (e9.symm))))
      ·
       refine aj (nx (af (au tb V [0,1,2,3,1001,1019] [_,_,.int (f.proof.length:Nat),_,_,_,_,_,_,_,_,.int (f.proof.length:Nat),_,_,_,_,_,.bool (f.proof.any (λs=>!fq s)),_,_] [2,11,17] U6 Y ⟨aD b6,aD b6,λ_ _ hk Z hl hc=>dE (uh V f.proof 177 [] [] (λs=>!fq s) (λq'=>(SH V q' hG).r) ((cO Tryz.func177))) (cO Tryz.func135) Y (aK hS _ hk Z) (Z.1) b9 (aq (hl.D 16 138 Y hc) (aq (pc 177) aP)) (jo V Z),U⟩ ?_)))
       refine ln 4 λ_=>?_
       refine cj 5 ?_ ?_<;>intro g5
       ·
        have e9:gG cs vs fs hm tm f bf=2:=by rw[gG,if_neg (by rw[hb1];decide),if_neg (by rw[hb2];decide),if_neg (by rw[aE];decide),if_neg (by rw[e4];decide),if_neg (by rw[fM];decide),if_neg (by rw[iA];decide),if_pos (show sc f=true from g5)]
        refine ak tb V [1000] [_] [_] ?_
        refine tw cR (tw cR ?_)
        refine tw d8 (tw d8 ?_)
        refine tw dq (tw d8 ?_)
        exact tw d8 (aZ (λa w h=>dt  (m:=0) ⟨((cU fs f.ae),hm,tm),by first | (intro h9;rw[e9]at h9;exact absurd h9 (by first | decide | exact nz)) | (intro _;exact⟨Y,by rw[bi,cS oz],λk'=>by rw[pk.2 k',e3]⟩)⟩ Y h Y (eI (e9.symm))))
       ·
        refine aj (nx (au tb V [0,1,2,3,1001,1002] [_,.rd (bW (bR f.aa)),_] [1] U6 Y ⟨bN hS V (GP V f (by refine km ?_;omega)) (cO Tryz.func139),U⟩ ?_))
        refine ln 4 λ_=>?_
        refine au tb V [0,2,3,1008,1009] (V3 [.int (gp (bf.map Hy.ae) ((bR f.aa).map Hy.ae):Nat),_,.int ((bR f.aa).length:Nat),_,.int ((bR f.aa).length:Nat),.rd (bW ((bR f.aa).drop (gp (bf.map Hy.ae) ((bR f.aa).map Hy.ae)))),_]) [3,5,7,8] U5 Y ⟨bN hS V (Sw V bf (bR f.aa)) (cO Tryz.func179),aD cT,aD cT,λ_ _ _ Z hl _=>TJ (ys:=(bR f.aa).drop (gp (bf.map Hy.ae) ((bR f.aa).map Hy.ae))) (lo:=gp (bf.map Hy.ae) ((bR f.aa).map Hy.ae)) Y cD (λ_=>Y) Y (hl.D 0 144 Y Y) (hl.D 3 147 Y Y) (hl.D 5 149 Y Y) (hl.D 7 151 Y Y) (by have:=yQ (bf.map Hy.ae) ((bR f.aa).map Hy.ae);simpa using this) Z,U⟩ ?_
        refine ln 3 λ_=>?_
        refine af (au tb V [0,1,2,1002] [_,.fn 180 [.ptr [.ptr (di [M1,M2,M3,M4,M5])]],.bool (((bR f.aa).drop (gp (bf.map Hy.ae) ((bR f.aa).map Hy.ae))).any (λy=>(aw hm y.ae).isSome))] [1,2] U4 Y ⟨λ_ _ _ Z hl _=>k5 (caps:=[(.tmp 3)]) Y (aq (hl.env 1 3 _ Y Y) aP) Z,λ_ _ hk Z hl _=>dE (RV V ((bR f.aa).drop (gp (bf.map Hy.ae) ((bR f.aa).map Hy.ae))) 180 [.ptr [.ptr (di [M1,M2,M3,M4,M5])]] [OB.mH M4 hm] (λy=>(aw hm y.ae).isSome) (λq'=>SI V M1 M2 M3 M4 M5 hm q') ((cO Tryz.func180))) (cO Tryz.func142) Y (aK hS _ hk Z) (Z.1) (dC (aH Z (mo 5 Y)) b9) (aq (hl.D 0 153 Y Y) (aq (hl.D 1 154 Y Y) aP)) (jo V Z),U⟩ ?_)
        refine cj 3 ?_ ?_<;>intro io
        ·
         have e9:gG cs vs fs hm tm f bf=7:=by rw[gG,if_neg (by rw[hb1];decide),if_neg (by rw[hb2];decide),if_neg (by rw[aE];decide),if_neg (by rw[e4];decide),if_neg (by rw[fM];decide),if_neg (by rw[iA];decide),if_neg (by rw[show sc f=_ from g5];decide),if_pos io]
         refine ak tb V [1000] [_] [_] ?_
         refine tw cR (tw cR ?_)
         refine tw d8 (tw d8 ?_)
         refine tw dq (tw d8 ?_)
         exact tw d8 (aZ (λa w h=>dt  (m:=0) ⟨((cU fs f.ae),hm,tm),by first | (intro h9;rw[e9]at h9;exact absurd h9 (by first | decide | exact nz)) | (intro _;exact⟨Y,by rw[bi,cS oz],λk'=>by rw[pk.2 k',e3]⟩)⟩ Y h Y (eI (e9.symm))))
        ·
         have e9:gG cs vs fs hm tm f bf=0:=by rw[gG,if_neg (by rw[hb1];decide),if_neg (by rw[hb2];decide),if_neg (by rw[aE];decide),if_neg (by rw[e4];decide),if_neg (by rw[fM];decide),if_neg (by rw[iA];decide),if_neg (by rw[show sc f=_ from g5];decide),if_neg (by rw[io];decide)]
         refine aj (nx (af (af (aT tb V [0,1,1005,1006,1007] (V4 [.rd (Ar ([f.aa,f.bA]:List (List Hy))),.rd (bW (([f.aa,f.bA]:List (List Hy)).flatten)),.int ((([f.aa,f.bA]:List (List Hy)).flatten).length:Nat),_]) [4,5,6] U5 Y ⟨λa _ hk Z hl _=>qr (k:=2) (us:=[a.eval (.tmp 157),a.eval (.tmp 159)]) vK Jh Y yz (bX (hl.D 1 157 Y Y) (bX (hl.D 3 159 Y Y) cE)) Y dz dz (aK hS _ hk Z _ aV) (jo V Z),bN hS V (GE V ([f.aa,f.bA]:List (List Hy)) (by refine km ?_;simp;omega)) (cO Tryz.func173),aD cT,U⟩ ?_))))
         refine kw (sa 2 Y (congrArg (λz'=>AV.rd (bW z')) (show(([f.aa,f.bA]:List (List Hy)).flatten)=(bG f)from by simp))) (kw (sa 3 Y (congrArg AV.int (show(((([f.aa,f.bA]:List (List Hy)).flatten).length:Nat):Int)=(((bG f).length:Nat):Int)from by simp))) ?_)
         refine nx (ax (lpo (ι:=Nat×(List (BA×Hy))) (λ(k,hn)=>(k<=(bG f).length)/\(hn=mN hm ((bG f).take k))) (λ(_,hn)=>(OB.mT m3 ts::OB.set aB m2 ls::OB.set aB M3 (cU fs f.ae)::OB.set aB M1 cs::OB.set aB M2 vs::OB.mH M4 hn::OB.mT M5 tm::R)) (λ(k,_)=>[(163,.int (k:Nat))]) (λ(k,_)=>(bG f).length-k) (r5 []) U4 (0,hm) ⟨aI,Y⟩ ?_))
         rintro⟨k,hn⟩ ⟨fx,bi⟩
         refine ak tb V (r5 [1000]) [_] U6 ?_
         refine cI 5 ?_ ?_<;>intro ll
         ·
          have hk4:k< (bG f).length:=Int.ofNat_lt.1 (of_decide_eq_true ll)
          refine aj (nx (af (ax (aL (sy (.ptr (aN (G (bG f) k))) (λh=>cb (i:=(k:Int)) cD Y (h.get 2 Y) (h.get 4 Y) bM (cq (xs:=bG f) (k:=k) az) Y h.x) ?_)))))
          refine ao 1 tb Y (iJ (cs:=aN (G (bG f) k)) su Y Y Y (lb Y) Y Y Y dz (m:=0) Y Y (λa w h=>aK hS _ h.keep h.x _ aV) (λa w h w' hk'=>fi V _ _ hk' h.x) ?_)
          refine aA [0,3,4,5,6,7] U6 Y (nx (tw qn ?_))
          refine λa w h=>iq (γ:=Unit) (λix'=>([.ptr (di [M1,M2,M3,M4,M5]),.ptr (di [M1,M2,M3,M4,M5]),.ptr (di [M4,M5]),.lit (.map (some M4)),.ptr (aN (G (bG f) k)),.str ((G (bG f) k).ae),.agg (aN (G (bG f) k)),.agg (aN (G (bG f) k)),.any]:List AV).getD ix' .any) (λ_=>true) [(9,λ_=>.ptr (di [m2,m3])),(3,λ_=>.ptr [.ptr (di [M1,M2,M3,M4,M5])]),(161,λ_=>.rd (bW (bG f))),(162,λ_=>.int ((bG f).length:Nat)),(163,λ_=>.int (k:Nat))] (λj' _=>match j' with | 0=>(OB.mH M4 hn::OB.mT m3 ts::OB.set aB m2 ls::OB.set aB M3 (cU fs f.ae)::OB.set aB M1 cs::OB.set aB M2 vs::OB.mT M5 tm::R) | _=>(OB.mH M4 (cl hn ((G (bG f) k).ae) (G (bG f) k))::OB.mT m3 ts::OB.set aB m2 ls::OB.set aB M3 (cU fs f.ae)::OB.set aB M1 cs::OB.set aB M2 vs::OB.mT M5 tm::R)) (λ_ _=>undef) [8] 0 () (λ_=>Y) h V cP Y Y Y Y Y Y hsb ⟨oX Y λZ hl=>qu ud Y (hl.env 2 3 _ Y Y) Z,oX Y λZ hl=>kC Y (hl.D 0 167 Y Y) Z,oX Y λZ hl=>ca th Y (hl.D 1 168 Y Y) Z,oX Y λZ hl=>bU ue Y (hl.D 2 169 Y Y) Z,oX Y λZ hl=>ca vR Y (hl.env 0 18 _ Y Y) Z,oX Y λZ hl=>bU fd Y (hl.D 4 171 Y Y) Z,oX Y λZ hl=>jB nk Y (hl.env 0 18 _ Y Y) aV Z,?_,bB Y,U⟩ ⟨?L7,U⟩ ⟨.old 1 9 _,.old 2 3 _,.old 3 161 _,.old 4 162 _,.old 5 163 _,U⟩ ?Xx
          exact oY Y λhk Z hl=>cQ (GO V (G (bG f) k) (by refine BI ?_;obtain⟨dm,hd⟩:=EZ _ (aC (by omega:k< (bG f).length));have:=N3 hd;omega)) (cO Tryz.func113) Y (aK hS _ hk Z) (Z.1) (aq (hl.D 6 173 Y Y) aP) (jo V Z)
          case L7=>exact⟨_,Y,Y,Y,Y,λg _ w hk Z hl _=>bC (pJ (f:=(λz':Hy=>AV.agg (aN z'))) tU V hJ0 ((G (bG f) k).ae) (G (bG f) k) (.inl Y) hk Z (hl.D 3 170 Y Y) (hl.D 5 172 Y Y) (hl.D 7 174 Y Y)) λv w' ⟨_,hp⟩=>⟨g,Y,λ_ _=>rfl,λe=>(by cases e),hp⟩⟩
          clear a w h
          intro _
          dsimp only[List.map]
          refine nx (aT tb V [0,1,2,3,1001] [.int (k+1:Nat),_] [0] U5 Y ⟨aM,U⟩ ?_)
          refine kw gx (kw bQ ?_)
          refine kw gx (kw gx ?_)
          refine kw gx (kw gx ?_)
          exact kw gx (bq (k+1,cl hn ((G (bG f) k).ae) (G (bG f) k)) (r5 []) ⟨oz,by rw[dG oz,OO,<-bi]⟩)
         ·
          have hk4:(bG f).length<=k:=by have:=of_decide_eq_false ll;omega
          refine aW (nx (tw gx (af (λa w h=>iq (γ:= { q':List (BA×BA) // ∀ k',aw q' k'=if(aw ts k').isSome then aw ts k' else aw tm k' }) (λix'=>([.ptr (di [M1,M2,M3,M4,M5]),.ptr (di [M1,M2,M3,M4,M5]),.ptr [.lit (.map (some M5))],.lit (.map (some M5)),.ptr [.lit (.map (some m3))],.lit (.map (some m3)),.any]:List AV).getD ix' .any) (λ_=>true) [] (λj' g=>match j' with | 0=>(OB.mT M5 tm::OB.mT m3 ts::OB.set aB m2 ls::OB.set aB M3 (cU fs f.ae)::OB.set aB M1 cs::OB.set aB M2 vs::OB.mH M4 hn::R) | _=>(OB.mT M5 g.1::OB.mT m3 ts::OB.set aB m2 ls::OB.set aB M3 (cU fs f.ae)::OB.set aB M1 cs::OB.set aB M2 vs::OB.mH M4 hn::R)) (λk' _=>match k' with | 0=>(.tuple #[]) | _=>undef) [6] 0 ⟨vA tm ts,Dt tm ts⟩ (λ_=>Y) h V cP Y Y Y Y Y Y hsb ⟨oX Y λZ hl=>qu ud Y (hl.env 1 3 _ Y Y) Z,oX Y λZ hl=>kC Y (hl.D 0 176 Y Y) Z,oX Y λZ hl=>ca Na Y (hl.D 1 177 Y Y) Z,oX Y λZ hl=>bU A5 Y (hl.D 2 178 Y Y) Z,oX Y λZ hl=>ca Ed Y (hl.env 0 9 _ Y Y) Z,oX Y λZ hl=>bU A5 Y (hl.D 4 180 Y Y) Z,bB Y,U⟩ ⟨?L8,U⟩ trivial ?Xy))))
          case L8=>exact⟨_,Y,Y,Y,Y,λ_ _ w hk Z hl _=>bC (pI (O:=[OB.mT M5 tm,OB.mT m3 ts]) (R:=(OB.set aB m2 ls::OB.set aB M3 (cU fs f.ae)::OB.set aB M1 cs::OB.set aB M2 vs::OB.mH M4 hn::R)) (RY V M5 m3 tm ts (by rw[e3];exact VD _ EI O5)) (cO Tryz.func181) Y hS hJ0 b9 hk Z (aq (hl.D 3 179 Y Y) (aq (hl.D 5 181 Y Y) aP))) λv w' ⟨i,hp,hv⟩=>⟨i,Y,λk' hk'=>absurd hk' (Nat.not_lt_zero _),λ_=>T7 hv,hp⟩⟩
          clear a w h
          intro z6
          dsimp only[List.map]
          refine nx (ak tb V [1000] [_] [_] ?_)
          refine tw bQ (tw cR ?_)
          refine tw bQ (tw cR ?_)
          refine tw d8 (tw dq ?_)
          refine tw d8 (tw d8 ?_)
          exact aZ (λa w h=>dt  (m:=0) ⟨((cU fs f.ae),hn,z6.1),by first | (intro h9;rw[e9]at h9;exact absurd h9 (by first | decide | exact nz)) | (intro _;exact⟨Y,by rw[bi,cS oz],λk'=>by rw[z6.2 k',e3]⟩)⟩ Y h Y (eI (e9.symm)))
theorem Kf:lE Tryz.prog 219 5:=⟨#[.map none,.map none,.map none,.map none,.map none],Y,λi=>(#[(0,1),(1,1),(2,1),(3,1),(4,1)]:Array (Nat×Nat))[i]?,λj hj=>by rcases j with _ | _ | _ | _ | _ | j<;>first | rfl | omega,λparts=>by kernel_rfl⟩
theorem RO {J:WP} (V:aS J) (d:Db) (hw:∀ f∈d.ab,f.wide.length*32<=140737488351232) (hG:iv J):Fn Tryz.prog J 112 [.agg (bZ d)] (.int (dy d)):=by
 refine fE Tryz.func112 λS w0 hS hJ0=>?_
 refine tw cc (au tb V [1000] [.ptr (bZ d),_] [0] [_] Y ⟨cW hS V,U⟩ ?_)
 refine af (au tb V [0,1001,1015] [_,_,.int (d.ab.length:Nat),_,_,_,_,.int (d.bH.length:Nat),_,_,_,_,_,.int (d.vars.length:Nat),_,_] [2,7,13] U3 Y ⟨aD m8,aD b6,aD b6,U⟩ ?_)
 refine ln 1 λ_=>?_
 refine cj 2 ?_ ?_<;>intro hb1
 ·
  have e9:dy d=8:=by rw[dy,if_pos hb1]
  refine ak tb V [1000] [_] [_] ?_
  exact bL 0 (hE:=eI (e9.symm))
 ·
  replace hb1:=(Bool.not_eq_true _).mpr hb1
  refine aj (nx (aL (qE aB V Y Y Y (lb Y) λm1=>?_)))
  refine qE aB V Y Y Y (lb Y) λm2=>?_
  refine qE aB V Y Y Y (lb Y) λm3=>?_
  refine qD aB (λz':Hy=>AV.agg (aN z')) V Y Y Y (lb Y) λm4=>?_
  refine qD aB (λz':BA=>AV.str z') V Y Y Y (lb Y) λm5=>?_
  refine sq (.agg [.lit (.map (some m1)),.lit (.map (some m2)),.lit (.map (some m3)),.lit (.map (some m4)),.lit (.map (some m5))]) Y Y (lb Y) (λa _ h=>gd (us:=[a.eval (.tmp 25),a.eval (.tmp 26),a.eval (.tmp 27),a.eval (.tmp 28),a.eval (.tmp 29)]) Kf Y yz (bX (h.get 4 Y) (bX (h.get 3 Y) (bX (h.get 2 Y) (bX (h.get 1 Y) (bX (h.get 0 Y) cE))))) Y h.x) ?_
  refine sy (.ptr (di [m1,m2,m3,m4,m5])) (λh=>gc Y (h.get 0 Y) (aK hS _ h.keep h.x _ aV) (jo V h.x)) ?_
  refine ao 1 tb Y (aA [0,8] U2 Y ?_)
  refine nx (af (aL (ao 2 tb Y (kw dq ?_))))
  refine kw dq (kw dq ?_)
  refine kw gN (kw d8 ?_)
  refine iI (O:=[OB.set aB m1 ([]:List BA),OB.set aB m2 ([]:List BA)]) (R:=[OB.mT m5 ([]:List (BA×BA)),OB.mH m4 ([]:List (BA×Hy)),OB.set aB m3 ([]:List BA)]) (SY V m1 m2 m3 m4 m5 d) (cO Tryz.func137) Y Y Y (lb Y) hS hJ0 b9 (λa w h=>(aq (h.get 1 Y) (aq (h.get 0 Y) aP))) λz6=>?_
  refine ao 1 tb Y (aA [0,4,5] U3 Y ?_)
  refine nx (ak tb V [0,1,2,1001] U2 U4 ?_)
  refine cj 3 ?_ ?_<;>intro hb2
  ·
   have e9:dy d=ec d:=by rw[dy,if_neg hb1,if_pos hb2]
   refine ak tb V [1001] U2 [_] ?_
   exact bL 0 (hE:=eI (e9.symm))
  ·
   have e2:ec d=0:=oU hb2
   have z2:=z6.2 e2
   replace hb2:=(Bool.not_eq_true _).mpr hb2
   refine tw (ji (congrArg (λz'=>OB.set aB m1 (z')) (show z6.1.1=d.bH from by rw[z2]))) (tw (Gg (congrArg (λz'=>OB.set aB m2 (z')) (show z6.1.2=d.vars from by rw[z2]))) ?_)
   refine aj (nx (ak tb V [1,2,1000] [_] U3 ?_))
   refine af (au tb V [0,2,1001,1002,1003] [_,_,.int (d.ab.length:Nat),_] [2] U5 Y ⟨aD m8,U⟩ ?_)
   refine ax (tw (λh=>gj h (m:=1) (s:=5) Y) (lpo (ι:=Nat×(List Hy)×(List BA)×(List (BA×Hy))×(List (BA×BA))) (λ(k,bf,fs,hm,tm)=>(k<=d.ab.length)/\(ng d k fs hm tm bf)/\(∀ j,j<k->dB d j=0)) (λ(_,_,fs,hm,tm)=>[OB.set aB m1 d.bH,OB.set aB m2 d.vars,OB.mT m5 tm,OB.mH m4 hm,OB.set aB m3 fs]) (λ(k,bf,_,_,_)=>[(41,.int (k:Nat)),(5,.rd (bW bf))]) (λ(k,_,_,_,_)=>d.ab.length-k) [1,2,3,4,0] U3 (0,[],([]:List BA),([]:List (BA×Hy)),([]:List (BA×BA))) ⟨aI,PW d,λj hj=>by omega⟩ ?_))
   rintro⟨k,bf,fs,hm,tm⟩ ⟨aQ,ah,bp⟩
   refine ak tb V (r5 [1000]) [_] U6 ?_
   refine ln 4 λ_=>?_
   refine cI 5 ?_ ?_<;>intro aE<;>try simp at aE
   ·
    refine aj (nx (af (ax (aL (sy (.ptr (aY (G d.ab k))) (λh=>cb (i:=(k:Int)) fK Y (h.get 1 Y) (h.get 3 Y) bM (cq (xs:=d.ab) (k:=k) az) Y h.x) ?_)))))
    refine ao 1 tb Y (iJ (cs:=aY (G d.ab k)) xY Y Y Y (lb Y) Y Y Y dz (m:=0) Y Y (λa w h=>aK hS _ h.keep h.x _ aV) (λa w h w' hk'=>fi V _ _ hk' h.x) ?_)
    refine aA [0,3,4,5,6,7] U6 Y (nx (af (aL ?_)))
    refine ao 3 tb Y (kw dq ?_)
    refine kw gN (kw d8 ?_)
    refine kw d8 (kw d8 ?_)
    refine iI (O:=[OB.set aB m1 d.bH,OB.set aB m2 d.vars,OB.set aB m3 fs,OB.mH m4 hm,OB.mT m5 tm]) (R:=[]) (SG V m1 m2 m3 m4 m5 d.bH d.vars fs hm tm (G d.ab k) bf (hw _ (aC oz)) (hG)) (cO Tryz.func138) Y Y Y (lb Y) hS hJ0 b9 (λa w h=>(aq (h.get 2 Y) (aq (h.get 1 Y) (aq (h.get 0 Y) aP)))) λz7=>?_
    refine ao 1 tb Y (aA [0,5,6,7,8,9] U6 Y ?_)
    refine nx (ak tb V (r6 [1001]) U2 U7 ?_)
    refine cj 6 ?_ ?_<;>intro bh
    ·
     have e4:dB d k≠0:=by rw[<-zC ah oz];exact iU bh
     have e9:dy d=gG d.bH d.vars fs hm tm (G d.ab k) bf:=by rw[dy,if_neg hb1,if_neg hb2,i8 oz bp e4,zC ah oz]
     refine ak tb V [1001] U2 [_] ?_
     exact bL 0 (hE:=eI (e9.symm))
    ·
     have e4:dB d k=0:=by rw[<-zC ah oz];exact oU bh
     have z4:=z7.2 (oU bh)
     refine aj (nx (aT tb V [2,3,4,5,1001,1002] [_,.rd (bW (bR (G d.ab k).aa)),_] [1] U6 Y ⟨bN hS V (GP V (G d.ab k) (by have:=(tl e4).1;omega)) (cO Tryz.func139),U⟩ ?_))
     refine nx (ln 4 λhl3=>?_)
     refine aT tb V [0,1,2,5,1001] [.int (k+1:Nat),_] [0] U5 Y ⟨aM,U⟩ ?_
     refine kw dq (kw gN ?_)
     refine kw d8 (kw d8 ?_)
     exact kw d8 (bq (k+1,(bR (G d.ab k).aa),z7.1.1,z7.1.2.1,z7.1.2.2) [0,1,2,4,3] ⟨oz,by rw[z4.1,z4.2.1];exact PV ah oz e4 z4.2.2,cF bp e4⟩)
   ·
    have e9:dy d=0:=by rw[dy,if_neg hb1,if_neg hb2];exact mB λj hj=>bp j oz
    refine aW (nx (ak tb V [1000] [_] [_] ?_))
    exact bL 0 (hE:=eI (e9.symm))
end Go.Proofs.YtdfadihhfppjaaaGreatDoor
