/-
  Part of the proof that MinimizeChecks returns true. Conditions: none.
-/
import Derived.Test.YtdfadihhfppjaaaGreatDoorBEAA
set_option maxRecDepth 100000
set_option maxHeartbeats 8000000
open List (all_eq_true ext_getElem? length_drop length_map length_set map_set mem_append_right mem_cons mem_cons_of_mem mem_cons_self mem_map mem_of_mem_drop mem_zipIdx' take_length)
namespace Go.Proofs.YtdfadihhfppjaaaGreatDoor
open Go.Proofs.Tryz (prog)
open Go.RowKit
theorem Cj:prog.underlying 122=some (.slice 4):=by kernel_rfl
theorem W7:mz prog 88 2:=⟨(#[.string ⟨#[]⟩,.slice none 0 0]),Y,by kernel_rfl⟩
section
variable {J:WP} (V:aR J)
include V
theorem Sh (xs:List Stp) (n9:xs.length<=1000000):my prog J 115 [] [.ptr [aY xs]] (λx9=>[.int (x9.1:Nat),.agg (bx x9.2)]) (iv xs) (none):=by
 refine wq (N:=19) Tryz.func115 Y Y (lb Y) λS w0 R l κ μ σ I pv O3 O4 k0 hS hJ0 hH hY=>g5 (B:=So J S w0 19 (I ([]) k0++R) [(0,.rd (.lit (.func (.yield l) #[] #[]))),(1,.ptr [aY xs])]) ?_ λa w h=>h
 refine af (aT tb V [0,1,1000,1003] [_,.int (xs.length:Nat),.int ((xs.length:Int)-(1:Int)),_] [1,2] U4 Y ⟨aC eo,md,U⟩ ?_)
 refine kw (sa 3 Y (congrArg AV.int (show(xs.length:Int)-(1:Int)=(xs.length:Int)-1-((0:Nat):Int)from by simp))) (nx (ln 2 λcr=>?_))
 refine ax (lpo (ι:=Nat×(List (Nat×Stp))×κ) (λ(k,pre,_)=>(k<=xs.length)/\(pre=(iv xs).take k)) (λ(_,pre,kk)=>(I pre kk++R)) (λ(k,_,_)=>[(3,.int ((xs.length:Int)-1-(k:Int)))]) (λ(k,_,_)=>xs.length-k) [0,1,3] U2 (0,[],k0) ⟨aI,Y⟩ ?_)
 rintro⟨k,pre,kk⟩ ⟨aQ,ah⟩
 refine af (aj tb V [0,1,2,1001] U2 U4 ?_)
 refine cj 3 ?_ ?_<;>intro hb1<;>try simp at hb1
 refine tw (sa 2 Y (show(.int ((xs.length:Int)-1-(k:Int)):AV)= .int (xs.length-1-k:Nat)from congrArg AV.int oz)) (ak (nx (af (ax (aL (ao 4 tb Y (sy (.ptr (bx (G xs (xs.length-1-k)))) (λh=>cb (i:=((xs.length-1-k:Nat):Int)) eq Y (h.get 1 Y) (h.get 0 Y) bK (cl (xs:=xs) (k:=xs.length-1-k) ay) Y h.x) ?_)))))))
 refine ao 1 tb Y (B5 (O:=I pre kk) (R:=R) (xs:=U2) (bv:=[.int ((xs.length-1-k,(G xs (xs.length-1-k))).1:Nat),.agg (bx ((xs.length-1-k,(G xs (xs.length-1-k))).2))]) Y Y Y Y (lb Y) (λa w h=>(h.get 5 Y).lit) (λa w h=>aq (h.get 4 Y) (aq (h.get 0 Y) aN)) (λm' R' w1 vs hk Z hv=>hY m' R' pre (xs.length-1-k,(G xs (xs.length-1-k))) kk w1 vs (by rw[ah];exact Di oz) hk Z hv) (λq=>wW q) (λs1=>?_) (λz2=>?_))
 refine ao 1 tb Y (aA [0,8,9,10] U4 Y (nx (cj 0 (λhb2=>?_) λhb2=>?_)))
 try simp at hb2
 exact aX (λa w h=>wX s1 Y h)
 exact False.elim (by simp at hb2)
 refine ao 1 tb Y (aA [0,8,9,10] U4 Y (nx (cj 0 (λhb2=>?_) λhb2=>?_)))
 exact False.elim (by simp at hb2)
 try simp at hb2
 refine ak (nx (aT tb V [1,2,1002] [_,.int (((xs.length-1-k:Nat):Int)-(1:Int)),_] [1] U3 Y ⟨md,U⟩ ?_))
 exact kw (sa 2 Y (congrArg AV.int (show((xs.length-1-k:Nat):Int)-(1:Int)=(xs.length:Int)-1-((k+1:Nat):Int)from by omega))) (br ((k+1),(pre++[(xs.length-1-k,(G xs (xs.length-1-k)))]),z2) [0,1,2] ⟨oz,by rw[ah];exact yQ oz⟩)
 exact aW (λa w h=>wV (Y) (by rw[ah,show k=xs.length by omega];exact Dg) kk Y h)
theorem Sg (xs:List Stp)  :Fn prog J 89 [.rd (aY xs)] (.fn 115 [.ptr [aY xs]]):=by
 refine fE Tryz.func89 λS w0 hS hJ0=>?_
 clear hJ0
 refine ln 0 λ_=>?_
 refine aJ tb V [1000] [.ptr [aY xs],_] [0] [_] Y ⟨λ_ _ hk Z hl _=>ld Y (hl.env 0 0 _ Y Y) (hS _ hk.size) (js V Z),U⟩ ?_
 refine aJ tb V [1001] [.fn 115 [.ptr [aY xs]],_] [0] [_] Y ⟨λ_ _ _ Z hl _=>lf (caps:=[(.tmp 1)]) Y (aq (hl.env 0 1 _ Y Y) aN) Z,U⟩ ?_
 exact aU 0 (hE:=Y)
theorem Sj (xs:List (List BA)) (n9:xs.length<=1000000):my prog J 90 [] [.ptr [cu xs]] (λx9=>[.int (x9.1:Nat),.rd (ai x9.2)]) (iv xs) (none):=by
 refine wq (N:=19) Tryz.func90 Y Y (lb Y) λS w0 R l κ μ σ I pv O3 O4 k0 hS hJ0 hH hY=>g5 (B:=So J S w0 19 (I ([]) k0++R) [(0,.rd (.lit (.func (.yield l) #[] #[]))),(1,.ptr [cu xs])]) ?_ λa w h=>h
 refine af (aT tb V [0,1,1000,1003] [_,.int (xs.length:Nat),.int ((xs.length:Int)-(1:Int)),_] [1,2] U4 Y ⟨aC sH,md,U⟩ ?_)
 refine kw (sa 3 Y (congrArg AV.int (show(xs.length:Int)-(1:Int)=(xs.length:Int)-1-((0:Nat):Int)from by simp))) (nx (ln 2 λcr=>?_))
 refine ax (lpo (ι:=Nat×(List (Nat×(List BA)))×κ) (λ(k,pre,_)=>(k<=xs.length)/\(pre=(iv xs).take k)) (λ(_,pre,kk)=>(I pre kk++R)) (λ(k,_,_)=>[(3,.int ((xs.length:Int)-1-(k:Int)))]) (λ(k,_,_)=>xs.length-k) [0,1,3] U2 (0,[],k0) ⟨aI,Y⟩ ?_)
 rintro⟨k,pre,kk⟩ ⟨aQ,ah⟩
 refine af (aj tb V [0,1,2,1001] U2 U4 ?_)
 refine cj 3 ?_ ?_<;>intro hb1<;>try simp at hb1
 refine tw (sa 2 Y (show(.int ((xs.length:Int)-1-(k:Int)):AV)= .int (xs.length-1-k:Nat)from congrArg AV.int oz)) (ak (nx (af (ax (aL (ao 4 tb Y (sy (.ptr [ai (G xs (xs.length-1-k))]) (λh=>cb (i:=((xs.length-1-k:Nat):Int)) eG Y (h.get 1 Y) (h.get 0 Y) bK (cl (xs:=xs) (k:=xs.length-1-k) ay) Y h.x) ?_)))))))
 refine ao 1 tb Y (B5 (O:=I pre kk) (R:=R) (xs:=U2) (bv:=[.int ((xs.length-1-k,(G xs (xs.length-1-k))).1:Nat),.rd (ai ((xs.length-1-k,(G xs (xs.length-1-k))).2))]) Y Y Y Y (lb Y) (λa w h=>(h.get 5 Y).lit) (λa w h=>aq (h.get 4 Y) (aq (h.get 0 Y) aN)) (λm' R' w1 vs hk Z hv=>hY m' R' pre (xs.length-1-k,(G xs (xs.length-1-k))) kk w1 vs (by rw[ah];exact Di oz) hk Z hv) (λq=>wW q) (λs1=>?_) (λz2=>?_))
 refine ao 1 tb Y (aA [0,2,8,9,10] U5 Y (nx (ln 1 λhl2=>?_)))
 refine cj 0 ?_ ?_<;>intro hb2
 try simp at hb2
 exact aX (λa w h=>wX s1 Y h)
 exact False.elim (by simp at hb2)
 refine ao 1 tb Y (aA [0,2,8,9,10] U5 Y (nx (ln 1 λhl3=>?_)))
 refine cj 0 ?_ ?_<;>intro hb2
 exact False.elim (by simp at hb2)
 try simp at hb2
 refine ak (nx (aT tb V [2,3,1002] [_,.int (((xs.length-1-k:Nat):Int)-(1:Int)),_] [1] U3 Y ⟨md,U⟩ ?_))
 exact kw (sa 2 Y (congrArg AV.int (show((xs.length-1-k:Nat):Int)-(1:Int)=(xs.length:Int)-1-((k+1:Nat):Int)from by omega))) (br ((k+1),(pre++[(xs.length-1-k,(G xs (xs.length-1-k)))]),z2) [0,1,2] ⟨oz,by rw[ah];exact yQ oz⟩)
 exact aW (λa w h=>wV (Y) (by rw[ah,show k=xs.length by omega];exact Dg) kk Y h)
theorem Si (xs:List (List BA))  :Fn prog J 63 [.rd (cu xs)] (.fn 90 [.ptr [cu xs]]):=by
 refine fE Tryz.func63 λS w0 hS hJ0=>?_
 clear hJ0
 refine ln 0 λ_=>?_
 refine aJ tb V [1000] [.ptr [cu xs],_] [0] [_] Y ⟨λ_ _ hk Z hl _=>ld Y (hl.env 0 0 _ Y Y) (hS _ hk.size) (js V Z),U⟩ ?_
 refine aJ tb V [1001] [.fn 90 [.ptr [cu xs]],_] [0] [_] Y ⟨λ_ _ _ Z hl _=>lf (caps:=[(.tmp 1)]) Y (aq (hl.env 0 1 _ Y Y) aN) Z,U⟩ ?_
 exact aU 0 (hE:=Y)
theorem Hk (ss:List Stp) (bw:ey ss):Fn prog J 62 [.agg (be ss)] (.rd (mJ (fW ss))):=by
 refine zL (N:=38) Tryz.func62 Y Y (lb Y) λS w0 hS hJ0=>oH cc ?_
 have jX:=bw.1
 have cr:=bw.2.1
 refine im (m:=5) (aT tb V [1000] [.ptr (be ss),_] [0] [_] Y ⟨cY hS V,U⟩ ?_)
 refine iC (im (m:=5) (cC (ao 2 tb Y (sy (.int (ss.length:Nat)) (λh=>kq eo Y (h.get 0 Y) h.x) ?_))))
 refine xY (f:=kh) (k:=ss.length) false Gk Y V Y Y Y (lb Y) (λa w h=>⟨(h.get 0 Y),(h.get 0 Y)⟩) ay ay λv1=>cx WO V Y Y Y (lb Y) λb2=>gI (b:=b2) (off:=0) (es:=[_]) V hJ0 Vq Y Y Y (lb Y) Y (λa w h=>⟨(h.get 0 Y),(h.get 1 Y)⟩) (aA [0,3,5] U3 Y (iC (mf 1 λcr=>?_)))
 refine im (m:=5) (cC (sq (.lit v1) Y Y (lb Y) (λ_ _ h=>cg uo Y (aG h.x (mo 0 Y)) (h.get 0 Y) Y h.x) (sy (.lit v1) (λh=>cg uo Y (aG h.x (mo 0 Y)) (h.get 1 Y) Y h.x) ?_)))
 refine sy (.int ((List.replicate ss.length false).length:Nat)) (λh=>pm (by rw[length_map]) Cj Y (aG h.x (mo 1 Y)) (h.get 0 Y) h.x) ?_
 refine sy (.int ((List.replicate ss.length false).length-1:Nat)) (λh=>qI (i:=(List.replicate ss.length false).length) (j:=1) Y (h.get 0 Y) (Rel.aH (.int .i64 1)) ay ay h.x) ?_
 refine sy (.lit (cG v1 (((List.replicate ss.length false).length-1)*1))) (λh=>eZ (i:=(((List.replicate ss.length false).length-1:Nat):Int)) nN Y (aG h.x (mo 1 Y)) (h.get 3 Y) (h.get 0 Y) bK (by rw[length_map];exact Int.ofNat_lt.2 ay) h.x) ?_
 refine kw bO (qT (i:=(List.replicate ss.length false).length-1) V hJ0 qO Y Y Y (by rw[length_map];exact ay) (λa w h=>⟨(h.get 0 Y),(Rel.aH (.bool true))⟩) ?_)
 rw[show((List.replicate ss.length false).map kh).set ((List.replicate ss.length false).length-1) [lB true]=((List.replicate ss.length false).set ((List.replicate ss.length false).length-1) true).map kh from map_set.symm]
 refine aA [5,7] U2 Y (iC (ve (im (m:=5) (aT tb V [0,1002] [_,_,.fn 115 [.ptr [aY ss]]] [2] U2 Y ⟨bJ hS V (Sg V ss) (cO Tryz.func89),U⟩ ?_))))
 refine iC (vd (oH (λh=>oq (p:=(((List.replicate ss.length false).set ((List.replicate ss.length false).length-1) true)=jb ss ([]:List (Nat×Stp)).length)) (by rw[List.length_replicate];rfl) h) ?_))
 refine H8 (m:=5) (κ:=Value×(List Bool)) (μ:=Empty) (σ:=Empty) (Sh V ss oz) (cO Tryz.func115) V hS hJ0 b8 (λpre (wv,ys)=>[OB.mO (ys=jb ss pre.length),OB.row wv 4 1 (ys.map kh),OB.var b2 [.lit wv]]) (λq':Empty=>undef) (λq'=>[]) (λs'=>[]) (v1,(List.replicate ss.length false).set ((List.replicate ss.length false).length-1) true) (λx9=>[(5,.ptr (bx x9.2)),(3,.at b2 0),(4,.int (x9.1:Nat))]) (lb Y) (lb Y) Tryz.func62 ?_ ?_ ?_ ?_ ?_ ?_ ?_
 ·exact λa w h=>xJ (h.get 1 Y)
 rintro m9 l9 R' pre x9 ⟨wv,ys⟩ K9 qd
 refine aj tb V [0,2,1000] [_] U3 ?_
 refine cC (iX (cs:=bx x9.2) W7 Y Y Y (lb Y) Y Y Y dz (m:=0) Y Y (λa w h=>aK hS _ h.keep h.x _ aV) (λa w h w' hk'=>fo V _ _ hk' h.x) (aA [0,2,3] U3 Y (qd)))
 rintro m9 l9 R' pre x9 ⟨wv,ys⟩ hpre
 refine ye λhF=>?_
 have ir:ys=jb ss pre.length:=hF
 obtain⟨wC,wD,rJ⟩:=Dh hpre
 have Oy:ys.length=ss.length:=by rw[ir,A5]
 refine ax (au tb V [0,1,1003] [.lit wv,_,.lit (cG wv (x9.1*1)),.bool (G ys x9.1)] [0,2,3] U3 Y ⟨λ_ _ _ Z hl _=>cg uo Y (aG Z (mo 1 Y)) (hl.env 1 3 _ Y Y) Y Z,λ_ _ _ Z hl _=>eZ (i:=(x9.1:Int)) nN Y (aG Z (mo 0 Y)) (hl.D 0 22 Y Y) (hl.D 1 23 Y Y) bK (by rw[length_map];exact Int.ofNat_lt.2 ay) Z,λ_ _ _ Z hl _=>nn (i:=x9.1) xl Y (aG Z (mo 0 Y)) (hl.D 2 24 Y Y) (iG (xs:=ys) (k:=x9.1) ay) Z,U⟩ ?_)
 refine cj 2 ?_ ?_<;>intro hb1<;>try simp at hb1
 refine au tb V [1,1001,1002,1003] [_,_,.int (x9.2.args.length:Nat),_] [2] U4 Y ⟨aC fb,U⟩ ?_
 refine ln 1 λ_=>?_
 refine ax (lpo (ι:=Nat×(List Bool)×Value) (λ(q,zs,_)=>(q<=x9.2.args.length)/\(zs=iU ys (x9.2.args.take q))) (λ(_,zs,wu)=>(OB.row wu 4 1 (zs.map kh)::OB.var b2 [.lit wu]::R')) (λ(q,_,_)=>[(29,.int (q:Nat))]) (λ(q,_,_)=>x9.2.args.length-q) [0,1,2,3] U3 (0,ys,wv) ⟨aI,Y⟩ ?_)
 rintro⟨q,zs,wu⟩ ⟨aQ,ah⟩
 refine aj tb V [0,1,2,3,1000] [_] U5 ?_
 refine cE 4 ?_ ?_<;>intro hb2<;>try simp at hb2
 have e4:=um bw (k:=x9.1) (j:=q) oz (by rw[<-rJ];omega)
 rw[<-rJ]at e4
 have e5:zs.length=ss.length:=by rw[ah,A4,Oy]
 refine ak (nx (af (ax (au tb V [0,1,2,3,1002] [.ptr [lI (G x9.2.args q)],_,_] [0] U5 Y ⟨bq c8,U⟩ ?_))))
 refine cC (sq (.lit wu) Y Y (lb Y) (λ_ _ h=>cg uo Y (aG h.x (mo 1 Y)) (h.get 0 Y) Y h.x) (ao 1 tb Y (sy (.lit (cG wu (((G x9.2.args q).toNat)*1))) (λh=>eZ (i:=(G x9.2.args q)) nN Y (aG h.x (mo 0 Y)) (h.get 1 Y) (h.get 0 Y) ay (by rw[length_map];exact ay) h.x) ?_)))
 refine qT (i:=(G x9.2.args q).toNat) V hJ0 qO Y Y Y (by rw[length_map];exact ay) (λa w h=>⟨(h.get 0 Y),(Rel.aH (.bool true))⟩) ?_
 rw[show(zs.map kh).set ((G x9.2.args q).toNat) [lB true]=(zs.set ((G x9.2.args q).toNat) true).map kh from map_set.symm]
 refine aA [3,4,5,6] U4 Y (nx (aT tb V [0,1,2,1001] [.int (q+1:Nat),_] [0] U4 Y ⟨aM,U⟩ ?_))
 exact br (q+1,zs.set ((G x9.2.args q).toNat) true,wu) [0,1,2,3] ⟨oz,by rw[ah];exact Gi oz⟩
 exact aW (kw (λh=>oq (p:=(zs=jb ss (pre++[x9]).length)) (by first | (rw[ah,rJ,A0 hb1 (by rw[<-rJ];omega),xf ir wC wD];done) | (rw[<-xf ir wC wD,A9 hb1])) h) (λa w h=>⟨(wu,zs),h.keep,h.x⟩))
 exact ak (kw (λh=>oq (p:=(ys=jb ss (pre++[x9]).length)) (by first | (rw[ah,rJ,A0 hb1 (by rw[<-rJ];omega),xf ir wC wD];done) | (rw[<-xf ir wC wD,A9 hb1])) h) (λa w h=>⟨(wv,ys),h.keep,h.x⟩))
 rintro fe ⟨wv,ys⟩ D
 refine kw bO (ya λhF=>?_)
 have ir:ys=jb ss (iv ss).length:=hF
 refine sd (m:=5) (s8 (mM (sy (.lit wv) (λh=>cg uo Y (aG h.x (mo 2 Y)) (h.get 0 Y) Y h.x) ?_)))
 refine ao 1 tb Y (aA [0] [_] Y (uh (vT (xn V hJ0 (kw (λh=>dU hS h (m:=0) (s:=2) Y) (Iw (m:=0) Y Y (congrArg (λz=>AV.rd (mJ z)) (show ys=(fW ss)from by rw[ir,sU];rfl))))))))
 ·exact λs=>s.elim
 ·exact λv h=>by cases h
 ·exact λq=>q.elim
end
end Go.Proofs.YtdfadihhfppjaaaGreatDoor
namespace Go.Proofs.YtdfadihhfppjaaaGreatDoor
open Go.RowKit
theorem Iu {α:Type} {f:α->List CD} {xs:List α} {k:Nat} {r:List CD} (h:k<xs.length):((xs.map f).set k r)[k]?=some r:=by
 rw[List.getElem?_set_self];simpa using h
theorem ND {k i j:Nat} {r:List CD} {c:CD} {rows:List (List CD)} (hlen:∀ q∈rows,q.length=k) (hrow:rows[i]?=some r) (hj:j<r.length):(rows.set i (r.set j c)).flatten=rows.flatten.set (i*k+j) c:=by
 have hl:i<rows.length:=(List.getElem?_eq_some_iff.1 hrow).1
 have hge:rows[i]=r:=(List.getElem?_eq_some_iff.1 hrow).2
 have Ax:r.length=k:=hlen r (hge▸List.getElem_mem hl)
 have hd:rows.flatten.drop (i*k)=r++rows.flatten.drop (i*k+k):=by
  rw[oM rows i hlen,List.drop_eq_getElem_cons hl,hge,List.flatten_cons,show i*k+k=(i+1)*k by rw[Nat.add_mul];omega,oM rows (i+1) hlen]
 have hp:i*k+j<rows.flatten.length:=by
  have h1:=congrArg List.length hd
  rw[length_drop,List.length_append]at h1
  omega
 have tK:rows.flatten.drop (i*k+j+1)=r.drop (j+1)++rows.flatten.drop (i*k+k):=by
  rw[show i*k+j+1=i*k+(j+1) by omega,<-List.drop_drop,hd,List.drop_append_of_le_length oz]
 have Ag:rows.flatten.take (i*k+j)=rows.flatten.take (i*k)++r.take j:=by
  rw[List.take_add,hd,List.take_append_of_le_length oz]
 rw[zB rows i (r.set j c) hlen hl,List.set_eq_take_append_cons_drop (i:=i*k+j),if_pos hp,Ag,tK,List.set_eq_take_append_cons_drop (i:=j),if_pos hj]
 simp
section
variable {N:Nat} {J:WP} {S:Nat->Prop} {O:List OB} {w0:World} {env:List (Nat×AV)} {a:Act} {w:World} {v:Value} {e k:Nat} {rows rows':List (List CD)}
theorem xW {q:Nat} (h:SO S (OB.row v e k rows::O) q):SO S (OB.row v e k rows'::O) q:=⟨h.1,λp hp=>by
 rcases mem_cons.1 hp with rfl | hp
 ·exact h.2 (OB.row v e k rows) yz
 ·exact h.2 p (by simp[hp])⟩
theorem VP {va:Value} {e2 k2:Nat} {xL:List (List CD)} {r:List CD} {i j:Nat} (hS:∀ b,w0.heap.size<=b->S b) (hrow:rows[i]?=some r) (hj:r[j]?=some (.lit va)) (hc:rows'=rows.set i (r.set j (.sl xL))) (h:So J S w0 N (OB.row va e2 k2 xL::OB.row v e k rows::O) env a w):
 So J S w0 N (OB.row v e k rows'::O) env a w:=by
 have h':=cK h
 have hrd:=qK (v:=va) (e:=e2) (size:=k2) (rows:=xL) (vY hS h) (OB.sub (h.x.2.1 (OB.row va e2 k2 xL) yz) λk _ hk=>hk.drop)
 refine⟨h'.defs,h'.size,h'.keep,⟨h'.x.1,λp hp=>?_,?_⟩,λp hp=>⟨(h'.env p hp).1,(h'.env p hp).2.sub λ_ _ hk=>xW hk⟩⟩
 ·rcases mem_cons.1 hp with rfl | hp
  ·obtain⟨us,h1,h2,h3⟩:=h'.x.2.1 (OB.row v e k rows) yz
   have rN:j<r.length:=(List.getElem?_eq_some_iff.1 hj).1
   have ql:r.length=k:=h3 r (List.mem_of_getElem? hrow)
   have fe:rows.flatten[i*k+j]?=some (.lit va):=NB h3 hrow hj
   refine⟨us,by rw[hc,length_set];exact h1,?_,λq hq=>?_⟩
   ·rw[hc,ND h3 hrow rN]
    refine bE.kp (by rw[length_set];exact h2.length) λp c u g1 g2=>?_
    rw[List.getElem?_set]at g1
    split at g1
    ·rename_i gR
     subst gR
     split at g1
     ·cases g1
      obtain rfl:=(h2.get fe g2).aH
      simp only[Rel]at hrd
      exact hrd.sub λ_ _ hk=>xW hk
     ·cases g1
    ·exact(h2.get g1 g2).sub λ_ _ hk=>xW hk
   ·rw[hc]at hq
    rcases List.mem_or_eq_of_mem_set hq with hq | rfl
    ·exact h3 q hq
    ·rw[length_set];exact ql
  ·exact OB.sub (h'.x.2.1 p (mem_cons_of_mem _ hp)) λ_ _ hk=>xW hk
 ·have:=List.pairwise_cons.1 h'.x.2.2
  exact List.pairwise_cons.2 ⟨λp hp k h1 h2=>this.1 p hp k h1 h2,this.2⟩
end
section
variable {n:Rn} {P:Program} {J X:WP} {S S':Nat->Prop} {O:List OB} {w0 w:World} {o:Oper} {a:Act} {x y:Operand} {t e:TypeId} {v:Value} {k i:Nat}
theorem DZ {α:Type} {f:α->List CD} {xs:List α} (u:α) (V:aR J) (hJ0:J w0) (hs:dV P t k) (hop:o.op= .store t x y) (hk0:Keeps All w0 w) (Z:XO J S w0.heap.size (OB.row v e k (xs.map f)::O) w) (h1:Rel S' w (.lit (cG v (i*k))) (a.eval x))
 (h2:Rel (SO S (OB.row v e k (xs.map f)::O)) w (.agg (f u)) (a.eval y)) (hl:i<xs.length) (hn:(f u).length=k):
 Does n P o a w λ_ w'=>dc J S w0 (OB.row v e k (xs.map f)::O) w (OB.row v e k ((xs.set i u).map f)::O) w':=by
 simp only[Rel]at h2
 obtain⟨us,hv,hr⟩:=h2
 rw[map_set]
 exact bD (vS V hJ0 hs hop hk0 Z h1 (by rw[hv];rfl) hr (by rw[length_map];exact hl) hn) λ_ _ ⟨_,h⟩=>h
def CF (P:Program) (t:TypeId):Prop:=∀(u:Value) (w:World),(Instr.field t (.agg #[u]) 0).run P w= .ok u w
theorem HV {c:CD} (ht:CF P t) (hop:o.op= .field t x 0) (h:Rel S w (.agg [c]) (a.eval x)) (Z:X w):Does n P o a w (bG S X (.rd c) w):=by
 simp only[Rel]at h
 obtain⟨us,e,hr⟩:=h
 match us,e,hr with
 | [u0],e,hr=>
  refine cN (v:=u0) ?_ (by simp only[Rel];exact hr.1) Z
  rw[execOp,hop]
  simp only[e,Sem.run_bind,ht u0 w]
  rfl
def Cx (P:Program) (t:TypeId):Prop:=∀(x1 x2 x3 p:Value) (i z:Int) (ad:Option Addr) (k c m:Nat),P.built t [(0,.agg #[x1,x2,x3]),(1,.int .i64 i),(2,.agg #[p]),(3,.slice ad k c),(4,.int .i64 z),(5,.map (some m))]=
 some #[x1,x2,x3,.int .i64 i,p,.slice ad k c,.int .i64 z,.map (some m)]
abbrev Qh (d:Db) (i:Int) (ss:List Stp) (ts:List (List BA)) (z:Int) (m:Nat):List CD:=bV d++[.lit (.int .i64 i),aY ss,cu ts,.lit (.int .i64 z),.lit (.map (some m))]
theorem HQ {x0 x1 x2 x3 x4 x5:Operand} {d:Db} {i z:Int} {ss:List Stp} {ts:List (List BA)} {m:Nat} (ht:Cx P t) (hop:o.op= .build t #[(0,x0),(1,x1),(2,x2),(3,x3),(4,x4),(5,x5)]) (h0:Rel S w (.agg (bV d)) (a.eval x0)) (h1:Rel S w (.int i) (a.eval x1)) (h2:Rel S w (.agg (be ss)) (a.eval x2))
 (h3:Rel S w (.rd (cu ts)) (a.eval x3)) (h4:Rel S w (.int z) (a.eval x4)) (h5:a.eval x5= .map (some m)) (Z:X w):Does n P o a w (bG S X (.agg (Qh d i ss ts z m)) w):=by
 simp only[Rel]at h0 h2 h3
 obtain⟨us,hv,hr⟩:=h0
 obtain⟨ps,hp,hq⟩:=h2
 obtain⟨ad,cap,e3,_,_⟩:=h3.form
 match us,hr,ps,hq with
 | [u1,u2,u3],hr,[p1],hq=>
  refine cN (v:=.agg (([u1,u2,u3]:List Value)++[Value.int .i64 i,p1,a.eval x3,.int .i64 z,.map (some m)]).toArray) ?_ (by simp only[Rel];exact⟨_,rfl,hr.append (ds:=[_,_,_,_,_]) ⟨.lit _ True.intro,hq.1,h3,.lit _ True.intro,.lit _ True.intro,trivial⟩⟩) Z
  have hrun:=run_build (P:=P) w t #[(0,a.eval x0),(1,a.eval x1),(2,a.eval x2),(3,a.eval x3),(4,a.eval x4),(5,a.eval x5)] #[u1,u2,u3,.int .i64 i,p1,a.eval x3,.int .i64 z,.map (some m)] (by rw[hv,hp,h1.lit,e3,h4.lit,h5];exact ht u1 u2 u3 p1 i z ad _ cap m)
  rw[execOp,hop]
  simp only[List.map_toArray,List.map_cons,List.map_nil,Sem.run_bind,hrun]
  rfl
end
end Go.Proofs.YtdfadihhfppjaaaGreatDoor
namespace Go.Proofs.YtdfadihhfppjaaaGreatDoor
open Go.Proofs.Tryz (prog)
open Go.RowKit
theorem jz:gm prog 28 [.sl []]:=⟨(.agg #[.slice none 0 0]),λw=>by kernel_rfl,λS w=>(show bE S w [.sl []] [.slice none 0 0]from⟨.nil _ _ aI,U⟩)⟩
theorem WT:gm prog 28 [.lit (.slice none 0 0)]:=⟨(.agg #[.slice none 0 0]),λw=>by kernel_rfl,λS w=>(show bE S w [.lit (.slice none 0 0)] [.slice none 0 0]from⟨.lit _ True.intro,U⟩)⟩
theorem yM:oy prog 88 [.string ⟨#[]⟩,.slice none 0 0]:=⟨λi=>(#[(0,1),(1,1)]:Array (Nat×Nat))[i]?,λj hj=>by rcases j with _ | _ | j<;>first | rfl | (simp at hj;omega) | simp at hj,λparts=>by kernel_rfl⟩
theorem px:kb prog 3:=⟨.int .i64 0,λw=>by kernel_rfl⟩
theorem pL:jA prog 29 3 1 8:=oF (.int .i64 0) yq yq Y dz (λw=>by kernel_rfl)
theorem qM:dV prog 29 1:=zO
theorem Cu:kb prog 88:=⟨.agg #[.string ⟨#[]⟩,.slice none 0 0],λw=>by kernel_rfl⟩
theorem oG:jA prog 26 88 2 40:=oF (.agg #[.string ⟨#[]⟩,.slice none 0 0]) yq yq Y dz (λw=>by kernel_rfl)
theorem BW:dV prog 26 1:=zO
theorem fI:dV prog 28 1:=zO
theorem vA:lN prog 28 1:=⟨#[.slice none 0 0],Y,λi=>(#[(0,1)]:Array (Nat×Nat))[i]?,λj hj=>by rcases j with _ | j<;>first | rfl | omega,λparts=>by kernel_rfl⟩
theorem NN:db prog 37 1 1:=fO
theorem NO:db prog 37 2 2:=fO
theorem zH:db prog 37 3 3:=fO
theorem rm:lN prog 88 2:=⟨#[.string ⟨#[]⟩,.slice none 0 0],Y,λi=>(#[(0,1),(1,1)]:Array (Nat×Nat))[i]?,λj hj=>by rcases j with _ | _ | j<;>first | rfl | omega,λparts=>by kernel_rfl⟩
section
variable {J:WP} (V:aR J)
include V
theorem Td (m:List Bool)  :Fn prog J 61 [.rd (mJ m)] (.int (gO m:Nat)):=by
 refine fE Tryz.func61 λS w0 hS hJ0=>?_
 clear hJ0
 refine ln 0 λ_=>?_
 refine qs tb V [0] [_] [_] ?_
 refine qs tb V [0,1000] [_] U2 ?_
 refine af (aJ tb V [1,1000,1001,1002] [_,.int (m.length:Nat),_] [1] U4 Y ⟨aC Cj,U⟩ ?_)
 refine ax (lp (ι:=Nat×Nat) (λ(k,n)=>(k<=m.length)/\(n=gO (m.take k))) (λ(k,n)=>[(8,.int (k:Nat)),(3,.int (n:Nat))]) (λ(k,_)=>m.length-k) [1,2,3,0] U2 (0,0) ⟨aI,Y⟩ ?_)
 rintro⟨k,n⟩ ⟨aQ,ah⟩
 refine qs tb V [0,1,2,3,1000] [_] U5 ?_
 refine cE 4 ?_ ?_<;>intro hb1<;>try simp at hb1
 ·have e1:n<=k:=by rw[ah];exact Nat.le_trans (DM _) (by rw[List.length_take];omega)
  refine ak (nx (af (ax (aJ tb V [0,1,2,3,1002] [.ptr [lB (G m k)],_,_] [0] U5 Y ⟨bq nN,U⟩ ?_))))
  refine qs tb V [0,1,2,3,1000] [_] U5 ?_
  refine cj 4 ?_ ?_<;>intro hb2<;>try simp at hb2
  ·refine dK tb V [0,1,2,1002] [_,.int (n+1:Nat),_] [1] U4 Y ⟨aM,U⟩ ?_
   refine nx (dK tb V [0,1,3,1001] [.int (k+1:Nat),_] [0] U4 Y ⟨aM,U⟩ ?_)
   exact dM (k+1,n+1) [0,1,3,2] ⟨oz,by rw[y5 oz,<-ah];simp[hb2]⟩
  ·refine ak (nx (dK tb V [0,1,3,1001] [.int (k+1:Nat),_] [0] U4 Y ⟨aM,U⟩ ?_))
   exact dM (k+1,n) [0,1,3,2] ⟨oz,by rw[y5 oz,<-ah];simp[hb2]⟩
 ·refine aW (nx (qs tb V [1001] U2 [_] ?_))
  exact aU 0 (hE:=eI (by rw[ah,LK oz]))
theorem Bu (ss:List Stp) (bw:ey ss):Fn prog J 51 [.agg (be ss)] (.agg (be (jt ss))):=by
 refine fE Tryz.func51 λS w0 hS hJ0=>?_
 refine tw cc ?_
 have jX:=bw.1
 have cr:=bw.2.1
 have rQ:=xg ss
 refine aL (sy (.ptr (be ss)) (λh=>fk Y (h.get 0 Y) (aK hS _ h.keep h.x _ aV) (jo V h.x)) ?_)
 refine cx jz V Y Y Y (lb Y) λb1=>aA [0,1] U2 Y (nx (aL (ao 2 tb Y (sy (.int (ss.length:Nat)) (λh=>kq eo Y (h.get 0 Y) h.x) ?_))))
 refine xY (f:=bT) (k:=ss.length) (0:Int) Gl Y V Y Y Y (lb Y) (λa w h=>⟨(h.get 0 Y),(h.get 0 Y)⟩) ay ay λv2=>ao 1 tb Y (aA [0,3,5,6] U4 Y (nx (ln 1 λcr=>?_)))
 refine aL (cx WT V Y Y Y (lb Y) λb3=>aA [0,1,3,4] U4 Y (nx (af (tw (iJ 88 2 V) (au tb V [0,1,2,3,1001,1002,1003] [_,.rd (mJ (fW ss)),.int ((fW ss).length:Nat),_] [1,2] U7 Y ⟨bJ hS V (Hk V ss (by exact bw)) (cO Tryz.func62),aC Cj,U⟩ ?_)))))
 refine ln 4 λ_=>?_
 refine ax (lpo (ι:=Nat×(List Stp)×Value×(List Int)×Value) (λ(k,out,_,to,_)=>(k<=ss.length)/\(et ss (fW ss) k=(to,out))) (λ(_,out,wt,to,wo)=>[OB.row wo 88 2 (out.map bx),OB.var b3 [.lit wo],OB.row wt 3 1 (to.map bT),OB.var b1 [aY ([]:List Stp)]]) (λ(k,_,wt,_,_)=>[(17,.int (k:Nat)),(3,.lit wt)]) (λ(k,_,_,_,_)=>(fW ss).length-k) [0,2,3,4,5,6,1] U5 (0,[],v2,List.replicate ss.length (0:Int),(.slice none 0 0)) ⟨aI,Y⟩ ?_)
 rintro⟨k,out,wt,to,wo⟩ ⟨aQ,ah⟩
 refine aj tb V (r7 [1000]) [_] U8 ?_
 refine cE 7 ?_ ?_<;>intro hb1<;>try simp at hb1
 ·have e2:to.length=ss.length/\out.length<=k:=by have h9:=xu ss (fW ss) k;rwa [ah]at h9
  refine ak (nx (af (ax (au tb V (r7 [1003,1004]) [_,.ptr [lB (G (fW ss) k)],_,_,_] [1] U9 Y ⟨bq nN,U⟩ ?_))))
  refine af (aj tb V (r8 [1001]) U2 U9 ?_)
  refine cj 8 ?_ ?_<;>intro hb2<;>try simp at hb2
  ·refine aW (nx (aT tb V (r5 [6,1001]) [.int (k+1:Nat),_] [0] U7 Y ⟨aM,U⟩ ?_))
   exact br (k+1,out,wt,to,wo) (r5 [6,5]) ⟨oz,by first | (rw[uy hb2];exact ah) | (rw[uz hb2,ah,bu,show q=(G ss k).args.length by omega,take_length])⟩
  ·refine ak (nx (aL (ao 2 tb Y (sy (.at b3 0) (λh=>cy ie Y (h.get 2 Y) h.x) ?_))))
   refine sy (.lit wo) (λh=>cg iD Y (aG h.x (mo 1 Y)) (h.get 0 Y) Y h.x) ?_
   refine sy (.int (out.length:Nat)) (λh=>pm (by rw[length_map]) eo Y (aG h.x (mo 0 Y)) (h.get 0 Y) h.x) ?_
   refine sy (.lit (cG wt (k*1))) (λh=>eZ (i:=(k:Int)) c8 Y (aG h.x (mo 2 Y)) (h.get 4 Y) (h.get 3 Y) bK (by rw[length_map];exact Int.ofNat_lt.2 ay) h.x) ?_
   refine kw du (qT (i:=k) V hJ0 qN Y Y Y (by rw[length_map];exact ay) (λa w h=>⟨(h.get 0 Y),(h.get 1 Y)⟩) ?_)
   rw[show(to.map bT).set k [lI (out.length:Int)]=(to.set k (out.length:Int)).map bT from map_set.symm]
   refine aA [6,7,8,9,10,11,12,13] U8 Y (nx (aL (ao 3 tb Y (sy (.ptr (bx (G ss k))) (λh=>cb (i:=(k:Int)) eq Y (h.get 1 Y) (h.get 0 Y) bK (cl (xs:=ss) (k:=k) ay) Y h.x) ?_))))
   refine ao 2 tb Y (sq (.agg [lS ((G ss k).ae),.lit (.slice none 0 0)]) Y Y (lb Y) (λa _ h=>gr (ps:=[(0,a.eval (.tmp 35))]) (us:=[a.eval (.tmp 35),.slice none 0 0]) yM Y yz (kB (lb Y) (Rel.mi (h.get 0 Y)) gn) Y (b6 (h.get 0 Y) (dT (.lit _ True.intro) cM)) h.x) (cx mw V Y Y Y (lb Y) λb4=>ce (b:=b4) (off:=0) (es:=U2) (news:=U2) V hJ0 mt Y Y Y (lb Y) Y (λa w h=>⟨(h.get 0 Y),(h.get 1 Y)⟩) (aA [0,8,9,10,11,12,13,14,15] U9 Y (nx (af (tw (iJ 3 1 V) (au tb V (r8 [1005,1006,1007]) (V3 [.ptr (bx (G ss k)),_,_,.int (((G ss k).args).length:Nat),_]) [3,6] lm Y ⟨bq eq,aC fb,U⟩ ?_)))))))
   refine ln 8 λ_=>?_
   refine ax (lpo (ι:=Nat×(List Int)×Value) (λ(q,nums,_)=>(q<=(G ss k).args.length)/\(nums=mj (to.set k (out.length:Int)) ((G ss k).args.take q))) (λ(_,nums,wa)=>[OB.row wa 3 1 (nums.map bT),OB.var b4 [lS ((G ss k).ae),.lit wa],OB.row wt 3 1 ((to.set k (out.length:Int)).map bT),OB.row wo 88 2 (out.map bx),OB.var b3 [.lit wo],OB.var b1 [aY ([]:List Stp)]]) (λ(q,_,_)=>[(44,.int (q:Nat))]) (λ(q,_,_)=>(G ss k).args.length-q) (pl []) fp (0,[],(.slice none 0 0)) ⟨aI,Y⟩ ?_)
   rintro⟨q,nums,wa⟩ ⟨fD,bu⟩
   refine aj tb V (pl [1000]) [_] nE ?_
   refine cE 11 ?_ ?_<;>intro aD<;>try simp at aD
   ·have e4:=um bw (k:=k) (j:=q) oz oz
    have e5:nums.length=q:=by rw[bu,mj,length_map,List.length_take];omega
    have e6:=xk bw (show k<ss.length by omega)
    refine ak (nx (af (ax (au tb V (pl [1002]) [.ptr [lI (G ((G ss k).args) q)],_,_] [0] nE Y ⟨bq c8,U⟩ ?_))))
    refine tw bO (tw bO (λa w h=>po [OB.var b4 [lS ((G ss k).ae),.lit wa],OB.row wt 3 1 ((to.set k (out.length:Int)).map bT),OB.row wo 88 2 (out.map bx),OB.var b3 [.lit wo],OB.var b1 [aY ([]:List Stp)]] (γ:=Value) (λix'=>([.at b4 1,.lit wa,.lit wt,.int (G ((G ss k).args) q),.lit (cG wt (((G ((G ss k).args) q).toNat)*1)),.int (G (to.set k (out.length:Int)) ((G ((G ss k).args) q).toNat)),.rd (bQ ([(G (to.set k (out.length:Int)) ((G ((G ss k).args) q).toNat))])),.any,.at b4 1,.any]:List AV).getD ix' .any) (λ_=>true) [(7,λ_=>.at b4 0),(4,λ_=>.at b3 0),(2,λ_=>.at b1 0),(1,λ_=>.ptr (be ss)),(15,λ_=>.rd (mJ (fW ss))),(16,λ_=>.int ((fW ss).length:Nat)),(17,λ_=>.int (k:Nat)),(3,λ_=>.lit wt),(42,λ_=>.rd (bQ ((G ss k).args))),(43,λ_=>.int (((G ss k).args).length:Nat)),(44,λ_=>.int (q:Nat))] (λj' g=>match j' with | 0=>[OB.row wa 3 1 (nums.map bT),OB.var b4 [lS ((G ss k).ae),.lit wa],OB.row wt 3 1 ((to.set k (out.length:Int)).map bT),OB.row wo 88 2 (out.map bx),OB.var b3 [.lit wo],OB.var b1 [aY ([]:List Stp)]] | 1=>[OB.row g 3 1 ((nums++([(G (to.set k (out.length:Int)) ((G ((G ss k).args) q).toNat))])).map bT),OB.var b4 [lS ((G ss k).ae),.lit wa],OB.row wt 3 1 ((to.set k (out.length:Int)).map bT),OB.row wo 88 2 (out.map bx),OB.var b3 [.lit wo],OB.var b1 [aY ([]:List Stp)]] | _=>[OB.row g 3 1 ((nums++([(G (to.set k (out.length:Int)) ((G ((G ss k).args) q).toNat))])).map bT),OB.var b4 [lS ((G ss k).ae),.lit g],OB.row wt 3 1 ((to.set k (out.length:Int)).map bT),OB.row wo 88 2 (out.map bx),OB.var b3 [.lit wo],OB.var b1 [aY ([]:List Stp)]]) (λk' g=>match k' with | 0=>g | _=>undef) [7,9] 1 (.slice none 0 0) (λ_=>Y) h V cU Y Y Y Y Y Y hsb ⟨oX Y λZ hl=>cy mQ Y (hl.env 0 7 _ Y Y) Z,λ_ O' cf=>⟨Y,λ_ _ _ Z hl _=>cg iV Y (aG Z (cf _ (mo 0 Y))) (hl.D 0 48 Y Y) Y Z⟩,oX Y λZ hl=>b9 Y (hl.env 7 3 _ Y Y) Z,oX Y λZ hl=>b9 Y (hl.env 11 9 _ Y Y) Z,?_,?_,oY Y λhk Z hl=>fz c8 px Y (hl.D 5 53 Y Y) (aK hS _ hk Z _ aV) (jo V Z),bC Y,oX Y λZ hl=>cy mQ Y (hl.env 0 7 _ Y Y) Z,bC Y,U⟩ ⟨?Md,?Me,U⟩ ⟨.old 0 7 _,.old 1 4 _,.old 2 2 _,.old 3 1 _,.old 4 15 _,.old 5 16 _,.old 6 17 _,.old 7 3 _,.old 8 42 _,.old 9 43 _,.old 10 44 _,U⟩ ?XZ))
    exact λ_ O' cf=>⟨Y,λ_ _ _ Z hl _=>eZ (i:=(G ((G ss k).args) q)) c8 Y (aG Z (cf _ (mo 1 Y))) (hl.D 2 50 Y Y) (hl.D 3 51 Y Y) ay (by rw[length_map];exact ay) Z⟩
    exact λ_ O' cf=>⟨Y,λ_ _ _ Z hl _=>nn (i:=(G ((G ss k).args) q).toNat) gd Y (aG Z (cf _ (mo 1 Y))) (hl.D 4 52 Y Y) (iG (xs:=to.set k (out.length:Int)) (k:=(G ((G ss k).args) q).toNat) ay) Z⟩
    case Md=>exact⟨_,Y,Y,Y,Y,λ_ _ w hk Z hl _=>bD (lw (f:=bT) nums ([(G (to.set k (out.length:Int)) ((G ((G ss k).args) q).toNat))]) (λ_=>rfl) pL V hJ0 Y hk Z (hl.D 1 49 Y Y).lit (hl.D 6 54 Y Y) (by simp;omega) (by simp;omega)) λv w' hp=>⟨v,Y,λk' hk'=>absurd hk' (Nat.not_lt_zero _),λ_=>rfl,hp⟩⟩
    case Me=>exact⟨_,Y,Y,Y,Y,λg _ w hk Z hl hs=>bD (D1 (off:=1) (cs:=[lS ((G ss k).ae),.lit wa]) (es:=[lS ((G ss k).ae),.lit g]) (c:=.lit g) V hJ0 qM Y hk Z (hl.D 8 56 Y Y) (by rw[(hs 0 7 _ 55 oz Y Y Y)];exact Rel.aH _ (nq (Z.2.1 _ (mo 0 Y)))) (lb Y) Y) λv w' hp=>⟨g,Y,λ_ _=>rfl,λe=>(by cases e),hp⟩⟩
    clear a w h
    intro v5
    dsimp only[List.map]
    refine nx (ln 8 λtR=>?_)
    refine aT tb V (ml [1001]) [.int (q+1:Nat),_] [0] lm Y ⟨aM,U⟩ ?_
    exact br (q+1,nums++([(G (to.set k (out.length:Int)) ((G ((G ss k).args) q).toNat))]),v5) (pl []) ⟨oz,by rw[bu];exact Ht oz⟩
   ·refine aW (nx (tw bO (tw bO (tw (λh=>mu (j:=1) (cs':=[lS ((G ss k).ae),bQ nums]) hS Y Y h) (cC (sq (.at b3 0) Y Y (lb Y) (λ_ _ h=>cy ie Y (h.get 1 Y) h.x) (sy (.lit wo) (λh=>cg iD Y (aG h.x (mo 3 Y)) (h.get 0 Y) Y h.x) ?_)))))))
    refine sy (.agg (bx (⟨(G ss k).ae,nums⟩:Stp))) (λh=>fA (ds:=[lS ((G ss k).ae),bQ nums]) oD Y (aG h.x (mo 0 Y)) (h.get 2 Y) Y Y h.x) ?_
    refine sy (.rd (aY ([(⟨(G ss k).ae,nums⟩:Stp)]))) (λh=>nl eq Cu dz Y Y (h.get 0 Y) (aK hS _ h.keep h.x _ aV) (jo V h.x)) ?_
    refine kw du (fN (f:=bx) (m:=2) (s:=59) out ([(⟨(G ss k).ae,nums⟩:Stp)]) (λ_=>Y) oG V hJ0 Y Y Y (lb Y) Y Y (λa w h=>(h.get 0 Y)) (by simp;omega) (by simp;omega) λv6=>?_)
    refine sy (.at b3 0) (λh=>cy ie Y (h.get 6 Y) h.x) ?_
    refine kw gF (gI (b:=b3) (off:=0) (es:=[_]) V hJ0 BW Y Y Y (lb Y) Y (λa w h=>⟨(h.get 0 Y),(h.get 1 Y)⟩) (aA [2,7,8,9,10,11,12,13] U8 Y (nx (ln 0 λFp=>?_))))
    refine aT tb V [1,2,3,4,5,7,1001] [.int (k+1:Nat),_] [0] U7 Y ⟨aM,U⟩ ?_
    refine kw du (kw cK (kw gF (kw gF (kw du (kw gF (br (k+1,out++([(⟨(G ss k).ae,nums⟩:Stp)]),wt,to.set k (out.length:Int),v6) (r5 [6,5]) ⟨oz,by first | (rw[uy hb2];exact ah) | (rw[uz hb2,ah,bu,show q=(G ss k).args.length by omega,take_length])⟩))))))
 ·have e1:out=jt ss:=by rw[jt,show ss.length=k by omega,ah]
  refine aW (nx (tw bO (tw bO (tw (λh=>mu (j:=0) (cs':=[aY out]) hS Y Y h) (aL (sy (.agg (be out)) (λh=>fA (ds:=[aY out]) ee Y (aG h.x (mo 0 Y)) (h.get 0 Y) Y Y h.x) ?_))))))
  refine kw du (ce (b:=b1) (off:=0) (es:=[_]) (news:=[_]) V hJ0 fI Y Y Y (lb Y) Y (λa w h=>⟨(h.get 2 Y),(h.get 0 Y)⟩) (aA [2] [_] Y (nx (aX (λa w h=>j0 (m:=0) Y ee h Y Y (show(_:List CD)=[aY (jt ss)]from by(rw[e1])<;>rfl))))))
theorem xq (l:List BA) (hl:l.length<=2000) (hs:∀ s∈l,s.size<=60):Fn prog J 64 [.rd (ai l)] (.str (cq l)):=by
 refine fE Tryz.func64 λS w0 hS hJ0=>?_
 clear hJ0
 refine ln 0 λ_=>?_
 refine qs tb V [0] [_] [_] ?_
 refine aJ tb V [1002] [_,.str (qr l (⟨#[10]⟩:BA)),_] [1] [_] Y ⟨dh hS V (ST V l (⟨#[10]⟩:BA) oz (by have h9:=Qm hs;omega)) (cO Tryz.func91),U⟩ ?_
 exact aU 0 (hE:=eS (Y))
theorem Bn (xs:List Int) (b:xs.length*8<=140737488351232):fc (ι:=Value) prog J 35 [] [.rd (bQ xs)] [] (λi'=>.lit (i')) (λi'=>[OB.row i' 3 1 (xs.map bT)]):=by
 refine ji Tryz.func35 λS w0 R hS hJ0 hH=>?_
 refine g5 (B:=So J S w0 8 (R) [(0,.rd (bQ xs))]) ?_ λa w h=>h
 refine ln 0 λ_=>?_
 refine aj tb V [0] [_] [_] ?_
 refine af (aL (ao 1 tb Y (uM (f:=bT) (xs:=xs) fb Y Y Y (lb Y) (λa w h=>(h.get 0 Y)) λg1 l5=>aA [0,2] U2 Y (nx (cj 0 (λhb1=>?_) λhb1=>?_)))))
 ·try simp at hb1
  refine aj tb V [1000] [_] [_] ?_
  refine tw (iJ 3 1 V) (tw (jr (congrArg (λz'=>OB.row (.slice none 0 0) 3 1 ((z').map bT)) (show([]:List Int)=xs from by first | exact(l5 (by assumption)).symm | simp))) ?_)
  exact aX (λa w h=>dx  (m:=0) (.slice none 0 0) Y h Y Y)
 ·try simp at hb1
  refine ak (nx (af (λa w h=>oh (id:=3) (t:=29) (e:=3) (size:=1) (bytes:=8) (i0:=0) (dj:=3) (d:=2) (ch:=[(2,(xs.map bT))]) (λix'=>([.any,.rd (bQ xs),.any,.any]:List AV).getD ix' .any) (λ_=>true) [] (xs.map bT) yz ?og V hJ0 h cU Y Y Y Y ⟨?_,?_,?_,?_,U⟩ trivial (λv2=>?pj))))
  case og=>
   refine Row.mk' pL ⟨_,Y,Y,Y,Y,Y⟩ ⟨?ox,U⟩ ⟨_,_,_,_,Y,Y,Y,Y,Y,Y,Y,Y,Y⟩ Y Y Y
   case ox=>exact⟨_,_,_,_,Y,Y,Y,Y,Y,Y,Y,Y,jm (f:=bT) (λ_=>rfl),(by have hm:maxLen=9223372036854775807:=Y;simp[upto];first | omega | (simp;omega)),(by have hm:maxLen=9223372036854775807:=Y;simp[upto];first | omega | (simp;omega)),λ_ _ _ _ _ hl=>(hl.D 1 6 Y Y)⟩
  exact λh=>bC Y h
  exact λ_ _=>⟨Y,λ_ _ _ Z hl _=>b9 Y (hl.env 1 0 _ Y Y) Z⟩
  exact λh=>bC Y h
  exact λh=>bC Y h
  clear a w h
  exact nx (aX (λa w h=>dx  (m:=0) v2 Y h Y Y))
theorem Su (xs:List Stp) (b:xs.length*40<=140737488351232):fc (ι:=Value) prog J 40 [] [.rd (aY xs)] [] (λi'=>.lit (i')) (λi'=>[OB.row i' 88 2 (xs.map bx)]):=by
 refine ji Tryz.func40 λS w0 R hS hJ0 hH=>?_
 refine g5 (B:=So J S w0 8 (R) [(0,.rd (aY xs))]) ?_ λa w h=>h
 refine ln 0 λ_=>?_
 refine aj tb V [0] [_] [_] ?_
 refine af (aL (ao 1 tb Y (uM (f:=bx) (xs:=xs) eo Y Y Y (lb Y) (λa w h=>(h.get 0 Y)) λg1 l5=>aA [0,2] U2 Y (nx (cj 0 (λhb1=>?_) λhb1=>?_)))))
 ·try simp at hb1
  refine aj tb V [1000] [_] [_] ?_
  refine tw (iJ 88 2 V) (tw (jr (congrArg (λz'=>OB.row (.slice none 0 0) 88 2 ((z').map bx)) (show([]:List Stp)=xs from by first | exact(l5 (by assumption)).symm | simp))) ?_)
  exact aX (λa w h=>dx  (m:=0) (.slice none 0 0) Y h Y Y)
 ·try simp at hb1
  refine ak (nx (af (λa w h=>oh (id:=3) (t:=26) (e:=88) (size:=2) (bytes:=40) (i0:=0) (dj:=3) (d:=2) (ch:=[(2,(xs.map bx))]) (λix'=>([.any,.rd (aY xs),.any,.any]:List AV).getD ix' .any) (λ_=>true) [] (xs.map bx) yz ?og V hJ0 h cU Y Y Y Y ⟨?_,?_,?_,?_,U⟩ trivial (λv2=>?pj))))
  case og=>
   refine Row.mk' oG ⟨_,Y,Y,Y,Y,Y⟩ ⟨?ox,U⟩ ⟨_,_,_,_,Y,Y,Y,Y,Y,Y,Y,Y,Y⟩ Y Y Y
   case ox=>exact⟨_,_,_,_,Y,Y,Y,Y,Y,Y,Y,Y,jm (f:=bx) (λ_=>rfl),(by have hm:maxLen=9223372036854775807:=Y;simp[upto];first | omega | (simp;omega)),(by have hm:maxLen=9223372036854775807:=Y;simp[upto];first | omega | (simp;omega)),λ_ _ _ _ _ hl=>(hl.D 1 6 Y Y)⟩
  exact λh=>bC Y h
  exact λ_ _=>⟨Y,λ_ _ _ Z hl _=>b9 Y (hl.env 1 0 _ Y Y) Z⟩
  exact λh=>bC Y h
  exact λh=>bC Y h
  clear a w h
  exact nx (aX (λa w h=>dx  (m:=0) v2 Y h Y Y))
theorem GZ (xs:List Int) (b:xs.length*8<=140737488351232):Fn prog J 35 [.rd (bQ xs)] (.rd (bQ xs)):=NZ (Bn V xs b)
theorem Hb (ss:List Stp) (c:bZ) (bw:ey ss) (gT:0<=c.step) (f8:c.step< (ss.length:Int)) (jW:∀ a∈c.args,0<=a/\a<c.step) (dl:c.args.length<=40) (hc1:c.dN=2∨1<=c.args.length):Fn prog J 34 [.agg (be ss),.agg (cm c)] (.agg (be (cw ss c))):=by
 refine fE Tryz.func34 λS w0 hS hJ0=>?_
 refine tw cc ?_
 have jX:=bw.1
 have cr:=bw.2.1
 refine aL (sy (.ptr (be ss)) (λh=>fk Y (h.get 0 Y) (aK hS _ h.keep h.x _ aV) (jo V h.x)) ?_)
 refine sy (.ptr (cm c)) (λh=>fk Y (h.get 2 Y) (aK hS _ h.keep h.x _ aV) (jo V h.x)) ?_
 refine cx jz V Y Y Y (lb Y) λb1=>aA [0,1,2] U3 Y (nx (aL (ao 2 tb Y (iI (O:=[]) (R:=[OB.var b1 [aY ([]:List Stp)]]) (Su V ss oz) (cO Tryz.func40) Y Y Y (lb Y) hS hJ0 b8 (λa w h=>(aq (h.get 0 Y) aN)) λz2=>sq (.agg [.lit z2]) Y Y (lb Y) (λa _ h=>gq (us:=[a.eval (.tmp 12)]) vA Y yz (b6 (h.get 0 Y) cM) Y h.x) (cx jz V Y Y Y (lb Y) λb3=>ce (b:=b3) (off:=0) (es:=[_]) (news:=[_]) V hJ0 fI Y Y Y (lb Y) Y (λa w h=>⟨(h.get 0 Y),(h.get 1 Y)⟩) (aA [0,3,5,6] U4 Y (nx (ln 1 λcr=>?_))))))))
 refine af (aj tb V [0,2,3,1002] U3 U4 ?_)
 refine cj 3 ?_ ?_<;>intro hb1<;>try simp at hb1
 ·have e9:cw ss c=jt (ss.set c.step.toNat ⟨c.ae,c.args⟩):=if_pos hb1
  refine af (tw bO (λa w h=>iF (γ:=Unit) (λix'=>([.at b3 0,.lit z2,.ptr [lI c.step,lS c.ae,bQ c.args,lI c.before,lI c.after],.int c.step,.ptr [lS c.ae,bQ c.args,lI c.before,lI c.after],.str c.ae,.ptr [bQ c.args,lI c.before,lI c.after],.rd (bQ c.args),.rd (bQ c.args),.agg (bx (⟨c.ae,c.args⟩:Stp)),.lit (cG z2 (c.step.toNat*2)),.any]:List AV).getD ix' .any) (λ_=>true) [(5,λ_=>.at b3 0),(4,λ_=>.at b1 0)] (λj' _=>match j' with | 0=>[OB.row z2 88 2 (ss.map bx),OB.var b3 [.lit z2],OB.var b1 [aY ([]:List Stp)]] | _=>[OB.row z2 88 2 ((ss.set c.step.toNat (⟨c.ae,c.args⟩:Stp)).map bx),OB.var b3 [.lit z2],OB.var b1 [aY ([]:List Stp)]]) (λ_ _=>undef) [11] 0 () (λ_=>Y) h V cU Y Y Y Y Y Y hsb ⟨oX Y λZ hl=>cy ie Y (hl.env 0 5 _ Y Y) Z,λ_ O' cf=>⟨Y,λ_ _ _ Z hl _=>cg iD Y (aG Z (cf _ (mo 1 Y))) (hl.D 0 17 Y Y) Y Z⟩,oX Y λZ hl=>cd NN Y (hl.env 2 3 _ Y Y) Z,oX Y λZ hl=>bU gd Y (hl.D 2 19 Y Y) Z,oX Y λZ hl=>cd NO Y (hl.env 2 3 _ Y Y) Z,oX Y λZ hl=>bU fh Y (hl.D 4 21 Y Y) Z,oX Y λZ hl=>cd zH Y (hl.env 2 3 _ Y Y) Z,oX Y λZ hl=>bU iV Y (hl.D 6 23 Y Y) Z,?_,?_,?_,bC Y,U⟩ ⟨?pZ,U⟩ ⟨.old 0 5 _,.old 1 4 _,U⟩ ?pj))
  exact oY Y λhk Z hl=>cV (GZ V c.args oz) (cO Tryz.func35) Y (aK hS _ hk Z) (Z.1) (aq (hl.D 7 24 Y Y) aN) (jo V Z)
  exact λ_ O' _=>⟨Y,λa _ _ Z hl _=>gq (us:=[a.eval (.tmp 22),a.eval (.tmp 25)]) rm Y yz (b6 (hl.D 5 22 Y Y) (b6 (hl.D 8 25 Y Y) cM)) Y Z⟩
  exact λ_ O' cf=>⟨Y,λ_ _ _ Z hl _=>eZ (i:=c.step) eq Y (aG Z (cf _ (mo 0 Y))) (hl.D 1 18 Y Y) (hl.D 3 20 Y Y) ay (by rw[length_map];exact ay) Z⟩
  case pZ=>exact⟨_,Y,Y,Y,Y,λg _ w hk Z hl _=>bD (DZ (f:=bx) (i:=c.step.toNat) (⟨c.ae,c.args⟩:Stp) V hJ0 mt Y hk Z (hl.D 10 27 Y Y) (hl.D 9 26 Y Y) ay Y) λv w' hp=>⟨g,Y,λ_ _=>rfl,λe=>(by cases e),hp⟩⟩
  clear a w h
  intro _
  dsimp only[List.map]
  refine nx (tw bO (tw bO (tw (λh=>mu (j:=0) (cs':=[aY (ss.set c.step.toNat (⟨c.ae,c.args⟩:Stp))]) hS Y Y h) (aL (sy (.agg (be (ss.set c.step.toNat (⟨c.ae,c.args⟩:Stp)))) (λh=>fA (ds:=[aY (ss.set c.step.toNat (⟨c.ae,c.args⟩:Stp))]) ee Y (aG h.x (mo 0 Y)) (h.get 0 Y) Y Y h.x) ?_)))))
  refine sy (.agg (be (jt (ss.set c.step.toNat (⟨c.ae,c.args⟩:Stp))))) (λh=>cV (Bu V (ss.set c.step.toNat (⟨c.ae,c.args⟩:Stp)) (by first | exact un bw (k:=c.step.toNat) (s:=⟨c.ae,c.args⟩) ⟨dl,λa ha=>by have:=jW a ha;omega⟩ | (rw[e1];exact n8) | (rw[e1];exact Bj n8 oz))) (cO Tryz.func51) Y (aK hS _ h.keep h.x) (h.x.1) (aq (h.get 0 Y) aN) (jo V h.x)) ?_
  refine kw bO (ce (b:=b1) (off:=0) (es:=[_]) (news:=[_]) V hJ0 fI Y Y Y (lb Y) Y (λa w h=>⟨(h.get 3 Y),(h.get 0 Y)⟩) (aA [3] [_] Y (nx (aX (λa w h=>j0 (m:=0) Y ee h Y Y (show(_:List CD)=[aY (cw ss c)]from by(first | (rw[e9];done) | rw[e9,<-e1])<;>rfl))))))
 ·have h1:1<=c.args.length:=by rcases hc1 with h | h;exact absurd h hb1;exact h
  have hg:0<=G c.args 0/\G c.args 0<c.step:=jW _ (aE oz)
  have n8:=GN bw hg.1 hg.2
  refine ak (nx (af (l8 tb V [0,1,2,1001,1002,1003] [.at b3 0,.lit z2,.int (ss.length:Nat),_] [0,1,2] U6 Y ⟨λ_ _ _ Z hl _=>cy ie Y (hl.env 0 5 _ Y Y) Z,λ_ _ _ Z hl _=>cg iD Y (uu Z (mo 0 Y)) (hl.D 0 30 Y Y) Y Z,λ_ _ _ Z hl _=>kq eo Y (kI hS Z (mo 1 Y) (hl.D 1 31 Y Y)) Z,U⟩ ?_)))
  refine ax (lpo (ι:=Nat×(List Stp)) (λ(k,out)=>(k<=ss.length)/\(out=jn (jM c) ss k)) (λ(_,out)=>[OB.var b3 [.lit z2],OB.row z2 88 2 (out.map bx),OB.var b1 [aY ([]:List Stp)]]) (λ(k,_)=>[(33,.int (k:Nat))]) (λ(k,_)=>ss.length-k) (r6 []) U5 (0,ss) ⟨aI,xe.symm⟩ ?_)
  rintro⟨k,out⟩ ⟨aQ,ah⟩
  refine aj tb V (r6 [1000]) [_] U7 ?_
  refine cE 6 ?_ ?_<;>intro hb2<;>try simp at hb2
  ·have e5:out.length=ss.length:=by rw[ah,qv]
   have e6:=xk bw (show k<ss.length by omega)
   refine ak (nx (af (ax (af (cC (ao 1 tb Y (sy (.lit (cG z2 (k*2))) (λh=>eZ (i:=(k:Int)) eq Y (aG h.x (mo 1 Y)) (h.get 4 Y) (h.get 6 Y) bK (by rw[length_map];exact Int.ofNat_lt.2 ay) h.x) ?_)))))))
   refine sy (.agg (bx (G out k))) (λh=>pn (i:=k) oD Y (aG h.x (mo 1 Y)) (h.get 0 Y) (iG (xs:=out) (k:=k) ay) Y h.x) ?_
   refine cx mw V Y Y Y (lb Y) λb4=>ao 1 tb Y (ce (b:=b4) (off:=0) (es:=U2) (news:=U2) V hJ0 mt Y Y Y (lb Y) Y (λa w h=>⟨(h.get 1 Y),(h.get 2 Y)⟩) (kw (λh=>fB hS h (m:=1) (s:=7) Y) (aA [0,1,5,6,7,8,9,10] U8 Y (kw (sa 0 Y (show(.ptr (bx (G out k)):AV)= .ptr (bx (G ss k))from by rw[ah,rZ oz])) (nx (af (λa w h=>iF (γ:=Value) (λix'=>([.at b3 0,.lit z2,.int (k:Nat),.ptr [bQ ((G ss k).args)],.rd (bQ ((G ss k).args)),.any,.lit (cG z2 (k*2)),.lit (cG z2 (k*2+1)),.any]:List AV).getD ix' .any) (λ_=>true) [(7,λ_=>.ptr (bx (G ss k))),(6,λ_=>.int (k:Nat)),(5,λ_=>.at b3 0),(4,λ_=>.at b1 0),(3,λ_=>.ptr (cm c)),(31,λ_=>.lit z2),(32,λ_=>.int (ss.length:Nat)),(33,λ_=>.int (k:Nat))] (λj' g=>match j' with | 0=>[OB.var b3 [.lit z2],OB.row z2 88 2 (out.map bx),OB.var b1 [aY ([]:List Stp)]] | 1=>[OB.row g 3 1 (((G ss k).args).map bT),OB.var b3 [.lit z2],OB.row z2 88 2 (out.map bx),OB.var b1 [aY ([]:List Stp)]] | _=>[OB.row g 3 1 (((G ss k).args).map bT),OB.var b3 [.lit z2],OB.row z2 88 2 ((out.map bx).set k ((bx (G out k)).set 1 (.lit g))),OB.var b1 [aY ([]:List Stp)]]) (λk' g=>match k' with | 0=>g | _=>undef) [5,8] 1 (.slice none 0 0) (λ_=>Y) h V cU Y Y Y Y Y Y hsb ⟨oX Y λZ hl=>cy ie Y (hl.env 2 5 _ Y Y) Z,λ_ O' cf=>⟨Y,λ_ _ _ Z hl _=>cg iD Y (aG Z (cf _ (mo 0 Y))) (hl.D 0 38 Y Y) Y Z⟩,oX Y λZ hl=>b9 Y (hl.env 1 6 _ Y Y) Z,oX Y λZ hl=>cd mQ Y (hl.env 0 7 _ Y Y) Z,oX Y λZ hl=>bU iV Y (hl.D 3 41 Y Y) Z,bC Y,?_,?_,bC Y,U⟩ ⟨?zo,?MR,U⟩ ⟨.old 0 7 _,.old 1 6 _,.old 2 5 _,.old 3 4 _,.old 4 3 _,.old 5 31 _,.old 6 32 _,.old 7 33 _,U⟩ ?Rq)))))))
   exact λ_ O' cf=>⟨Y,λ_ _ _ Z hl _=>eZ (i:=(k:Int)) eq Y (aG Z (cf _ (mo 1 Y))) (hl.D 1 39 Y Y) (hl.D 2 40 Y Y) bK (by rw[length_map];exact Int.ofNat_lt.2 ay) Z⟩
   exact λ_ O' cf=>⟨Y,λ_ _ _ Z hl _=>xz mQ Y (aG Z (cf _ (mo 1 Y))) (by rw[length_map];exact Nat.lt_of_le_of_lt (Nat.zero_le k) ay) (hl.D 6 44 Y Y) Z⟩
   case zo=>exact⟨_,Y,Y,Y,Y,λ_ _ w hk Z hl _=>bD (pV (O:=[]) (R:=[OB.var b3 [.lit z2],OB.row z2 88 2 (out.map bx),OB.var b1 [aY ([]:List Stp)]]) (Bn V ((G ss k).args) oz) (cO Tryz.func35) Y hS hJ0 b8 hk Z (aq (hl.D 4 42 Y Y) aN)) λv w' ⟨i,hp,hv⟩=>⟨i,Y,λk' hk'=>absurd hk' (Nat.not_lt_zero _),λ_=>hv.lit,hp⟩⟩
   case MR=>exact⟨_,Y,Y,Y,Y,λg _ w hk Z hl hs=>bD (DY (i:=k) (j:=1) (c:=.lit g) V hJ0 qM Y hk (fR (eM (A:=[OB.row g 3 1 (((G ss k).args).map bT),OB.var b3 [.lit z2]])) Z) (hl.D 7 45 Y Y) (by rw[(hs 0 5 _ 43 oz Y Y Y)];exact Rel.aH _ (nq (Z.2.1 _ (mo 0 Y)))) (iG (xs:=out) (k:=k) ay) (lb Y)) λv w' hp=>⟨g,Y,λ_ _=>rfl,λe=>(by cases e),kM (eM (A:=[OB.row g 3 1 (((G ss k).args).map bT),OB.var b3 [.lit z2]])).symm (eM (A:=[OB.row g 3 1 (((G ss k).args).map bT),OB.var b3 [.lit z2]])).symm hp⟩⟩
   clear a w h
   intro z5
   dsimp only[List.map]
   refine nx (au tb V [1,2,3,4,5,6,7,1001,1002,1003] [_,_,.int (((G ss k).args).length:Nat),_] [2] fp Y ⟨aC fb,U⟩ ?_)
   refine ln 7 λ_=>?_
   refine ax (lpo (ι:=Nat×(List Int)) (λ(q,nums)=>(q<=(G ss k).args.length)/\(nums=jn (mr c) (G ss k).args q)) (λ(_,nums)=>[OB.row z5 3 1 (nums.map bT),OB.var b3 [.lit z2],OB.row z2 88 2 ((out.map bx).set k ((bx (G out k)).set 1 (.lit z5))),OB.var b1 [aY ([]:List Stp)]]) (λ(q,_)=>[(49,.int (q:Nat))]) (λ(q,_)=>(G ss k).args.length-q) (ml []) U9 (0,((G ss k).args)) ⟨aI,xe.symm⟩ ?_)
   rintro⟨q,nums⟩ ⟨fD,bu⟩
   refine aj tb V (ml [1000]) [_] lm ?_
   refine cE 10 ?_ ?_<;>intro aD<;>try simp at aD
   ·have e7:nums.length=(G ss k).args.length:=by rw[bu,qv]
    refine ak (nx (af (ax (au tb V (ml [1003,1004]) [_,.ptr [lI (G ((G ss k).args) q)],_,_,_] [1] nE Y ⟨bq c8,U⟩ ?_))))
    refine aj tb V (pl [1003]) U4 nE ?_
    refine cj 11 ?_ ?_<;>intro bd<;>try simp at bd
    ·refine λa w h=>iF (γ:=Unit) (λix'=>([.at b3 0,.lit z2,.int (k:Nat),.lit (cG z2 (k*2)),.lit (cG z2 (k*2+1)),.lit z5,.int (q:Nat),.ptr [bQ c.args,lI c.before,lI c.after],.rd (bQ c.args),.ptr [lI (G c.args 0)],.int (G c.args 0),.lit (cG z5 (q*1)),.any]:List AV).getD ix' .any) (λ_=>true) [(6,λ_=>.int (k:Nat)),(5,λ_=>.at b3 0),(4,λ_=>.at b1 0),(3,λ_=>.ptr (cm c)),(31,λ_=>.lit z2),(32,λ_=>.int (ss.length:Nat)),(33,λ_=>.int (k:Nat)),(47,λ_=>.rd (bQ ((G ss k).args))),(48,λ_=>.int (((G ss k).args).length:Nat)),(49,λ_=>.int (q:Nat))] (λj' _=>match j' with | 0=>[OB.row z5 3 1 (nums.map bT),OB.var b3 [.lit z2],OB.row z2 88 2 ((out.map bx).set k ((bx (G out k)).set 1 (.lit z5))),OB.var b1 [aY ([]:List Stp)]] | _=>[OB.row z5 3 1 ((nums.set q (G c.args 0)).map bT),OB.var b3 [.lit z2],OB.row z2 88 2 ((out.map bx).set k ((bx (G out k)).set 1 (.lit z5))),OB.var b1 [aY ([]:List Stp)]]) (λ_ _=>undef) [12] 0 () (λ_=>Y) h V cU Y Y Y Y Y Y hsb ⟨oX Y λZ hl=>cy ie Y (hl.env 1 5 _ Y Y) Z,λ_ O' cf=>⟨Y,λ_ _ _ Z hl _=>cg iD Y (aG Z (cf _ (mo 1 Y))) (hl.D 0 58 Y Y) Y Z⟩,oX Y λZ hl=>b9 Y (hl.env 0 6 _ Y Y) Z,?_,?_,?_,oX Y λZ hl=>b9 Y (hl.env 10 8 _ Y Y) Z,oX Y λZ hl=>cd zH Y (hl.env 3 3 _ Y Y) Z,oX Y λZ hl=>bU iV Y (hl.D 7 65 Y Y) Z,?_,oX Y λZ hl=>bU gd Y (hl.D 9 67 Y Y) Z,?_,bC Y,U⟩ ⟨?Mg,U⟩ ⟨.old 0 6 _,.old 1 5 _,.old 2 4 _,.old 3 3 _,.old 4 31 _,.old 5 32 _,.old 6 33 _,.old 7 47 _,.old 8 48 _,.old 9 49 _,U⟩ ?X1
     exact λ_ O' cf=>⟨Y,λ_ _ _ Z hl _=>eZ (i:=(k:Int)) eq Y (aG Z (cf _ (mo 2 Y))) (hl.D 1 59 Y Y) (hl.D 2 60 Y Y) bK (by rw[length_set,length_map];exact Int.ofNat_lt.2 ay) Z⟩
     exact λ_ O' cf=>⟨Y,λ_ _ _ Z hl _=>xz mQ Y (aG Z (cf _ (mo 2 Y))) (by rw[length_set,length_map];exact Nat.lt_of_le_of_lt (Nat.zero_le k) ay) (hl.D 3 61 Y Y) Z⟩
     exact λ_ O' cf=>⟨Y,λ_ _ _ Z hl _=>H5 (i:=k) (j:=1) iV Y (aG Z (cf _ (mo 2 Y))) (hl.D 4 62 Y Y) (Iu (xs:=out) (k:=k) ay) Y Z⟩
     exact oX Y λZ hl=>cb (i:=((0:Nat):Int)) c8 Y (hl.D 8 66 Y Y) (Rel.aH (.int .i64 0)) bK (cl (xs:=c.args) (k:=0) ay) Y Z
     exact λ_ O' cf=>⟨Y,λ_ _ _ Z hl _=>eZ (i:=(q:Int)) c8 Y (aG Z (cf _ (mo 0 Y))) (hl.D 5 63 Y Y) (hl.D 6 64 Y Y) bK (by rw[length_map];exact Int.ofNat_lt.2 ay) Z⟩
     case Mg=>exact⟨_,Y,Y,Y,Y,λg _ w hk Z hl _=>bD (LZ (f:=bT) (i:=q) (G c.args 0) Y V hJ0 qN Y hk Z (hl.D 11 69 Y Y) (hl.D 10 68 Y Y) ay) λv w' hp=>⟨g,Y,λ_ _=>rfl,λe=>(by cases e),hp⟩⟩
     clear a w h
     intro _
     dsimp only[List.map]
     refine nx (aT tb V (r9 [1001]) [.int (q+1:Nat),_] [0] fp Y ⟨aM,U⟩ ?_)
     exact br (q+1,nums.set q (G c.args 0)) (ml []) ⟨oz,by first | (rw[bu,<-qw (f:=mr c) oz];simp[mr,bd];done) | (rw[bu];exact xd oz (if_neg bd))⟩
    ·refine ak (nx (aT tb V (r9 [1001]) [.int (q+1:Nat),_] [0] fp Y ⟨aM,U⟩ ?_))
     exact br (q+1,nums) (ml []) ⟨oz,by first | (rw[bu,<-qw (f:=mr c) oz];simp[mr,bd];done) | (rw[bu];exact xd oz (if_neg bd))⟩
   ·refine aW (nx (tw du (tw bO (tw (λh=>VP (rows':=(out.set k (⟨(G out k).ae,nums⟩:Stp)).map bx) (i:=k) (j:=1) hS (Iu (xs:=out) (k:=k) ay) Y (by rw[map_set,List.set_set];rfl) h) (aT tb V [1,2,3,4,5,1001] [.int (k+1:Nat),_] [0] U6 Y ⟨aM,U⟩ ?_)))))
    refine kw du (kw bO (kw du (br (k+1,out.set k (⟨(G out k).ae,nums⟩:Stp)) (r6 []) ⟨oz,by rw[ah,rZ oz,bu,xc (l:=(G ss k).args) (q:=q) oz,IF,qw oz]⟩)))
  ·have e1:out=ss.map (jM c):=by rw[ah,xc (l:=ss) (q:=k) oz]
   have e5:out.length=ss.length:=by rw[e1,length_map]
   refine aW (nx (af (l8 tb V [0,1,2,1006] [_,_,.at b3 0,.lit z2,.int (out.length:Nat),.int ((out.length:Int)-(1:Int)),_] [2,3,4,5] U4 Y ⟨λ_ _ _ Z hl _=>cy ie Y (hl.env 0 5 _ Y Y) Z,λ_ _ _ Z hl _=>cg iD Y (uu Z (mo 0 Y)) (hl.D 2 74 Y Y) Y Z,λ_ _ _ Z hl _=>kq eo Y (kI hS Z (mo 1 Y) (hl.D 3 75 Y Y)) Z,md,U⟩ ?_)))
   refine cj 3 ?_ ?_<;>intro bW<;>try simp at bW
   ·have e9:cw ss c=jt ((ss.map (jM c)).take (G c.args 0+1).toNat):=by rw[cw,if_neg hb1,if_pos oz]
    refine tw bO (tw (λh=>List.map_take▸B6 (m:=((G c.args 0)+(1:Int)).toNat) (by rw[length_map];exact ay) h) ?_)
    refine tw bO (λa w h=>iF (γ:=Unit) (λix'=>([.at b3 0,.lit z2,.ptr [bQ c.args,lI c.before,lI c.after],.rd (bQ c.args),.ptr [lI (G c.args 0)],.int (G c.args 0),.int ((G c.args 0)+(1:Int)),.lit (dB z2 (((G c.args 0)+(1:Int)).toNat)),.at b3 0,.any]:List AV).getD ix' .any) (λ_=>true) [(5,λ_=>.at b3 0),(4,λ_=>.at b1 0)] (λj' _=>match j' with | 0=>[OB.var b3 [.lit z2],OB.row (dB z2 (((G c.args 0)+(1:Int)).toNat)) 88 2 ((out.take (((G c.args 0)+(1:Int)).toNat)).map bx),OB.var b1 [aY ([]:List Stp)]] | _=>[OB.var b3 [.lit (dB z2 (((G c.args 0)+(1:Int)).toNat))],OB.row (dB z2 (((G c.args 0)+(1:Int)).toNat)) 88 2 ((out.take (((G c.args 0)+(1:Int)).toNat)).map bx),OB.var b1 [aY ([]:List Stp)]]) (λ_ _=>undef) [9] 0 () (λ_=>Y) h V cU Y Y Y Y Y Y hsb ⟨oX Y λZ hl=>cy ie Y (hl.env 0 5 _ Y Y) Z,λ_ O' cf=>⟨Y,λ_ _ _ Z hl _=>cg iD Y (aG Z (cf _ (mo 0 Y))) (hl.D 0 79 Y Y) Y Z⟩,oX Y λZ hl=>cd zH Y (hl.env 2 3 _ Y Y) Z,oX Y λZ hl=>bU iV Y (hl.D 2 81 Y Y) Z,?_,oX Y λZ hl=>bU gd Y (hl.D 4 83 Y Y) Z,?_,?_,oX Y λZ hl=>cy ie Y (hl.env 0 5 _ Y Y) Z,bC Y,U⟩ ⟨?Ml,U⟩ ⟨.old 0 5 _,.old 1 4 _,U⟩ ?X4)
    exact oX Y λZ hl=>cb (i:=((0:Nat):Int)) c8 Y (hl.D 3 82 Y Y) (Rel.aH (.int .i64 0)) bK (cl (xs:=c.args) (k:=0) ay) Y Z
    exact oX Y λZ hl=>qE (i:=(G c.args 0)) (j:=(1:Int)) Y (hl.D 5 84 Y Y) (Rel.aH (.int .i64 1)) ay ay Z
    exact λ_ O' cf=>⟨Y,λ_ _ _ Z hl _=>qG (m:=((G c.args 0)+(1:Int)).toNat) eq Y (aG Z (cf _ (mo 1 Y))) (by first | rfl | (rw[length_map];exact ay)) (hl.D 1 80 Y Y) (UH ay (hl.D 6 85 Y Y)) Z⟩
    case Ml=>exact⟨_,Y,Y,Y,Y,λg _ w hk Z hl _=>bD (vU (off:=0) (es:=[_]) (c:=.lit (dB z2 (((G c.args 0)+(1:Int)).toNat))) V hJ0 BW Y hk Z (hl.D 8 87 Y Y) (hl.D 7 86 Y Y) (lb Y) Y) λv w' hp=>⟨g,Y,λ_ _=>rfl,λe=>(by cases e),hp⟩⟩
    clear a w h
    intro _
    dsimp only[List.map]
    refine nx (tw bO (tw (λh=>mu (j:=0) (cs':=[aY (out.take (((G c.args 0)+(1:Int)).toNat))]) hS Y Y h) (aL (sy (.agg (be (out.take (((G c.args 0)+(1:Int)).toNat)))) (λh=>fA (ds:=[aY (out.take (((G c.args 0)+(1:Int)).toNat))]) ee Y (aG h.x (mo 0 Y)) (h.get 0 Y) Y Y h.x) ?_))))
    refine sy (.agg (be (jt (out.take (((G c.args 0)+(1:Int)).toNat))))) (λh=>cV (Bu V (out.take (((G c.args 0)+(1:Int)).toNat)) (by first | exact un bw (k:=c.step.toNat) (s:=⟨c.ae,c.args⟩) ⟨dl,λa ha=>by have:=jW a ha;omega⟩ | (rw[e1];exact n8) | (rw[e1];exact Bj n8 oz))) (cO Tryz.func51) Y (aK hS _ h.keep h.x) (h.x.1) (aq (h.get 0 Y) aN) (jo V h.x)) ?_
    refine kw bO (ce (b:=b1) (off:=0) (es:=[_]) (news:=[_]) V hJ0 fI Y Y Y (lb Y) Y (λa w h=>⟨(h.get 3 Y),(h.get 0 Y)⟩) (aA [3] [_] Y (nx (aX (λa w h=>j0 (m:=0) Y ee h Y Y (show(_:List CD)=[aY (cw ss c)]from by(first | (rw[e9];done) | rw[e9,<-e1])<;>rfl))))))
   ·have e9:cw ss c=jt (ss.map (jM c)):=by rw[cw,if_neg hb1,if_neg oz]
    refine ak (nx (tw bO (tw (λh=>mu (j:=0) (cs':=[aY out]) hS Y Y h) (aL (sy (.agg (be out)) (λh=>fA (ds:=[aY out]) ee Y (aG h.x (mo 0 Y)) (h.get 0 Y) Y Y h.x) ?_)))))
    refine sy (.agg (be (jt out))) (λh=>cV (Bu V out (by first | exact un bw (k:=c.step.toNat) (s:=⟨c.ae,c.args⟩) ⟨dl,λa ha=>by have:=jW a ha;omega⟩ | (rw[e1];exact n8) | (rw[e1];exact Bj n8 oz))) (cO Tryz.func51) Y (aK hS _ h.keep h.x) (h.x.1) (aq (h.get 0 Y) aN) (jo V h.x)) ?_
    refine kw bO (ce (b:=b1) (off:=0) (es:=[_]) (news:=[_]) V hJ0 fI Y Y Y (lb Y) Y (λa w h=>⟨(h.get 3 Y),(h.get 0 Y)⟩) (aA [3] [_] Y (nx (aX (λa w h=>j0 (m:=0) Y ee h Y Y (show(_:List CD)=[aY (cw ss c)]from by(first | (rw[e9];done) | rw[e9,<-e1])<;>rfl))))))
end
end Go.Proofs.YtdfadihhfppjaaaGreatDoor
namespace Go.Proofs.YtdfadihhfppjaaaGreatDoor
open Go.RowKit
def bvs:Nat->List (List Bool)
 | 0=>[[]]
 | n+1=>(bvs n).flatMap λl=>[l++[false],l++[true]]
theorem yP (D:Nat->Bool):∀ n,(List.range n).map D∈bvs n
 | 0=>by simp[bvs]
 | n+1=>by
  rw[bvs,List.mem_flatMap]
  refine⟨_,yP D n,?_⟩
  rw[List.range_succ,List.map_append,List.map_singleton]
  cases D n<;>simp
def vO (l:List Oper) (ch:List Nat) (k:Nat):List (List Bool):=
 (bvs ch.length).filter λb=>!b.getD k false&& (ch.zipIdx.all λp=>ch.zipIdx.all λq=>!under l l.length p.1 q.1|| ((p.2 !=k||b.getD q.2 false)&& (!b.getD p.2 false||b.getD q.2 false)))
def u4 (P:List Bool->Prop):List (List Bool)->Prop
 | []=>True
 | b::bs=>P b/\u4 P bs
theorem yG {P:List Bool->Prop} {b:List Bool}:∀ {bs:List (List Bool)},u4 P bs->b∈bs->P b
 | _::_,⟨h,hr⟩,hm=>by
  rcases mem_cons.1 hm with rfl | hm
  ·exact h
  ·exact yG hr hm
theorem rH (D:Nat->Bool) (n j:Nat):((List.range n).map D).getD j false=(decide (j<n)&&D j):=by
 rw[List.getD_eq_getElem?_getD]
 by_cases h:j<n
 ·simp[h]
 ·simp[h]
theorem Ip {S:Nat->Prop} {O O':List OB} {w:World} {am:List AV} {vs:List Value} (hp:O.Perm O') (h:bi (SO S O) w am vs):bi (SO S O') w am vs:=bi.move (Keeps.refl All w) (λ_ _ hs=>⟨trivial,hs.perm hp⟩) h
section
variable {n:Rn} {P:Program} {l:List Oper} {J:WP} {S:Nat->Prop} {w0:World} {env:List (Nat×AV)} {am:Nat->AV} {conds:Nat->Bool} {γ:Type} {F:List Bool->γ->List OB} {sv:Nat->γ->Value} {ch:List Nat}
def yv (n:Rn) (P:Program) (J:WP) (S:Nat->Prop) (w0:World) (env:List (Nat×AV)) (l:List Oper) (am:Nat->AV) (conds:Nat->Bool) (F:List Bool->γ->List OB) (sv:Nat->γ->Value) (ch:List Nat) (k i:Nat):Prop:=
 CB n P J S w0 env l am conds (λD g=>F ((List.range ch.length).map D) g) (λk' g=>if k'<ch.length then sv k' g else undef) ch k i
theorem eE {k i:Nat} {o:Oper} (cs:List (List Bool)) (iP:vO l ch k=cs) (qj:ch[k]?=some i) (ho:l[i]?=some o) (hg:o.guard=none) (hc:conds i=true)
 (core:u4 (λb=>∀ g a w,Keeps All w0 w->XO J S w0.heap.size (F b g) w->Look (SO S (F b g)) w env l am conds i a->(∀(k' i':Nat) (o':Oper) (d:Nat),b.getD k' false=true->ch[k']?=some i'->l[i']?=some o'->o'.dst=some d->a.eval (.tmp d)=sv k' g)->
  Does n P o a w λv w'=>∃ g',(∀ k',b.getD k' false=true->sv k' g'=sv k' g)/\(o.dst.isSome=true->v=sv k g')/\Rel (SO S (F (b.set k true) g')) w' (am i) v/\dc J S w0 (F b g) w (F (b.set k true) g') w') cs):
 yv n P J S w0 env l am conds F sv ch k i:=by
 refine⟨o,ho,hg,hc,λD g a w hD hpre dl hk Z hl hs=>?_⟩
 have k6:k<ch.length:=(List.getElem?_eq_some_iff.1 qj).1
 have tQ:ch[k]=i:=(List.getElem?_eq_some_iff.1 qj).2
 have kl:(List.range ch.length).map D∈cs:=by
  rw[<-iP,vO,List.mem_filter]
  refine⟨yP D _,?_⟩
  simp only[rH,Bool.and_eq_true,all_eq_true]
  refine⟨by simp[hD],λp hp q hq=>?_⟩
  obtain⟨tV,hp2⟩:=mem_zipIdx' hp
  obtain⟨hq1,hq2⟩:=mem_zipIdx' hq
  by_cases hu:under l l.length p.1 q.1=true
  ·have e1:ch[p.2]?=some p.1:=by rw[List.getElem?_eq_getElem tV,hp2]
   have e2:ch[q.2]?=some q.1:=by rw[List.getElem?_eq_getElem hq1,hq2]
   rw[hu]
   simp only[Bool.not_true,Bool.false_or,Bool.and_eq_true,Bool.or_eq_true,bne_iff_ne,ne_eq,hq1,decide_true,Bool.true_and,tV]
   refine⟨?_,?_⟩
   ·by_cases e:p.2=k
    ·right
     rw[e,qj]at e1
     cases e1
     exact hpre q.2 q.1 e2 hu
    ·exact .inl e
   ·cases hd:D p.2 with
    | false=>exact .inl rfl
    | true=>exact .inr (dl p.2 q.2 p.1 q.1 e1 e2 hd hu)
  ·simp[hu]
 have hset:(List.range ch.length).map (gH D k)=((List.range ch.length).map D).set k true:=by
  apply ext_getElem?
  intro j
  rw[List.getElem?_set]
  by_cases hj:j<ch.length
  ·by_cases e:k=j
   ·subst e;simp[hj,gH]
   ·simp[hj,e,gH,Ne.symm (show k≠j from e)]
  ·by_cases e:k=j
   ·omega
   ·simp[hj,e]
 have:=yG core kl g a w hk Z hl λk' i' o' d hb h1 h2 h3=>by
  rw[rH]at hb
  simp only[Bool.and_eq_true,decide_eq_true_eq]at hb
  have:=hs k' i' o' d hb.2 h1 h2 h3
  have e:(if k'<ch.length then sv k' g else undef)=sv k' g:=if_pos hb.1
  rw[<-e];exact this
 refine bD this λv w' ⟨g',e1,e2,e3,e4⟩=>⟨g',λk' hk'=>?_,λh=>by
  have e:(if k<ch.length then sv k g' else undef)=sv k g':=if_pos k6
  show v=if k<ch.length then sv k g' else undef
  rw[e];exact e2 h,?_,?_⟩
 ·by_cases hlt:k'<ch.length
  ·show(if k'<ch.length then sv k' g' else undef)=if k'<ch.length then sv k' g else undef
   rw[if_pos hlt,if_pos hlt]
   exact e1 k' (by rw[rH];simp[hlt,hk'])
  ·show(if k'<ch.length then sv k' g' else undef)=if k'<ch.length then sv k' g else undef
   rw[if_neg hlt,if_neg hlt]
 ·show Rel (SO S (F ((List.range ch.length).map (gH D k)) g')) w' (am i) v
  rw[hset];exact e3
 ·show dc J S w0 (F ((List.range ch.length).map D) g) w (F ((List.range ch.length).map (gH D k)) g') w'
  rw[hset];exact e4
theorem UD {Yn:Prop} {N:Nat} {Q:Exit->Act->WP} {O:List OB} {a:Act} {w:World} (law:CM n P l Q a w Yn) (Or:List OB) (am:Nat->AV) (conds:Nat->Bool) (env':List (Nat×(γ->AV))) (F:List Bool->γ->List OB) (sv:Nat->γ->Value) (ch:List Nat) (g0:γ) (h0:∀ g,F (ch.map λ_=>false) g=O)
 (h:So J S w0 N O env a w) (V:aR J) (hu:jP l=true) (hN:jg l N=true) (d8:qy ch=true)
 (hsub:∀ b g p,p∈Or->p∈F b g) (ob:lk (nC n P J S Or w0 env l am conds ch) 0 l) (d6:mx (yv n P J S w0 env l am conds F sv ch) 0 ch) (hf:lj env l am conds (λk' g=>if k'<ch.length then sv k' g else undef) ch env')
 (hq:∀ g a w,So J S w0 N (F (ch.map λ_=>true) g) (env'.map λp=>(p.1,p.2 g)) a w->Q .normal a w):Yn:=by
 refine UC law Or am conds env' (λD g=>F ((List.range ch.length).map D) g) (λk' g=>if k'<ch.length then sv k' g else undef) ch g0 (λg=>?_) h V hu hN d8 (λD g p hp=>hsub _ g p hp) ob d6 hf λg a w h=>hq g a w ?_
 ·rw[<-h0 g]
  congr 1
  apply ext_getElem?
  intro j
  by_cases hj:j<ch.length<;>simp[hj]
 ·have e:(List.range ch.length).map (λk=>decide (k<ch.length))=ch.map λ_=>true:=by
   apply ext_getElem?
   intro j
   by_cases hj:j<ch.length<;>simp[hj]
  rw[<-e]
  exact h
theorem lg {N:Nat} {Q:Exit->Act->WP} {O:List OB} (Or:List OB) {id:Nat} {draw:Bool} {a:Act} {w:World} (am:Nat->AV) (conds:Nat->Bool) (env':List (Nat×(γ->AV))) (F:List Bool->γ->List OB) (sv:Nat->γ->Value) (ch:List Nat) (g0:γ) (h0:∀ g,F (ch.map λ_=>false) g=O)
 (h:So J S w0 N O env a w) (V:aR J) (hm:P.follows .mixedOrders=true) (hu:jP l=true) (hN:jg l N=true) (hback:lq l=true) (d8:qy ch=true)
 (hsub:∀ b g p,p∈Or->p∈F b g) (ob:lk (nC n P J S Or w0 env l am conds ch) 0 l) (d6:mx (yv n P J S w0 env l am conds F sv ch) 0 ch) (hf:lj env l am conds (λk' g=>if k'<ch.length then sv k' g else undef) ch env')
 (hq:∀ g a w,So J S w0 N (F (ch.map λ_=>true) g) (env'.map λp=>(p.1,p.2 g)) a w->Q .normal a w):(Code.region id l.toArray draw).wpIn n.F n.d P Q a w:=
 UD (λI h1 h2 h3 h4=>Ij (I:=I) hm hback h1 h2 h3 h4) Or am conds env' F sv ch g0 h0 h V hu hN d8 hsub ob d6 hf hq
end
end Go.Proofs.YtdfadihhfppjaaaGreatDoor
namespace Go.Proofs.YtdfadihhfppjaaaGreatDoor
open Go.Proofs.Tryz (prog)
open Go.RowKit
theorem uV:gm prog 37 [lI 0,lI 0,lS ⟨#[]⟩,.sl [],lI 0,lI 0]:=⟨(.agg #[.int .i64 0,.int .i64 0,.string ⟨#[]⟩,.slice none 0 0,.int .i64 0,.int .i64 0]),λw=>by kernel_rfl,λS w=>(show bE S w [lI 0,lI 0,lS ⟨#[]⟩,.sl [],lI 0,lI 0] [.int .i64 0,.int .i64 0,.string ⟨#[]⟩,.slice none 0 0,.int .i64 0,.int .i64 0]from⟨.lit _ True.intro,.lit _ True.intro,.lit _ aI,.nil _ _ aI,.lit _ True.intro,.lit _ True.intro,U⟩)⟩
theorem NU:db prog 92 4 6:=fO
theorem NT:db prog 92 2 4:=fO
theorem sN:fY prog 37 6:=aO
theorem Ed:CF prog 28:=λ_ _=>by kernel_rfl
theorem wm:db prog 37 4 4:=fO
theorem wn:db prog 37 5 5:=fO
theorem uK:dV prog 37 6:=zO
theorem rY:j8 prog 158 9 22 aB.kind:=⟨by kernel_rfl,by kernel_rfl⟩
theorem sg:eu prog 158:=nO
abbrev jC (e:Db) (k:Nat) (ss:List Stp) (ts:List (List BA)) (M:Nat):List CD:=ai e.bL::ai e.vars::dX e.ab::lI (k:Int)::aY ss::cu ts::lI ((dd ss:Nat):Int):: .lit (.map (some M))::[]
abbrev cJ (l:List BA):AV:=AV.rd (ai l)
section
variable {J:WP} (V:aR J)
include V
theorem Bs (d:Db) (i:Nat) (ss:List Stp) (ts:List (List BA)) (M:Nat) (c:bZ) (bw:ey ss) (gT:0<=c.step) (f8:c.step< (ss.length:Int)) (jW:∀ a∈c.args,0<=a/\a<c.step) (dl:c.args.length<=40) (hc1:c.dN=2∨1<=c.args.length):Fn prog J 69 [.ptr (jC d i ss ts M),.agg (cm c)] (.bF [.agg (cm (ii ss c)),.bool (decide ((((cw ss c).length:Nat):Int)< ((dd ss:Nat):Int)))]):=by
 refine fE Tryz.func69 λS w0 hS hJ0=>?_
 refine tw cc (aL (qQ (cs:=[lI c.dN,lI c.step,lS c.ae,bQ c.args,lI c.before,lI c.after]) V Y Y Y (lb Y) (λa w h=>(h.get 1 Y)) λb1=>cx uV V Y Y Y (lb Y) λb2=>ao 1 tb Y (aA [1,2,3] U3 Y (nx (af (tw bO (λa w h=>lg [OB.var b2 [lI 0,lI 0,lS (⟨#[]⟩:BA),bQ ([]:List Int),lI 0,lI 0]] (γ:=Value) (λix'=>([.ptr (jC d i ss ts M),.ptr (jC d i ss ts M),.ptr [lI (((dd ss):Nat):Int),.lit (.map (some M))],.int ((dd ss):Nat),.ptr (jC d i ss ts M),.ptr (jC d i ss ts M),.ptr [aY ss,cu ts,lI (((dd ss):Nat):Int),.lit (.map (some M))],.agg (be ss),.agg (cm c),.agg (be (cw ss c)),.rd (aY (cw ss c)),.int ((cw ss c).length:Nat),.at b1 4,.any,.at b1 5,.any]:List AV).getD ix' .any) (λ_=>true) [(4,λ_=>.at b2 0),(3,λ_=>.at b1 0)] (λ(b:List Bool) (g:Value)=>(bif b.getD 2 false then [OB.var b1 [lI c.dN,lI c.step,lS c.ae,bQ c.args,lI (((dd ss):Nat):Int),lI (((cw ss c).length:Nat):Int)]]else(bif b.getD 1 false then [OB.var b1 [lI c.dN,lI c.step,lS c.ae,bQ c.args,lI (((dd ss):Nat):Int),lI c.after]]else [OB.var b1 (cm c)]))++([OB.var b2 [lI 0,lI 0,lS (⟨#[]⟩:BA),bQ ([]:List Int),lI 0,lI 0]])) (λk' g=>match k' with | 0=>g | _=>undef) [8,13,15] undef (λ_=>Y) h V cU Y Y Y Y (λb g p hp=>(mem_append_right _ hp)) ⟨oX Y λZ hl=>b9 Y (hl.env 2 0 _ Y Y) Z,oX Y λZ hl=>kJ Y (hl.D 0 6 Y Y) Z,oX Y λZ hl=>cd NU Y (hl.D 1 7 Y Y) Z,oX Y λZ hl=>bU gd Y (hl.D 2 8 Y Y) Z,oX Y λZ hl=>b9 Y (hl.env 2 0 _ Y Y) Z,oX Y λZ hl=>kJ Y (hl.D 4 10 Y Y) Z,oX Y λZ hl=>cd NT Y (hl.D 5 11 Y Y) Z,oX Y λZ hl=>j4 (k:=1) ee Y (hl.D 6 12 Y Y) (lb Y) Z,bC Y,?_,oX Y λZ hl=>HV (c:=aY (cw ss c)) Ed Y (hl.D 9 15 Y Y) Z,oX Y λZ hl=>kq eo Y (hl.D 10 16 Y Y) Z,oX Y λZ hl=>cy wm Y (hl.env 1 3 _ Y Y) Z,bC Y,oX Y λZ hl=>cy wn Y (hl.env 1 3 _ Y Y) Z,bC Y,U⟩ ⟨?nM,?pX,?zk,U⟩ ⟨.old 0 4 _,.old 1 3 _,U⟩ ?ud)))))))
 exact oY Y λhk Z hl=>cV (Hb V ss c (by exact bw) (by exact gT) (by exact f8) (by exact jW) (by exact dl) (by exact hc1)) (cO Tryz.func34) Y (aK hS _ hk Z) (Z.1) (aq (hl.D 7 13 Y Y) (aq (hl.D 8 14 Y Y) aN)) (jo V Z)
 case nM=>exact eE [[false,false,false]] yq Y Y Y Y ⟨λ_ _ w hk Z hl _=>bD (fA (ds:=[lI c.dN,lI c.step,lS c.ae,bQ c.args,lI c.before,lI c.after]) sN Y (aG Z (mo 0 Y)) (hl.env 1 3 _ Y Y) Y Y Z) λv w' hp=>⟨v,dZ,λ_=>rfl,hp.1,qV V hk Z hp.2.1⟩,U⟩
 case pX=>exact eE [[true,false,false]] yq Y Y Y Y ⟨λg _ w hk Z hl _=>bD (vU (off:=4) (es:=U6) (c:=lI (((dd ss):Nat):Int)) V hJ0 qN Y hk Z (hl.D 12 18 Y Y) (hl.D 3 9 Y Y) (lb Y) Y) λv w' hp=>⟨g,λ_ _=>rfl,λe=>(by cases e),True.intro,hp⟩,U⟩
 case zk=>exact eE [[true,true,false]] yq Y Y Y Y ⟨λg _ w hk Z hl _=>bD (vU (off:=5) (es:=U6) (c:=lI (((cw ss c).length:Nat):Int)) V hJ0 qN Y hk Z (hl.D 14 19 Y Y) (hl.D 11 17 Y Y) (lb Y) Y) λv w' hp=>⟨g,λ_ _=>rfl,λe=>(by cases e),True.intro,hp⟩,U⟩
 clear a w h
 intro x3
 dsimp only[List.map]
 refine nx (af (tw bO (λa w h=>lg [OB.var b1 [lI c.dN,lI c.step,lS c.ae,bQ c.args,lI (((dd ss):Nat):Int),lI (((cw ss c).length:Nat):Int)]] (γ:=Unit) (λix'=>([.agg [lI c.dN,lI c.step,lS c.ae,bQ c.args,lI (((dd ss):Nat):Int),lI (((cw ss c).length:Nat):Int)],.at b1 5,.int ((cw ss c).length:Nat),.at b1 4,.int ((dd ss):Nat),.bool (decide ((((cw ss c).length:Nat):Int)< (((dd ss):Nat):Int))),.any,.bool (decide ((((cw ss c).length:Nat):Int)< (((dd ss):Nat):Int)))]:List AV).getD ix' .any) (λ_=>true) [(4,λ_=>.at b2 0),(5,λ_=>.bool (decide ((((cw ss c).length:Nat):Int)< (((dd ss):Nat):Int))))] (λ(b:List Bool) (g:Unit)=>(bif b.getD 0 false then [OB.var b2 [lI c.dN,lI c.step,lS c.ae,bQ c.args,lI (((dd ss):Nat):Int),lI (((cw ss c).length:Nat):Int)]]else [OB.var b2 [lI 0,lI 0,lS (⟨#[]⟩:BA),bQ ([]:List Int),lI 0,lI 0]])++([OB.var b1 [lI c.dN,lI c.step,lS c.ae,bQ c.args,lI (((dd ss):Nat):Int),lI (((cw ss c).length:Nat):Int)]])) (λ_ _=>undef) [6] () (λ_=>Y) h V cU Y Y Y Y (λb g p hp=>(mem_append_right _ hp)) ⟨λ_ O' cf=>⟨Y,λ_ _ _ Z hl _=>fA (ds:=[lI c.dN,lI c.step,lS c.ae,bQ c.args,lI (((dd ss):Nat):Int),lI (((cw ss c).length:Nat):Int)]) sN Y (aG Z (cf _ (mo 0 Y))) (hl.env 1 3 _ Y Y) Y Y Z⟩,oX Y λZ hl=>cy wn Y (hl.env 1 3 _ Y Y) Z,λ_ O' cf=>⟨Y,λ_ _ _ Z hl _=>cg gd Y (aG Z (cf _ (mo 0 Y))) (hl.D 1 21 Y Y) Y Z⟩,oX Y λZ hl=>cy wm Y (hl.env 1 3 _ Y Y) Z,λ_ O' cf=>⟨Y,λ_ _ _ Z hl _=>cg gd Y (aG Z (cf _ (mo 0 Y))) (hl.D 3 23 Y Y) Y Z⟩,oX Y λZ hl=>BD Y (hl.D 2 22 Y Y) (hl.D 4 24 Y Y) Z,bC Y,oX Y λZ hl=>gY Y (hl.D 5 25 Y Y) Z,U⟩ ⟨?MA,U⟩ ⟨.old 0 4 _,.new 7 5 _,U⟩ ?Ye)))
 case MA=>exact eE [[false]] yq Y Y Y Y ⟨λg _ w hk Z hl _=>(by obtain⟨eP,hv2,eh⟩:=jw (hl.D 0 20 Y Y);exact bD (iw (off:=0) (news:=U6) (es:=U6) (us:=eP) V hJ0 uK Y hk Z (hl.env 0 4 _ Y Y) (by rw[hv2];rfl) eh (lb Y) Y) λv w' hp=>⟨g,λ_ _=>rfl,λe=>(by cases e),True.intro,hp⟩),U⟩
 clear a w h
 intro _
 dsimp only[List.map]
 exact nx (aX (λa w h=>ja (m:=0) (q:=1) Y sN h Y Y (show(_:List CD)=[lI ((ii ss c).dN),lI ((ii ss c).step),lS ((ii ss c).ae),bQ ((ii ss c).args),lI ((ii ss c).before),lI ((ii ss c).after)]from Y) Y (eB (Y))))
theorem Ts (h:Hy) (s:BA) (hf:h.bn=true->1<h.ac.length):Fn prog J 143 [.agg (aP h),.ptr [lS s]] (.bool (h.bn&&decide (G h.ac 1=s))):=by
 refine fE Tryz.func143 λS w0 hS hJ0=>?_
 clear hJ0
 refine aJ tb V [1,1000] [.ptr (aP h),_] [0] U2 Y ⟨d9 hS V,U⟩ ?_
 refine aJ tb V [1010] (V5 [.ptr [lS (G h.ac 1)],_,_,_,_,_]) [5] [_] Y ⟨cT (k:=1) bz (hk:=λ(aF:(h.bn==true)=true)=>by(try simp at aF);exact hf aF),U⟩ ?_
 exact aU 0 (hE:=eB (by first | rfl | grind[aE]))
theorem SN (xs:List Hy) (f:FuncId) (caps:List AV) (Os:List OB) (p:Hy->Bool) (hf:∀ q'∈xs,cD prog J f Os ([.agg (aP (q'))]++caps) (.bool (p q'))) (hk0:dy prog f):cD prog J 187 Os [.rd (bX xs),.fn f caps] (.int (cH p xs)):=by
 refine eV Tryz.func187 λS w0 hS hJ0 hH=>?_
 clear hJ0
 refine ln 0 λ_=>?_
 refine qs tb V [0,1] [_] U2 ?_
 refine af (aJ tb V [0,1,1001,1002] [_,.int (xs.length:Nat),_] [1] U4 Y ⟨aC cW,U⟩ ?_)
 refine ax (lp (ι:=Nat) (λk=>(k<=xs.length)/\(∀ j,j<k->p (G xs j)=false)) (λk=>[(8,.int (k:Nat))]) (λk=>xs.length-k) [0,1,2,3] U3 0 ⟨aI,λj hj=>by omega⟩ ?_)
 rintro k ⟨aQ,ah⟩
 refine qs tb V [0,1,2,3,1000] [_] U5 ?_
 refine cE 4 ?_ ?_<;>intro hb1<;>try simp at hb1
 ·refine ak (nx (af (ax (qs tb V [0,1,2,3,1001] U2 U5 ?_))))
  refine aJ tb V (r5 [1005]) (V3 [.ptr (aP (G xs k)),_,.bool (p (G xs k))]) [3,5] U6 Y ⟨bq cL,λ_ _ hk Z hl _=>iE (hf (G xs k) (aE oz)) hk0 Y (hl.D 0 11 Y Y) (nm hS hk) (Z) (λ_ ho=>f7 hH hk ho) (aq (hl.D 4 15 Y Y) aN) (js V Z),U⟩ ?_
  refine cj 5 ?_ ?_<;>intro hb2<;>try simp at hb2
  ·refine qs tb V [1001] U2 [_] ?_
   exact aU 0 (hE:=eI (by first | exact(iR hb1 hb2 ah).symm | exact(iS λj hj=>ah j oz).symm))
  ·refine ak (nx (dK tb V [0,1,2,1001] [.int (k+1:Nat),_] [0] U4 Y ⟨aM,U⟩ ?_))
   exact dM (k+1) [0,1,2,3] ⟨oz,cB ah hb2⟩
 ·refine aW (nx (qs tb V [1000] [_] [_] ?_))
  exact aU 0 (hE:=eI (by first | exact(iR hb1 hb2 ah).symm | exact(iS λj hj=>ah j oz).symm))
theorem SA (xs:List Hy) (f:FuncId) (caps:List AV) (Os:List OB) (p:Hy->Bool) (hf:∀ q'∈xs,cD prog J f Os ([.agg (aP (q'))]++caps) (.bool (p q'))) (hk0:dy prog f):cD prog J 142 Os [.rd (bX xs),.fn f caps] (.bool (xs.any p)):=by
 refine eV Tryz.func142 λS w0 hS hJ0 hH=>?_
 clear hJ0
 refine ln 0 λ_=>?_
 refine qs tb V [0,1] [_] U2 ?_
 refine aJ tb V [1004] [_,_,.int (cH p xs),_,_] [2] [_] Y ⟨λ_ _ hk Z hl _=>dv (SN V xs f caps Os p (hf) (hk0)) (cO Tryz.func187) Y (nm hS hk) (Z) (λ_ ho=>f7 hH hk ho) (aq (hl.D 0 5 Y Y) (aq (hl.D 1 6 Y Y) aN)) (js V Z),U⟩ ?_
 exact aU 0 (hE:=eB (by rw[<-pd]))
theorem Hi (g:Fr) (s:BA) (fe:∀ h∈g.aa,h.bn=true->h.ac.length=2):Fn prog J 119 [.agg (a8 g),.str s] (.bool (jl g.aa s)):=by
 refine fE Tryz.func119 λS w0 hS hJ0=>?_
 clear hJ0
 refine aJ tb V [1000,1001] [.ptr (a8 g),.ptr [lS s],_] [0,1] U2 Y ⟨d9 hS V,λ_ _ hk Z hl _=>ld Y (hl.env 1 1 _ Y Y) (hS _ hk.size) (js V Z),U⟩ ?_
 refine aJ tb V [1001,1004] [_,_,.fn 143 [.ptr [lS s]],.bool (g.aa.any (λh'=>h'.bn&&decide (G h'.ac 1=s))),_] [2,3] U2 Y ⟨λ_ _ _ Z hl _=>lf (caps:=[(.tmp 3)]) Y (aq (hl.env 1 3 _ Y Y) aN) Z,λ_ _ hk Z hl _=>dv (SA V g.aa 143 [.ptr [lS s]] [] (λh'=>h'.bn&&decide (G h'.ac 1=s)) (λq' hq'=>(Ts V q' s (λe=>by have:=fe q' hq' e;omega)).rr) ((cO Tryz.func143))) (cO Tryz.func142) Y (nm hS hk) (Z) b8 (aq (hl.D 1 6 Y Y) (aq (hl.D 2 7 Y Y) aN)) (js V Z),U⟩ ?_
 refine ln 0 λ_=>?_
 exact aU 1 (hE:=eB (Y))
theorem Bq (mb:Nat) (Mb:BM) (g:Fr) (p t:List BA) (fe:∀ h∈g.aa,h.bn=true->h.ac.length=2):cD prog J 94 [OB.map aB cJ mb Mb] [.lit (.map (some mb)),.agg (a8 g),.rd (ai p),.rd (ai t)] (.bF [.bool ((ci g.aa Mb p t).1),.bool ((ci g.aa Mb p t).2)]):=by
 refine eV Tryz.func94 λS w0 hS hJ0 hH=>?_
 refine tw cc (ln 2 λcr=>?_)
 refine ln 3 λ_=>?_
 refine au tb V [0,2,3,1000] [.ptr (a8 g),_,_] [0] U4 Y ⟨cY hS V,U⟩ ?_
 refine af (au tb V [0,2,3,1000,1001,1002] [_,.int (p.length:Nat),_] [1] U6 Y ⟨aC b7,U⟩ ?_)
 refine ax (lpo (ι:=Nat×(List BA)) (λ(k,tx)=>(k<=p.length)/\(ci g.aa Mb p t=ci g.aa Mb (p.drop k) tx)) (λ(_,_)=>[]) (λ(k,tx)=>[(16,.int (k:Nat)),(3,.rd (ai tx))]) (λ(k,_)=>p.length-k) [0,2,3,4,5,1] U4 (0,t) ⟨aI,Y⟩ ?_)
 rintro⟨k,tx⟩ ⟨aQ,ah⟩
 refine aj tb V (r6 [1000]) [_] U7 ?_
 refine ln 5 λ_=>?_
 refine cE 6 ?_ ?_<;>intro hb1<;>try simp at hb1
 ·refine ak (nx (af (ax (au tb V (r6 [1002]) [.ptr [lS (G p k)],_,_] [0] U7 Y ⟨bq bz,U⟩ ?_))))
  refine au tb V (r7 [1004,1006,1007]) [_,_,.bF [.rd (ai ((aw Mb (G p k)).getD default)),.bool ((aw Mb (G p k)).isSome)],_,_,_,_,_] [2] fp Y ⟨λ_ _ hk Z hl _=>mn (Kd:=aB) (f:=cJ) (L:=Mb) rY yu (G p k) Y (dC hH hk Z (mo 0 Y)) (hl.D 0 21 Y Y) (hl.D 1 22 Y Y) Z,U⟩ ?_
  refine ln 7 λ_=>?_
  refine ax (au tb V (r7 [8,9,1016]) (V3 [.int (((aw Mb (G p k)).getD default).length:Nat),_,.int (tx.length:Nat),_,_,_,_,_,_,.int (((aw Mb (G p k)).getD default).length:Nat),.rd (ai (tx.take (((aw Mb (G p k)).getD default).length))),.bool (decide (((aw Mb (G p k)).getD default)=(tx.take (((aw Mb (G p k)).getD default).length)))),_,_]) [3,5,12,13,14] fp Y ⟨aC b7,aC b7,aC b7,λ_ _ _ Z hl hc=>iW (ys:=tx.take (((aw Mb (G p k)).getD default).length)) (lo:=0) (hi:=((aw Mb (G p k)).getD default).length) List.drop_zero bz (λ_=>Y) Y (hl.D 10 39 Y hc) Y (hl.D 12 41 Y hc) (by have aF:((((aw Mb (G p k)).isSome)&& (decide (((((aw Mb (G p k)).getD default).length:Nat):Int)<=(tx.length:Int))))==true)=true:=hc;(try simp at aF);(first | omega | (simp;omega) | grind[aE])) (by have aF:((((aw Mb (G p k)).isSome)&& (decide (((((aw Mb (G p k)).getD default).length:Nat):Int)<=(tx.length:Int))))==true)=true:=hc;(try simp at aF);(first | omega | (simp;omega) | grind[aE])) Z,bJ hS V (xo V ((aw Mb (G p k)).getD default) (tx.take (((aw Mb (G p k)).getD default).length))) (cO Tryz.func58),U⟩ ?_)
  refine cj 9 ?_ ?_<;>intro hb2
  ·refine aT tb V (r5 [1003,1004]) [_,_,.int (((aw Mb (G p k)).getD default).length:Nat),.rd (ai (tx.drop (((aw Mb (G p k)).getD default).length))),_] [2,3] U7 Y ⟨aC b7,λ_ _ _ Z hl _=>iW (ys:=tx.drop (((aw Mb (G p k)).getD default).length)) (lo:=((aw Mb (G p k)).getD default).length) (hi:=tx.length) (by rw[take_length]) bz (λ_=>Y) Y (hl.D 0 45 Y Y) (hl.D 2 47 Y Y) Y ay ay Z,U⟩ ?_
   refine nx (ln 5 λFp=>?_)
   refine aT tb V [0,1,2,3,6,1001] [.int (k+1:Nat),_] [0] U6 Y ⟨aM,U⟩ ?_
   exact br (k+1,tx.drop (((aw Mb (G p k)).getD default).length)) [0,1,2,3,5,4] ⟨oz,by first | exact C7 ah oz hb2 | exact C8 ah oz aD bd bW⟩
  ·refine aj tb V (r7 [1001]) U2 U8 ?_
   refine cj 7 ?_ ?_<;>intro aD
   ·have e9:=Ki ah oz hb2 aD
    refine aj tb V [1000,1001] U2 U2 ?_
    exact aX (λa w h=>di (m:=0) (k:=1) Y (dw h) Y Y (eB (by first | (rw[e9];done) | (rw[e9];simp))) (eB (by first | (rw[e9];done) | (rw[e9];simp))))
   ·refine au tb V (r7 [1003]) [_,_,.bool (jl g.aa (G p k)),_] [2] U8 Y ⟨bJ hS V (Hi V g (G p k) (by exact fe)) (cO Tryz.func119),U⟩ ?_
    refine cj 7 ?_ ?_<;>intro bd
    ·have e9:=Kh ah oz aD bd
     refine aj tb V [1000,1001] U2 U2 ?_
     exact aX (λa w h=>di (m:=0) (k:=1) Y (dw h) Y Y (eB (by first | (rw[e9];done) | (rw[e9];simp))) (eB (by first | (rw[e9];done) | (rw[e9];simp))))
    ·refine au tb V (r6 [1010]) [_,.int (tx.length:Nat),_,_,_,.ptr [lS (G tx 0)],_,_,_,_,_] [1,5] U7 Y ⟨aC b7,cT (k:=0) bz (hk:=λ(aF:((decide ((tx.length:Int)=(0:Int)))==false)=true)=>by(try simp at aF);first | omega | (simp;omega) | grind[aE]),U⟩ ?_
     refine cj 6 ?_ ?_<;>intro bW
     ·have e9:=Kg ah oz aD bd bW
      refine aj tb V [1000,1001] U2 U2 ?_
      exact aX (λa w h=>di (m:=0) (k:=1) Y (dw h) Y Y (eB (by first | (rw[e9];done) | (rw[e9];simp))) (eB (by first | (rw[e9];done) | (rw[e9];simp))))
     ·refine aT tb V (r5 [1001,1002]) [_,.rd (ai (tx.drop 1)),_] [1] U7 Y ⟨λ_ _ _ Z hl _=>iW (ys:=tx.drop 1) (lo:=1) (hi:=tx.length) (by rw[take_length]) bz (λ_=>Y) Y (hl.D 0 26 Y Y) (Rel.aH (.int .i64 1)) Y ay ay Z,U⟩ ?_
      refine nx (ln 5 λAl=>?_)
      refine aT tb V [0,1,2,3,6,1001] [.int (k+1:Nat),_] [0] U6 Y ⟨aM,U⟩ ?_
      exact br (k+1,tx.drop 1) [0,1,2,3,5,4] ⟨oz,by first | exact C7 ah oz hb2 | exact C8 ah oz aD bd bW⟩
 ·have e9:=Kj ah oz
  refine aW (nx (au tb V [1003,1004] [_,.int (tx.length:Nat),_,_,_] [1] U2 Y ⟨aC b7,U⟩ ?_))
  exact aX (λa w h=>di (m:=0) (k:=1) Y (dw h) Y Y (eB (by first | (rw[e9];done) | (rw[e9];simp))) (eB (by first | (rw[e9];done) | (rw[e9];simp))))
theorem S3 (mb:Nat) (Mb:BM) (g:Fr) (s:BA) (fe:∀ h∈g.aa,h.bn=true->h.ac.length=2):cD prog J 136 [OB.map aB cJ mb Mb] [.str s,.ptr [.lit (.map (some mb))],.ptr (a8 g)] (.bool (!(aw Mb s).isSome&&jl g.aa s)):=by
 refine eV Tryz.func136 λS w0 hS hJ0 hH=>?_
 refine tw cc (aj tb V [0,1,2] [_] U3 ?_)
 refine au tb V [0,2,1004,1006,1007] [_,_,.bF [.rd (ai ((aw Mb s).getD default)),.bool ((aw Mb s).isSome)],_,_,_,_,_] [2] U5 Y ⟨λ_ _ hk Z hl _=>mn (Kd:=aB) (f:=cJ) (L:=Mb) rY yu s Y (dC hH hk Z (mo 0 Y)) (hl.D 0 8 Y Y) (hl.D 1 9 Y Y) Z,U⟩ ?_
 refine ln 2 λ_=>?_
 refine au tb V [1007] (V5 [.bool (jl g.aa s),_,_]) [5] [_] Y ⟨λ_ _ hk Z hl hc=>cV (Hi V g s (by have aF:((!((aw Mb s).isSome))==true)=true:=hc;(try simp at aF);(exact fe))) (cO Tryz.func119) Y (aK hS _ hk Z) (Z.1) (aq (hl.D 3 16 Y hc) (aq (hl.D 4 17 Y hc) aN)) (jo V Z),U⟩ ?_
 exact bH 0 (hE:=eB (by first | rfl | grind[aE]))
theorem S2 (mb:Nat) (Mb:BM) (g:Fr) (t:List BA) (fe:∀ h∈g.aa,h.bn=true->h.ac.length=2):cD prog J 104 [OB.map aB cJ mb Mb] [.lit (.map (some mb)),.agg (a8 g),.rd (ai t)] (.bool (pN g.aa Mb t)):=by
 refine eV Tryz.func104 λS w0 hS hJ0 hH=>?_
 refine tw cc (ln 2 λcr=>?_)
 refine au tb V [2,1000,1001] [.ptr [.lit (.map (some mb))],.ptr (a8 g),_] [0,1] U3 Y ⟨λ_ _ hk Z hl _=>ld Y (hl.env 0 0 _ Y Y) (aK hS _ hk Z _ aV) (jo V Z),cY hS V,U⟩ ?_
 refine au tb V [1004] [_,.fn 136 [.ptr [.lit (.map (some mb))],.ptr (a8 g)],.bool (t.any (λs'=>!(aw Mb s').isSome&&jl g.aa s')),_,_] [1,2] [_] Y ⟨λ_ _ _ Z hl _=>lf (caps:=[(.tmp 3),(.tmp 4)]) Y (aq (hl.env 1 3 _ Y Y) (aq (hl.env 2 4 _ Y Y) aN)) Z,λ_ _ hk Z hl _=>dv (uv V t 136 [.ptr [.lit (.map (some mb))],.ptr (a8 g)] [OB.map aB cJ mb Mb] (λs'=>!(aw Mb s').isSome&&jl g.aa s') (λq'=>S3 V mb Mb g q' fe) ((cO Tryz.func136))) (cO Tryz.func135) Y (aK hS _ hk Z) (Z.1) (dJ (dC hH hk Z (mo 0 Y)) b8) (aq (hl.D 0 7 Y Y) (aq (hl.D 1 8 Y Y) aN)) (jo V Z),U⟩ ?_
 exact bH 0 (hE:=eB (Y))
end
end Go.Proofs.YtdfadihhfppjaaaGreatDoor
namespace Go.Proofs
open Go.Shelf
def Tryz.sortB_ren:Go.Shelf.Ren:=⟨fun | 6=>124 | 15=>151 | 14=>150 | 28=>197 | 29=>198 | 20=>189 | 21=>190 | 22=>191 | 23=>192 | 24=>193 | 25=>194 | 26=>195 | 27=>196 | 46=>229 | 47=>230 | 48=>231 | 49=>232 | 50=>233 | 57=>252 | n=>n,fun | 22=>165 | 24=>182 | 25=>205 | 3=>3 | 39=>230 | 0=>0 | 53=>266 | 55=>268 | 4=>4 | 46=>260 | 45=>259 | 50=>172 | 5=>5 | 9=>9 | 66=>294 | 70=>298 | 76=>313 | 77=>314 | n=>n,fun | n=>n⟩
theorem Tryz.sortB:Go.Proofs.SlLaysF0.n6 Tryz.prog Tryz.sortB_ren:= {
 mixed:=by kernel_rfl
 f6:=⟨Tryz.f124.name,by decide,Tryz.func124.trans (congrArg some (by kernel_rfl))⟩
 f14:=⟨Tryz.f150.name,by decide,Tryz.func150.trans (congrArg some (by kernel_rfl))⟩
 f15:=Tryz.func151.trans (congrArg some (by kernel_rfl))
 f20:=⟨Tryz.f189.name,by decide,Tryz.func189.trans (congrArg some (by kernel_rfl))⟩
 f21:=⟨Tryz.f190.name,by decide,Tryz.func190.trans (congrArg some (by kernel_rfl))⟩
 f22:=⟨Tryz.f191.name,by decide,Tryz.func191.trans (congrArg some (by kernel_rfl))⟩
 f23:=⟨Tryz.f192.name,by decide,Tryz.func192.trans (congrArg some (by kernel_rfl))⟩
 f24:=⟨Tryz.f193.name,by decide,Tryz.func193.trans (congrArg some (by kernel_rfl))⟩
 f25:=⟨Tryz.f194.name,by decide,Tryz.func194.trans (congrArg some (by kernel_rfl))⟩
 f26:=⟨Tryz.f195.name,by decide,Tryz.func195.trans (congrArg some (by kernel_rfl))⟩
 f27:=⟨Tryz.f196.name,by decide,Tryz.func196.trans (congrArg some (by kernel_rfl))⟩
 f28:=Tryz.func197.trans (congrArg some (by kernel_rfl))
 f29:=Tryz.func198.trans (congrArg some (by kernel_rfl))
 f46:=⟨Tryz.f229.name,by decide,Tryz.func229.trans (congrArg some (by kernel_rfl))⟩
 f47:=Tryz.func230.trans (congrArg some (by kernel_rfl))
 f48:=Tryz.func231.trans (congrArg some (by kernel_rfl))
 f49:=⟨Tryz.f232.name,by decide,Tryz.func232.trans (congrArg some (by kernel_rfl))⟩
 f50:=⟨Tryz.f233.name,by decide,Tryz.func233.trans (congrArg some (by kernel_rfl))⟩
 f57:=⟨Tryz.f252.name,by decide,Tryz.func252.trans (congrArg some (by kernel_rfl))⟩
 t0:=Tryz.underlying0
 a0:=Tryz.isAgg0
 z0:=Tryz.sizeOf0
 v0:=Tryz.zeroValue0
 t3:=Tryz.underlying3
 a3:=Tryz.isAgg3
 z3:=Tryz.sizeOf3
 v3:=Tryz.zeroValue3
 t4:=Tryz.underlying4
 a4:=Tryz.isAgg4
 z4:=Tryz.sizeOf4
 v4:=Tryz.zeroValue4
 t5:=Tryz.underlying5
 a5:=Tryz.isAgg5
 z5:=Tryz.sizeOf5
 v5:=Tryz.zeroValue5
 t9:=Tryz.underlying9
 a9:=Tryz.isAgg9
 z9:=Tryz.sizeOf9
 v9:=Tryz.zeroValue9
 t22:=Tryz.underlying165
 a22:=Tryz.isAgg165
 z22:=Tryz.sizeOf165
 v22:=Tryz.zeroValue165
 t25:=Tryz.underlying205
 a25:=Tryz.isAgg205
 z25:=Tryz.sizeOf205
 v25:=Tryz.zeroValue205
 t39:=Tryz.underlying230
 a39:=Tryz.isAgg230
 z39:=Tryz.sizeOf230
 v39:=Tryz.zeroValue230
 t45:=Tryz.underlying259
 a45:=Tryz.isAgg259
 z45:=Tryz.sizeOf259
 v45:=Tryz.zeroValue259
 t46:=Tryz.underlying260
 a46:=Tryz.isAgg260
 z46:=Tryz.sizeOf260
 v46:=Tryz.zeroValue260
 t50:=Tryz.underlying172
 a50:=Tryz.isAgg172
 z50:=Tryz.sizeOf172
 v50:=Tryz.zeroValue172
 t53:=Tryz.underlying266
 a53:=Tryz.isAgg266
 z53:=Tryz.sizeOf266
 v53:=Tryz.zeroValue266
 t55:=Tryz.underlying268
 a55:=Tryz.isAgg268
 z55:=Tryz.sizeOf268
 v55:=Tryz.zeroValue268
 t66:=Tryz.underlying294
 a66:=Tryz.isAgg294
 z66:=Tryz.sizeOf294
 v66:=Tryz.zeroValue294
 t70:=Tryz.underlying298
 a70:=Tryz.isAgg298
 z70:=Tryz.sizeOf298
 v70:=Tryz.zeroValue298
 t76:=Tryz.underlying313
 a76:=Tryz.isAgg313
 z76:=Tryz.sizeOf313
 v76:=Tryz.zeroValue313
 t77:=Tryz.underlying314
 a77:=Tryz.isAgg314
 z77:=Tryz.sizeOf314
 v77:=Tryz.zeroValue314 }
end Go.Proofs
namespace Go.Proofs.YtdfadihhfppjaaaGreatDoor
open Go.RowKit
open Go.Sort Go.Shelf
theorem LP (x y:BA) (u v:Value) (Z:x.size<=maxLen) (hy:y.size<=maxLen) (hu:io u) (hv:io v) (W:World):Calls Tryz.prog 125 #[.agg #[.string x,u],.agg #[.string y,v]] W λe w'=>e= .returned (.int .i64 (dS x y))/\Ex W w':=by
 have r1:∀(s:BA) (z:Value),s.size<=maxLen->io z->Rel (λ_=>True) W (.agg [.lit (.string s),.lit z]) (.agg #[.string s,z]):=λs z h1 h2=>by
  simp only[Rel]
  exact⟨[.string s,z],rfl,.lit _ h1,.lit _ h2,trivial⟩
 have ha:bi (λ_=>True) W [.agg [.lit (.string x),.lit u],.agg [.lit (.string y),.lit v]] [.agg #[.string x,u],.agg #[.string y,v]]:=aq (r1 x u Z hu) (aq (r1 y v hy hv) aN)
 obtain⟨g1,g2⟩:=sc (N:=10) (M:=10) yz rfl ha
 refine(callsIn_wide (n:=5)).1 (callsIn_of_wp Tryz.func125 rfl trivial ?_ rfl)
 suffices h:Tr 5 Tryz.prog (St All (λ_=>True) W 10 (jq 0 [.agg [.lit (.string x),.lit u],.agg [.lit (.string y),.lit v]]) (Ex W)) _ _ from h _ _ ⟨rfl,g1,Keeps.refl _ _,Eb W,g2⟩
 refine aL (sy (.ptr [.lit (.string x),.lit u]) (λh=>yo rfl (h.get 0 rfl) trivial h.x) ?_)
 refine sy (.ptr [.lit (.string y),.lit v]) (λh=>yo rfl (h.get 2 rfl) trivial h.x) ?_
 refine sy (.int 0) (λh=>gY rfl (Rel.aH _) h.x) ?_
 refine aA [1,2] [_,_] rfl (nx (aL (sy (.ptr [.lit (.string x),.lit u]) (λh=>cd Ey rfl (h.get 1 rfl) h.x) ?_)))
 refine sy (.str x) (λh=>bU fh rfl (h.get 0 rfl) h.x) ?_
 refine sy (.ptr [.lit (.string y),.lit v]) (λh=>cd Ey rfl (h.get 2 rfl) h.x) ?_
 refine sy (.str y) (λh=>bU fh rfl (h.get 0 rfl) h.x) ?_
 refine sq (.int (dS x y)) rfl rfl (lb rfl) (λa w h=>yp (args:=[.tmp 6,.tmp 8]) (vs:=[.string x,.string y]) (cO Tryz.func126) rfl (by rw[List.map_cons,List.map_cons,List.map_nil,(h.get 2 rfl).lit,(h.get 0 rfl).lit]) (y4 _ _ _) True.intro h.x) (sy (.int (dS x y)) (λh=>gY rfl (h.get 0 rfl) h.x) ?_)
 refine aA [0] [_] rfl (aX λa w h=>⟨h.defs,a.tmps.getD 4 undef,by simp[results,Tryz.results125,Sem.run_pure],?_,h.x⟩)
 rw[show a.tmps.getD 4 undef= .int .i64 (dS x y)from(h.get 0 rfl).lit]
abbrev ny:Type:= {p:Bd×Value // p.1.var.size<=maxLen/\io p.2/\p.2.oneCell'=true}
instance instInhBdV:Inhabited ny:=⟨⟨(⟨⟨#[]⟩,[]⟩,.slice none 0 0),aI,True.intro,rfl⟩⟩
def ia (p:ny):List Value:=[.string p.1.1.var,p.1.2]
def sZ (p q:ny):Int:=dS p.1.1.var q.1.1.var
theorem w7 (p q:ny):ltOf sZ p q=Op.bytesLess p.1.1.var.toList q.1.1.var.toList:=by
 unfold ltOf sZ
 by_cases h:Op.bytesLess p.1.1.var.toList q.1.1.var.toList=true
 ·rw[decide_eq_true (pU.2 h),h]
 ·rw[decide_eq_false (λh2=>h (pU.1 h2))]
  simpa using h
theorem Wc:Go.Sort.SWO (ltOf sZ) where
 irrefl x:=by rw[w7];exact pO _
 trans x y z h1 h2:=by rw[w7]at*;exact pP _ _ _ h1 h2
 ntrans x y z h1 h2:=by
  rw[w7]at*
  cases h3:Op.bytesLess x.1.1.var.toList z.1.1.var.toList with
  | false=>rfl
  | true=>
   cases h4:Op.bytesLess y.1.1.var.toList x.1.1.var.toList with
   | true=>rw[pP _ _ _ h4 h3]at h2;cases h2
   | false=>rw[rl _ _ h1 h4,h2]at h3;cases h3
theorem LG (blk off size:Nat) (w:World):CmpLays Tryz.prog 125 #[] ia 2 sZ blk off size w:=λm os dk _ x y=>by
 have:=LP x.1.1.var y.1.1.var x.1.2 y.1.2 x.2.1 y.2.1 x.2.2.1 y.2.2.1 (sortWorldK ia 2 w blk off m dk os)
 rw[Array.append_empty]
 exact this
theorem C3 {S:Nat->Prop} {w:World}:∀ {ps:List Bd} {us:List Value},bE S w (ps.map fj).flatten us->∃ zs:List ny,zs.map (·.1.1)=ps/\us=zs.flatMap ia/\∀ z∈zs,Rd S w (ai z.1.1.ac) z.1.2
 | [],us,h=>by
  have:=h.length
  simp at this
  exact⟨[],rfl,by simpa using this,by simp⟩
 | p::ps,us,h=>by
  match us,h with
  | u1::u2::us,⟨h1,h2,h3⟩=>
   obtain⟨zs,e1,e2,e3⟩:=C3 (ps:=ps) h3
   have ok1:p.var.size<=maxLen:=by cases h1 with | lit _ hv=>exact hv
   have Bi:io u2:=by obtain⟨ad,cap,e,_,_⟩:=h2.form;rw[e];exact True.intro
   refine⟨⟨(p,u2),ok1,Bi,h2.one⟩::zs,by rw[List.map_cons,e1],by rw[h1.aH,e2];rfl,λz hz=>?_⟩
   rcases mem_cons.1 hz with rfl | hz
   ·exact h2
   ·exact e3 z hz
theorem C4 {S:Nat->Prop} {w:World}:∀ {zs:List ny},(∀ z∈zs,Rd S w (ai z.1.1.ac) z.1.2)->bE S w ((zs.map (·.1.1)).map fj).flatten (zs.flatMap ia)
 | [],_=>trivial
 | z::zs,h=>⟨.lit _ z.2.1,h z yz,C4 λq hq=>h q (by simp[hq])⟩
theorem SV {J:WP} (V:aR J) (v:Value) (ps:List Bd) (hn:ps.length<=140737488355328):fc (ι:= {qs:List Bd // qs.Perm ps/\pF qs}) Tryz.prog J 124 [] [.lit v,.fn 125 []] [OB.row v 182 2 (ps.map fj)] (λ_=>.bF []) (λi=>[OB.row v 182 2 (i.1.map fj)]):=by
 intro S w0 R w vs hS hJ0 hH hk Z ha
 simp only[bi]at ha
 obtain⟨u,_,rfl,h1,u2,_,rfl,h2,rfl⟩:=ha
 obtain rfl:=h1.lit
 obtain rfl:u2= .func (.func 125) #[] #[]:=by
  simp only[Rel,bi]at h2
  obtain⟨_,rfl,rfl⟩:=h2
  rfl
 have hi:=Z.2.1 (OB.row u 182 2 (ps.map fj)) yz
 obtain⟨us,⟨kE,hrow⟩,hrd,h3⟩:=hi
 rcases hrow with⟨rfl,hz⟩ | ⟨g,cap,cur,rfl,hb,hg,er,dg,iP,ht⟩
 ·have Av:ps=[]:=by simpa using hz
  subst Av
  refine(AnyF.slices_SortFunc_none Tryz.sortB none 0 _ w).mono ?_
  rintro e w' ⟨rfl,rfl⟩
  exact⟨⟨[],.refl _,.nil⟩,_,rfl,by simp only[Rel,bi];exact⟨[],rfl,rfl⟩,hk,Z⟩
 ·obtain⟨zs,lD,rT,bw⟩:=C3 hrd
  have hlen:(ps.map fj).length=ps.length:=length_map _
  rw[hlen]at er ht kE
  obtain⟨d,hd⟩:∃ d:Array ny,d.toList=zs:=⟨zs.toArray,by simp⟩
  have l4:d.size=ps.length:=by rw[<-lD,<-hd];simp
  have hkB:∀ x:ny,(ia x).length=2:=λ_=>rfl
  have fe:∀ e:Array ny,(flatK ia 2 e).toList=e.toList.flatMap ia:=λe=>Et hkB oz e
  have l6:g<w.heap.size:=(Array.getElem?_eq_some_iff.1 hg).1
  have wG:∀ j,w.frozen? ⟨g,j,none⟩=false:=λj=>by simp[World.frozen?,hg]
  have hH:HoldsK ia 2 w g 0 d:=λj hj=>by
   refine⟨?_,wG _⟩
   have Ak:j<ps.length*2:=by rw[size_flatK,l4]at hj;exact hj
   have e1:cur.toList[j]?=some ((flatK ia 2 d)[j]!):=by
    have e2:(cur.toList.take (ps.length*2))[j]?=cur.toList[j]?:=by rw[List.getElem?_take,if_pos Ak]
    rw[<-e2,ht,rT,<-hd,<-fe d,Array.getElem?_toList,Array.getElem?_eq_getElem hj,getElem!_pos _ j hj]
   rw[Nat.zero_add]
   simp only[World.cell?,hg]
   simpa using e1
  have hcall:=AnyQ.slices_SortFunc Tryz.sortB 2 Tryz.isAgg182 Tryz.sizeOf182 ia hkB (λx v hv=>by
   simp only[ia,mem_cons,List.not_mem_nil,or_false]at hv
   rcases hv with rfl | rfl
   ·rfl
   ·exact x.2.2.2) sZ Wc 125 #[] g 0 cap d w (enters_of Tryz.func125 (by kernel_rfl) rfl) (LG g 0 d.size w) hH l6 oz
  rw[l4]at hcall
  rw[hlen]
  refine hcall.mono ?_
  rintro e w' ⟨rfl,d',n,os,hperm,Ay,rfl⟩
  have nW:d'.size=ps.length:=by rw[hperm.1,l4]
  have km:d'.toList.Perm d.toList:=by
   have h9:=hperm.2.2
   rw[show d'.extract 0 ps.length=d' by rw[<-nW];exact Array.extract_size,show d.extract 0 ps.length=d by rw[<-l4];exact Array.extract_size]at h9
   exact h9
  have wN:(d'.toList.map (·.1.1)).Perm ps:=by
   rw[<-lD,<-hd]
   exact km.map _
  have AC:pF (d'.toList.map (·.1.1)):=by
   unfold pF
   rw[List.pairwise_map,List.pairwise_iff_getElem]
   intro i j hi hj gR
   have h9:=Ay i j aI gR (by rw[<-nW];simpa using hj)
   rw[w7,getElem!_pos _ j (by simpa using hj),getElem!_pos _ i (by simpa using hi)]at h9
   rw[pU]
   simpa using h9
  have hheap:(sortWorldK ia 2 w g 0 n d' os).heap[g]?=some (.cells (putCells id 0 (flatK ia 2 d') cur) 182):=by
   show(grow (putRow id (Sort.ahead w n) g 0 (flatK ia 2 d')) os).heap[g]?=_
   rw[heap_grow_old _ _ (by simpa [Sort.ahead]using l6)]
   show((Sort.ahead w n).heap.modify g _)[g]?=_
   rw[Array.getElem?_modify,if_pos rfl]
   show(w.heap[g]?).map _=_
   rw[hg]
   rfl
  have hkk:Keeps (λk=>k≠g) w (sortWorldK ia 2 w g 0 n d' os):=by
   refine⟨?_,?_,?_,?_,?_⟩
   ·simp[sortWorldK,putRowK,grow,putRow,mapBlock,Sort.ahead]
   ·simp[sortWorldK,putRowK,grow,putRow,mapBlock,Sort.ahead]
   ·simp[sortWorldK,putRowK,grow,putRow,mapBlock,Sort.ahead]
   ·simp[sortWorldK,putRowK,grow,putRow,mapBlock,Sort.ahead]
   ·intro k hk hne
    show(grow (putRow id (Sort.ahead w n) g 0 (flatK ia 2 d')) os).heap[k]?=_
    rw[heap_grow_old _ _ (by simpa [Sort.ahead]using hk)]
    show((Sort.ahead w n).heap.modify g _)[k]?=_
    rw[Array.getElem?_modify,if_neg (λe=>hne e.symm)]
    rfl
  have qc:(flatK ia 2 d').size=ps.length*2:=by rw[size_flatK,nW]
  have hk0:Keeps All w0 (sortWorldK ia 2 w g 0 n d' os):=hk.yk hkk λk hk0 e=>by subst e;omega
  have hok':∀ z∈d'.toList,Rd (SO S ([OB.row (.slice (some ⟨g,0,none⟩) ps.length cap) 182 2 ((d'.toList.map (·.1.1)).map fj)]++R)) (sortWorldK ia 2 w g 0 n d' os) (ai z.1.1.ac) z.1.2:=λz hz=>
   (bw z (by rw[<-hd];exact km.mem_iff.1 hz)).move hkk λk _ hs=>⟨λe=>by
    refine hs.2 _ (mem_cons_self) ?_
    rw[e];rfl,hs.1,λp hp=>by
    rcases mem_cons.1 hp with rfl | hp
    ·exact λe=>hs.2 _ (mem_cons_self) e
    ·exact hs.2 p (mem_cons_of_mem _ hp)⟩
  have hinv:(OB.row (.slice (some ⟨g,0,none⟩) ps.length cap) 182 2 ((d'.toList.map (·.1.1)).map fj)).inv w0.heap.size (SO S ([OB.row (.slice (some ⟨g,0,none⟩) ps.length cap) 182 2 ((d'.toList.map (·.1.1)).map fj)]++R)) (sortWorldK ia 2 w g 0 n d' os):=by
   have hl2:((d'.toList.map (·.1.1)).map fj).length=ps.length:=by simp[nW]
   refine⟨d'.toList.flatMap ia,⟨?_,.inr ⟨g,cap,putCells id 0 (flatK ia 2 d') cur,by rw[hl2],hb,hheap,by rw[hl2];exact er,dg,by simpa [putCells]using iP,?_⟩⟩,C4 hok',λr hr=>by obtain⟨p,_,rfl⟩:=mem_map.1 hr;rfl⟩
   ·rw[hl2,<-fe d',Array.length_toList,qc]
   ·rw[hl2,<-fe d',<-qc]
    exact I3 cur _ (by rw[qc,iP];exact Nat.mul_le_mul_right _ er)
  refine⟨⟨d'.toList.map (·.1.1),wN,AC⟩,_,rfl,by simp only[Rel,bi];exact⟨[],rfl,rfl⟩,hk0,?_⟩
  have hx1:=Z
  rw[hlen]at hx1
  have:=uY (o':=OB.row (.slice (some ⟨g,0,none⟩) ps.length cap) 182 2 ((d'.toList.map (·.1.1)).map fj)) hx1 (V _ _ hk0 hJ0) (hkk.sub λk _ hk=>λe=>hk (by show(OB.row (.slice (some ⟨g,0,none⟩) ps.length cap) 182 2 (ps.map fj)).blk k;rw[e];rfl)) (λk hk=>.inl hk) hinv
  exact this.1
end Go.Proofs.YtdfadihhfppjaaaGreatDoor
namespace Go.Proofs.YtdfadihhfppjaaaGreatDoor
open Go.Proofs.Tryz (prog)
open Go.RowKit
theorem WD:prog.underlying 158=some (.map 9 22):=by kernel_rfl
theorem EE:db prog 92 0 0:=fO
theorem NS:db prog 92 1 3:=fO
theorem Bt {J:WP} (V:aR J) (mb:Nat) (Mb:BM) (d8:(Mb.map Prod.fst).Nodup) (Fo:∀ q'∈Mb.map (·.1),q'.size<=9223372036854775807) (tS:Mb.length<=100000):fc (ι:=Unit) prog J 96 [] [.lit (.map (some mb))] [OB.map aB cJ mb Mb] (λ_=>.rd (fq (bN Mb))) (λ_=>[OB.map aB cJ mb Mb]):=by
 refine ji Tryz.func96 λS w0 R hS hJ0 hH=>?_
 refine g5 (B:=So J S w0 22 (OB.map aB cJ mb Mb::R) [(0,.lit (.map (some mb)))]) ?_ λa w h=>h
 refine aj tb V [0] [_] [_] ?_
 refine aj tb V [0,1000] [_] U2 ?_
 refine af (aL (ao 1 tb Y (IU (Kd:=aB) (f:=cJ) (L:=Mb) WD V hJ0 Y Y Y (lb Y) (λa w h=>(h.get 0 Y)) λb1=>aA [0,3] U2 Y (nx (ax (tw (iJ 182 2 V) (lpo (ι:=Value×(List Bd)×(List BA)) (λ(_,out,vis)=>(out=vis.map (λs=>(⟨s,(aw Mb s).getD default⟩:Bd)))/\(vis.Nodup)/\(∀ q'∈vis,q'∈Mb.map (·.1))) (λ(v,out,vis)=>(OB.row v 182 2 (out.map fj)::OB.iter b1 aB cJ mb Mb vis::R)) (λ(v,_,_)=>[(3,.lit v)]) (λ(_,_,vis)=>Mb.length-vis.length) [0,1] [_] ((.slice none 0 0),([]:List Bd),([]:List BA)) ⟨Y,by simp,λq' h=>by simp at h⟩ ?_)))))))
 rintro⟨v,out,vis⟩ ⟨aQ,ah,bh⟩
 refine aL (kw bO (IQ (Kd:=aB) (f:=cJ) (L:=Mb) (vis:=vis) (λk' hk'=>Fo k' hk') V hJ0 Y Y Y (lb Y) (λa w h=>(h.get 0 Y)) λz2 Ab mW=>sy (.bool z2.1) (λh=>gt Y (h.get 0 Y) Y h.x) (aA [0,2,3] U3 Y (nx (cE 0 (λhb1=>?_) λhb1=>?_)))))
 ·have e5:=Gd ah bh
  have e6:out.length=vis.length:=by rw[aQ,length_map]
  refine tw (jr (congrArg (λz'=>OB.iter b1 aB cJ mb Mb (z')) (show(if z2.1 then vis++[z2.2]else vis)=(vis++[z2.2])from by rw[hb1];rfl))) (ak (nx (ax (au tb V [1,2,1002,1003,1004] [.bF [.str z2.2,.rd (ai ((aw Mb z2.2).getD default))],_,_,_,_] [0] U5 Y ⟨λ_ _ _ Z hl _=>HS (Kd:=aB) (f:=cJ) (L:=Mb) (k:=z2.2) Y (aG Z (mo 0 Y)) (Fo z2.2 (by have:=(mW hb1).2;rw[lH]at this;simpa using this)) (hl.env 1 7 _ Y Y) Z,U⟩ ?_))))
  refine ln 2 λ_=>?_
  refine cC (ao 3 tb Y (sq (.agg (fj (⟨z2.2,((aw Mb z2.2).getD default)⟩:Bd))) Y Y (lb Y) (λa _ h=>gq (us:=[a.eval (.tmp 14),a.eval (.tmp 15)]) yO Y yz (b6 (h.get 1 Y) (b6 (h.get 0 Y) cM)) Y h.x) (sy (.rd (fq ([(⟨z2.2,((aw Mb z2.2).getD default)⟩:Bd)]))) (λh=>nl p6 Ct dz Y Y (h.get 0 Y) (aK hS _ h.keep h.x _ aV) (jo V h.x)) ?_)))
  refine kw bO (fN (f:=fj) (m:=4) (s:=13) out ([(⟨z2.2,((aw Mb z2.2).getD default)⟩:Bd)]) (λ_=>Y) yH V hJ0 Y Y Y (lb Y) Y Y (λa w h=>(h.get 0 Y)) (by simp;omega) (by simp;omega) λv3=>?_)
  refine ao 1 tb Y (aA [0,2,7] U3 Y (br (v3,out++([(⟨z2.2,((aw Mb z2.2).getD default)⟩:Bd)]),vis++[z2.2]) [2,0] ⟨by rw[aQ,List.map_append];rfl,by rw[List.nodup_append];exact⟨ah,by simp,λx Z y hy e=>by rw[List.mem_singleton.1 hy]at e;subst e;exact(mW hb1).1 Z⟩,λq' hq'=>by rcases List.mem_append.1 hq' with h | h;exact bh q' h;rw[List.mem_singleton.1 h];have:=(mW hb1).2;rw[lH]at this;simpa using this⟩ (hm:=(show Mb.length-(vis++[z2.2]).length<Mb.length-vis.length from QU ah bh (mW hb1)))))
 ·have e5:=Gd ah bh
  have e6:out.length=vis.length:=by rw[aQ,length_map]
  have e7:=QV d8 ah bh (Ab hb1)
  refine tw (jr (congrArg (λz'=>OB.iter b1 aB cJ mb Mb (z')) (show(if z2.1 then vis++[z2.2]else vis)=vis from by rw[hb1];rfl))) (aW (nx (aL (ao 1 tb Y (kw bO (iI (O:=[OB.row v 182 2 (out.map fj)]) (R:=(OB.iter b1 aB cJ mb Mb vis::R)) (SV V v out oz) (cO Tryz.func124) Y Y Y (lb Y) hS hJ0 b8 (λa w h=>(aq (h.get 0 Y) (aq (np 125) aN))) λz4=>aA [4] [_] Y (nx (aj tb V [1001] U2 [_] ?_))))))))
  refine tw (λh=>dU hS h (m:=0) (s:=2) Y) (tw IX (aX (λa w h=>dx  (m:=0) () Y h Y (congrArg (λz=>AV.rd (fq z)) (show z4.1=(bN Mb)from Q0 d8 (z4.2.1.trans (aQ▸e7)) z4.2.2)))))
theorem Hh {J:WP} (V:aR J) (d:Db) (i:Nat) (ss:List Stp) (ts:List (List BA)) (M:Nat) (gf:Fr) (al:List Int) (step:Nat) (fe:∀ h∈gf.aa,h.bn=true->h.ac.length=2) (hi:i<d.ab.length) (jZ:∀ t∈ts,1<=t.length/\t.length<=2000) (k3:∀ j,j<al.length->0<=G al j/\G al j< (ts.length:Int)) (l6:al.length=gf.aa.length) (hst:step<ts.length) (wH:gf.aa.length<=2000) (hsz:∀ h∈gf.aa,∀ s∈h.ac,s.size<=60) (qn:(G d.ab i).wide.length*32<=140737488351232):Fn prog J 68 [.ptr (jC d i ss ts M),.agg (a8 gf),.rd (bQ al),.int (step:Nat)] (.bool (fF (⟨d,i,ss,ts,[]⟩:Jb) gf al step)):=by
 refine fE Tryz.func68 λS w0 hS hJ0=>?_
 refine tw cc (ln 2 λcr=>?_)
 have het:∀ t∈(bg ts al),1<=t.length/\t.length<=2000:=zu jZ k3
 have tM:(bg ts al).length=gf.aa.length:=by rw[rt];exact l6
 have rL:=Aa (hs:=gf.aa) (es:=(bg ts al)) (p:=λt=>t.length<=2000) (λt ht=>by have:=het t ht;rw[length_drop];omega) tM
 have Fk:∀ k,k<=gf.aa.length->∀ q'∈(d7 gf.aa (bg ts al) k).map (·.1),q'.size<=9223372036854775807:=λk hk q' hq'=>by obtain⟨x,Z,rfl⟩:=mem_map.1 hq';obtain⟨h,hh,hf,e⟩:=(rL k hk x Z).2;have h8:=fe h hh hf;have h9:=hsz h hh (G h.ac 1) (aE oz);rw[e];omega
 refine au tb V [0,2,3,1000] [.ptr (a8 gf),_] [0] U4 Y ⟨cY hS V,U⟩ ?_
 refine aL (qR aB cJ V Y Y Y (lb Y) λm1=>ao 1 tb (env':=[(9,_),(21,_),(0,_),(2,_),(3,_),(5,_)]) Y (aA [0,2,3,4,5] U5 Y (nx (af (au tb V (r5 [1001,1002,1003]) [_,_,.int (gf.aa.length:Nat),_] [2] U8 Y ⟨aC cW,U⟩ ?_)))))
 refine ln 5 λ_=>?_
 refine ax (lpo (ι:=Nat×BM) (λ(k,Mb)=>(k<=gf.aa.length)/\(Mb=d7 gf.aa (bg ts al) k)/\(∀ j,j<k->fg gf.aa (bg ts al) 0 j=true)) (λ(_,Mb)=>[OB.map aB cJ m1 Mb]) (λ(k,_)=>[(25,.int (k:Nat))]) (λ(k,_)=>gf.aa.length-k) (r8 []) U7 (0,([]:List (BA×List BA))) ⟨aI,Y,λj hj=>by omega⟩ ?_)
 rintro⟨k,Mb⟩ ⟨aQ,ah,bh⟩
 refine aj tb V (r8 [1000]) [_] U9 ?_
 refine cE 8 ?_ ?_<;>intro hb1<;>try simp at hb1
 ·have e0:G (bg ts al) k=(G ts (G al k).toNat):=ti oz
  have e1:=k3 k oz
  refine ak (nx (af (ax (aL (ao 1 tb (env':=[(27,_),(9,_),(0,_),(2,_),(3,_),(5,_),(23,_),(24,_),(25,_),(26,_)]) Y (sy (.ptr (aP (G gf.aa k))) (λh=>cb (i:=(k:Int)) cL Y (h.get 6 Y) (h.get 8 Y) bK (cl (xs:=gf.aa) (k:=k) ay) Y h.x) ?_))))))
  refine ao 1 tb (env':=[(29,_),(28,_),(27,_),(9,_),(0,_),(2,_),(3,_),(5,_),(23,_),(24,_),(25,_),(26,_)]) Y (cx kR V Y Y Y (lb Y) λb2=>ao 1 tb (env':=[(10,_),(11,_),(29,_),(28,_),(27,_),(9,_),(0,_),(2,_),(3,_),(5,_),(23,_),(24,_),(25,_),(26,_)]) Y (ce (b:=b2) (off:=0) (es:=U3) (news:=U3) V hJ0 jx Y Y Y (lb Y) Y (λa w h=>⟨(h.get 1 Y),(h.get 2 Y)⟩) (kw (λh=>fB hS h (m:=1) (s:=11) Y) (aA [0,1,5,6,7,8,9,10,11,12] fp Y (nx (af (aj tb V (ml [1002]) U3 lm ?_)))))))
  refine cj 10 ?_ ?_<;>intro hb2<;>try simp at hb2
  ·refine aW (nx (aT tb V [2,3,4,5,6,7,8,1001] [.int (k+1:Nat),_] [0] U8 Y ⟨aM,U⟩ ?_))
   exact br (k+1,Mb) (r8 []) ⟨oz,by first | (rw[d7,if_neg (by simp[hb2]),<-ah];done) | (rw[d7,if_pos hb2,<-ah,e0]),cB bh (by first | (simp[fg,hb2];done) | (simp only[fg,Nat.zero_add,e0];simpa [hb2]using aD))⟩
  ·have e3:(G gf.aa k).ac.length=2:=fe _ (aE oz) hb2
   have e4:=jZ _ (aE (xs:=ts) (k:=(G al k).toNat) oz)
   refine ak (nx (au tb V [0,2,3,4,5,6,7,8,9,1003,1009,1010] (V6 [.ptr [lI (G al k)],_,.ptr [ai (G ts (G al k).toNat)],_,_]) [6,8] nE Y ⟨bq c8,wT eG,U⟩ ?_))
   refine ln 9 λ_=>?_
   refine ln 10 λ_=>?_
   refine af (au tb V (r9 [11,1004,1007]) [_,.ptr [lS (G (G ts (G al k).toNat) 0)],_,_,_,.ptr [lS (G ((G gf.aa k).ac) 0)],_,_] [1,5] nE Y ⟨bq (k:=0) bz,bq (k:=0) bz,U⟩ ?_)
   refine ln 10 λ_=>?_
   refine cj 11 ?_ ?_<;>intro aD
   ·have e5:fg gf.aa (bg ts al) 0 k=false:=by simp only[fg,Nat.zero_add,e0,Bool.or_eq_false_iff,Bool.not_eq_false',decide_eq_false_iff_not];exact⟨by simpa using hb2,by simpa using aD⟩
    have eU:fF (⟨d,i,ss,ts,[]⟩:Jb) gf al step=false:=Ow (j:=(⟨d,i,ss,ts,[]⟩:Jb)) oz e5
    refine aj tb V [1000] [_] [_] ?_
    exact bH 0 (hE:=eB (by first | (rw[eU];done) | (rw[eU,e6])))
   ·refine ak (nx (λa w h=>iF (γ:=Unit) (λix'=>([.lit (.map (some m1)),.ptr [ai ((G gf.aa k).ac)],.rd (ai ((G gf.aa k).ac)),.ptr [lS (G ((G gf.aa k).ac) 1)],.str (G ((G gf.aa k).ac) 1),.rd (ai (G ts (G al k).toNat)),.rd (ai ((G ts (G al k).toNat).drop 1)),.any]:List AV).getD ix' .any) (λ_=>true) [(9,λ_=>.lit (.map (some m1))),(0,λ_=>.ptr (jC d i ss ts M)),(2,λ_=>.rd (bQ al)),(3,λ_=>.int (step:Nat)),(5,λ_=>.ptr (a8 gf)),(23,λ_=>.rd (bX gf.aa)),(24,λ_=>.int (gf.aa.length:Nat)),(25,λ_=>.int (k:Nat))] (λj' _=>match j' with | 0=>[OB.map aB cJ m1 Mb] | _=>[OB.map aB cJ m1 (cn Mb (G ((G gf.aa k).ac) 1) ((G ts (G al k).toNat).drop 1))]) (λ_ _=>undef) [7] 0 () (λ_=>Y) h V cU Y Y Y Y Y Y hsb ⟨oX Y λZ hl=>b9 Y (hl.env 1 9 _ Y Y) Z,oX Y λZ hl=>cd lX Y (hl.env 0 11 _ Y Y) Z,oX Y λZ hl=>bU ip Y (hl.D 1 52 Y Y) Z,?_,oX Y λZ hl=>bU fh Y (hl.D 3 54 Y Y) Z,oX Y λZ hl=>b9 Y (hl.env 9 12 _ Y Y) Z,?_,bC Y,U⟩ ⟨?p5,U⟩ ⟨.old 1 9 _,.old 2 0 _,.old 3 2 _,.old 4 3 _,.old 5 5 _,.old 6 23 _,.old 7 24 _,.old 8 25 _,U⟩ ?Ba))
    exact oX Y λZ hl=>cb (i:=((1:Nat):Int)) bz Y (hl.D 2 53 Y Y) (Rel.aH (.int .i64 1)) bK (cl (xs:=(G gf.aa k).ac) (k:=1) ay) Y Z
    exact oX Y λZ hl=>iW (ys:=(G ts (G al k).toNat).drop 1) (lo:=1) (hi:=(G ts (G al k).toNat).length) (by rw[take_length]) bz (λ_=>Y) Y (hl.D 5 56 Y Y) (Rel.aH (.int .i64 1)) Y ay ay Z
    case p5=>exact⟨_,Y,Y,Y,Y,λg _ w hk Z hl _=>bD (pW (f:=cJ) rY V hJ0 (G ((G gf.aa k).ac) 1) ((G ts (G al k).toNat).drop 1) (.inl Y) hk Z (hl.D 0 51 Y Y) (hl.D 4 55 Y Y) (hl.D 6 57 Y Y)) λv w' ⟨_,hp⟩=>⟨g,Y,λ_ _=>rfl,λe=>(by cases e),hp⟩⟩
    clear a w h
    intro _
    dsimp only[List.map]
    refine nx (aT tb V (r7 [1001]) [.int (k+1:Nat),_] [0] U8 Y ⟨aM,U⟩ ?_)
    exact br (k+1,cn Mb (G ((G gf.aa k).ac) 1) ((G ts (G al k).toNat).drop 1)) (r8 []) ⟨oz,by first | (rw[d7,if_neg (by simp[hb2]),<-ah];done) | (rw[d7,if_pos hb2,<-ah,e0]),cB bh (by first | (simp[fg,hb2];done) | (simp only[fg,Nat.zero_add,e0];simpa [hb2]using aD))⟩
 ·have e6:Mb=d7 gf.aa (bg ts al) gf.aa.length:=by rw[ah,show k=gf.aa.length by omega]
  refine aW (nx (af (au tb V (r5 [1001,1002,1003]) [_,_,.int (gf.aa.length:Nat),_] [2] U8 Y ⟨aC cW,U⟩ ?_)))
  refine ax (lpo (ι:=Nat) (λk=>(k<=gf.aa.length)/\(∀ j,j<k->mc gf.aa (d7 gf.aa (bg ts al) gf.aa.length) (bg ts al) j=true)) (λ_=>[OB.map aB cJ m1 Mb]) (λk=>[(62,.int (k:Nat))]) (λk=>gf.aa.length-k) (r8 []) U7 0 ⟨aI,λj hj=>by omega⟩ ?_)
  rintro k ⟨fD,bu⟩
  refine aj tb V (r8 [1000]) [_] U9 ?_
  refine cE 8 ?_ ?_<;>intro bd<;>try simp at bd
  ·have e0:G (bg ts al) k=(G ts (G al k).toNat):=ti oz
   have e1:=k3 k oz
   refine ak (nx (af (ax (aL (ao 1 tb (env':=[(64,_),(9,_),(0,_),(2,_),(3,_),(5,_),(60,_),(61,_),(62,_),(63,_)]) Y (sy (.ptr (aP (G gf.aa k))) (λh=>cb (i:=(k:Int)) cL Y (h.get 6 Y) (h.get 8 Y) bK (cl (xs:=gf.aa) (k:=k) ay) Y h.x) ?_))))))
   refine ao 1 tb (env':=[(66,_),(65,_),(64,_),(9,_),(0,_),(2,_),(3,_),(5,_),(60,_),(61,_),(62,_),(63,_)]) Y (cx kR V Y Y Y (lb Y) λb3=>ao 1 tb (env':=[(13,_),(14,_),(66,_),(65,_),(64,_),(9,_),(0,_),(2,_),(3,_),(5,_),(60,_),(61,_),(62,_),(63,_)]) Y (ce (b:=b3) (off:=0) (es:=U3) (news:=U3) V hJ0 jx Y Y Y (lb Y) Y (λa w h=>⟨(h.get 1 Y),(h.get 2 Y)⟩) (kw (λh=>fB hS h (m:=1) (s:=14) Y) (aA [0,1,5,6,7,8,9,10,11,12] fp Y (nx (au tb V [0,2,3,4,5,6,7,8,9,1003,1007,1013,1018] (pC [.ptr [lI (G al k)],_,.ptr [ai (G ts (G al k).toNat)],_,.bF [.bool ((ci gf.aa Mb ((G gf.aa k).ac) (G ts (G al k).toNat)).1),.bool ((ci gf.aa Mb ((G gf.aa k).ac) (G ts (G al k).toNat)).2)],_,_,_,_,_]) [10,12,14] [_,_,_,_,_,_,_,_,_,_,_,_,_] Y ⟨bq c8,wT eG,λ_ _ hk Z hl _=>dv (Bq V m1 Mb gf ((G gf.aa k).ac) (G ts (G al k).toNat) (by exact fe)) (cO Tryz.func94) Y (aK hS _ hk Z) (Z.1) (dJ (aG Z (mo 0 Y)) b8) (aq (hl.D 0 68 Y Y) (aq (hl.D 1 69 Y Y) (aq (hl.D 3 71 Y Y) (aq (hl.D 13 81 Y Y) aN)))) (jo V Z),U⟩ ?_))))))
   refine ln 9 λ_=>?_
   refine ln 10 λ_=>?_
   refine ln 11 λ_=>?_
   refine aj tb V [1,2,3,4,5,6,7,8,1006] U7 U9 ?_
   refine cj 8 ?_ ?_<;>intro bW
   ·have e7:mc gf.aa (d7 gf.aa (bg ts al) gf.aa.length) (bg ts al) k=false:=by simp only[mc,e0];rw[<-e6];cases h9:(G gf.aa k).bn<;>simp_all
    have eU:fF (⟨d,i,ss,ts,[]⟩:Jb) gf al step=false:=Ov (j:=(⟨d,i,ss,ts,[]⟩:Jb)) oz e7
    refine aj tb V [1000] [_] [_] ?_
    exact bH 0 (hE:=eB (by first | (rw[eU];done) | (rw[eU,e6])))
   ·refine ak (nx (aT tb V (r7 [1001]) [.int (k+1:Nat),_] [0] U8 Y ⟨aM,U⟩ ?_))
    exact br (k+1) (r8 []) ⟨oz,cB bu (by simp only[mc,e0];rw[<-e6];cases h9:(G gf.aa k).bn<;>simp_all)⟩
  ·refine aW (nx (af (au tb V [0,1,4,1003,1007,1010,1015] (V9 [.ptr [ai (G ts step)],_,.bF [.bool ((ci gf.aa Mb gf.ac (G ts step)).1),.bool ((ci gf.aa Mb gf.ac (G ts step)).2)],_,_,_,_,_]) [9,11] U7 Y ⟨bq eG,λ_ _ hk Z hl _=>dv (Bq V m1 Mb gf gf.ac (G ts step) (by exact fe)) (cO Tryz.func94) Y (aK hS _ hk Z) (Z.1) (dJ (aG Z (mo 0 Y)) b8) (aq (hl.D 0 94 Y Y) (aq (hl.D 1 95 Y Y) (aq (hl.D 3 97 Y Y) (aq (hl.D 10 104 Y Y) aN)))) (jo V Z),U⟩ ?_)))
   refine ln 3 λ_=>?_
   refine ln 4 λ_=>?_
   refine ln 5 λ_=>?_
   refine aj tb V [0,1,2,1001] U2 U4 ?_
   refine cj 3 ?_ ?_<;>intro eW<;>try simp at eW
   ·have eU:fF (⟨d,i,ss,ts,[]⟩:Jb) gf al step=false:=Ou (j:=(⟨d,i,ss,ts,[]⟩:Jb)) (by show(ci gf.aa (d7 gf.aa (bg ts al) gf.aa.length) gf.ac (G ts step)).1=false;rw[<-e6];exact eW)
    refine aj tb V [1000] [_] [_] ?_
    exact bH 0 (hE:=eB (by first | (rw[eU];done) | (rw[eU,e6])))
   ·have eU:fF (⟨d,i,ss,ts,[]⟩:Jb) gf al step= !eQ (bN (d7 gf.aa (bg ts al) gf.aa.length)) gf.apart d.vars (G d.ab i).wide:=Ox (j:=(⟨d,i,ss,ts,[]⟩:Jb)) (λq hq=>bh q oz) (λq hq=>bu q oz) (by show(ci gf.aa (d7 gf.aa (bg ts al) gf.aa.length) gf.ac (G ts step)).1=true;rw[<-e6];exact eW)
    refine ak (nx (af (λa w h=>lg [] (γ:=Value×Nat) (λix'=>([.lit (.map (some m1)),.rd (fq (bN Mb)),.ptr [bM gf.apart,ai gf.ac,bX gf.bB,bM gf.wide,ai gf.proof],.rd (bM gf.apart),.ptr (jC d i ss ts M),.ptr (jC d i ss ts M),.ptr (jC d i ss ts M),.ptr [ai d.vars,dX d.ab,lI (i:Int),aY ss,cu ts,lI (((dd ss):Nat):Int),.lit (.map (some M))],.rd (ai d.vars),.ptr (jC d i ss ts M),.ptr (jC d i ss ts M),.ptr (jC d i ss ts M),.ptr [dX d.ab,lI (i:Int),aY ss,cu ts,lI (((dd ss):Nat):Int),.lit (.map (some M))],.rd (dX d.ab),.ptr (jC d i ss ts M),.ptr (jC d i ss ts M),.ptr [lI (i:Int),aY ss,cu ts,lI (((dd ss):Nat):Int),.lit (.map (some M))],.int (i:Nat),.ptr (a8 (G d.ab i)),.ptr [bM ((G d.ab i).wide),ai ((G d.ab i).proof)],.rd (bM ((G d.ab i).wide)),.bF [.agg (aS (fJ (bN Mb) gf.apart d.vars ((G d.ab i).wide))),.bool (eQ (bN Mb) gf.apart d.vars ((G d.ab i).wide))],.bF [.agg (aS (fJ (bN Mb) gf.apart d.vars ((G d.ab i).wide))),.bool (eQ (bN Mb) gf.apart d.vars ((G d.ab i).wide))],.agg (aS (fJ (bN Mb) gf.apart d.vars ((G d.ab i).wide))),.bool (eQ (bN Mb) gf.apart d.vars ((G d.ab i).wide)),.any,.any,.bool (eQ (bN Mb) gf.apart d.vars ((G d.ab i).wide))]:List AV).getD ix' .any) (λ_=>true) [(20,λ_=>.bool (eQ (bN Mb) gf.apart d.vars ((G d.ab i).wide)))] (λ(b:List Bool) (g:Value×Nat)=>(bif b.getD 2 false then [OB.var g.2 (aS (fJ (bN Mb) gf.apart d.vars ((G d.ab i).wide)))]else(bif b.getD 1 false then [OB.var g.2 [lS (⟨#[]⟩:BA),lS (⟨#[]⟩:BA)]]else []))++([OB.map aB cJ m1 Mb]++([]))) (λk' g=>match k' with | 0=>g.1 | 1=>(.pointer (some ⟨g.2,0,none⟩)) | _=>undef) [1,25,26] (undef,0) (λ_=>Y) h V cU Y Y Y Y (λb g p hp=>(mem_append_right _ (mem_append_right _ hp))) ⟨oX Y λZ hl=>b9 Y (hl.env 0 9 _ Y Y) Z,bC Y,oX Y λZ hl=>cd zI Y (hl.env 2 5 _ Y Y) Z,oX Y λZ hl=>bU sj Y (hl.D 2 113 Y Y) Z,oX Y λZ hl=>b9 Y (hl.env 1 0 _ Y Y) Z,oX Y λZ hl=>kJ Y (hl.D 4 115 Y Y) Z,oX Y λZ hl=>cd EE Y (hl.D 5 116 Y Y) Z,oX Y λZ hl=>cd zF Y (hl.D 6 117 Y Y) Z,oX Y λZ hl=>bU ip Y (hl.D 7 118 Y Y) Z,oX Y λZ hl=>b9 Y (hl.env 1 0 _ Y Y) Z,oX Y λZ hl=>kJ Y (hl.D 9 120 Y Y) Z,oX Y λZ hl=>cd EE Y (hl.D 10 121 Y Y) Z,oX Y λZ hl=>cd qa Y (hl.D 11 122 Y Y) Z,oX Y λZ hl=>bU qA Y (hl.D 12 123 Y Y) Z,oX Y λZ hl=>b9 Y (hl.env 1 0 _ Y Y) Z,oX Y λZ hl=>kJ Y (hl.D 14 125 Y Y) Z,oX Y λZ hl=>cd NS Y (hl.D 15 126 Y Y) Z,oX Y λZ hl=>bU gd Y (hl.D 16 127 Y Y) Z,?_,oX Y λZ hl=>cd zJ Y (hl.D 18 129 Y Y) Z,oX Y λZ hl=>bU sj Y (hl.D 19 130 Y Y) Z,?_,oX Y λZ hl=>b9 Y (hl.D 21 132 Y Y) Z,oX Y λZ hl=>gt Y (hl.D 22 110 Y Y) Y Z,oX Y λZ hl=>gt Y (hl.D 22 110 Y Y) Y Z,bC Y,bC Y,oX Y λZ hl=>gY Y (hl.D 24 134 Y Y) Z,U⟩ ⟨?Mu,?Mv,?Mw,U⟩ ⟨.new 27 20 _,U⟩ ?X8)))
    exact oX Y λZ hl=>cb (i:=(i:Int)) fT Y (hl.D 13 124 Y Y) (hl.D 17 128 Y Y) bK (cl (xs:=d.ab) (k:=i) ay) Y Z
    exact oY Y λhk Z hl=>cV (GY V (bN Mb) gf.apart d.vars ((G d.ab i).wide) (by rw[e6];exact Gf (p:=λt=>t.length<=2000) λq hq=>(rL _ aV q hq).1) (by exact qn)) (cO Tryz.func95) Y (aK hS _ hk Z) (Z.1) (aq (hl.D 1 112 Y Y) (aq (hl.D 3 114 Y Y) (aq (hl.D 8 119 Y Y) (aq (hl.D 20 131 Y Y) aN)))) (jo V Z)
    case Mu=>exact eE [[false,false,false],[false,true,false]] yq Y Y Y Y ⟨λg _ w hk Z hl hs=>bD (pV (O:=[OB.map aB cJ m1 Mb]) (R:=[]) (Bt V m1 Mb (by rw[e6];exact wB _) (by rw[e6];exact Fk _ aV) (by have:=z8 (hs:=gf.aa) (es:=(bg ts al)) gf.aa.length;rw[e6];omega)) (cO Tryz.func96) Y hS hJ0 b8 hk Z (aq (hl.D 0 111 Y Y) aN)) λv w' ⟨i,hp,hv⟩=>⟨(v,g.2),dZ,λ_=>rfl,hv,hp⟩,λg _ w hk Z hl hs=>bD (pV (O:=[OB.map aB cJ m1 Mb]) (R:=[OB.var g.2 [lS (⟨#[]⟩:BA),lS (⟨#[]⟩:BA)]]) (Bt V m1 Mb (by rw[e6];exact wB _) (by rw[e6];exact Fk _ aV) (by have:=z8 (hs:=gf.aa) (es:=(bg ts al)) gf.aa.length;rw[e6];omega)) (cO Tryz.func96) Y hS hJ0 b8 hk (fR (eM (A:=[OB.var g.2 [lS (⟨#[]⟩:BA),lS (⟨#[]⟩:BA)]])) Z) (Ip (eM (A:=[OB.var g.2 [lS (⟨#[]⟩:BA),lS (⟨#[]⟩:BA)]])) (aq (hl.D 0 111 Y Y) aN))) λv w' ⟨i,hp,hv⟩=>⟨(v,g.2),dZ,λ_=>rfl,(hv.sub λ_ _ hs=>hs.perm (eM (A:=[OB.var g.2 [lS (⟨#[]⟩:BA),lS (⟨#[]⟩:BA)]])).symm),kM (eM (A:=[OB.var g.2 [lS (⟨#[]⟩:BA),lS (⟨#[]⟩:BA)]])).symm (eM (A:=[OB.var g.2 [lS (⟨#[]⟩:BA),lS (⟨#[]⟩:BA)]])).symm hp⟩,U⟩
    case Mv=>exact eE [[false,false,false],[true,false,false]] yq Y Y Y Y ⟨λg _ w hk Z _ _=>bD (gD nw V Y hk Z) λv w' ⟨b',hv,hp⟩=>⟨(g.1,b'),dZ,λ_=>hv,True.intro,hp⟩,λg _ w hk Z _ _=>bD (gD nw V rfl hk Z) λv w' ⟨b',hv,hp⟩=>⟨(g.1,b'),dZ,λ_=>hv,True.intro,hp⟩,U⟩
    case Mw=>exact eE [[true,true,false]] yq Y Y Y Y ⟨λg a w hk Z hl hs=>(by obtain⟨eP,hv2,eh⟩:=jw (hl.D 23 133 Y Y);exact bD (iw (S':=S) (off:=0) (news:=U2) (es:=U2) (us:=eP) V hJ0 j6 Y hk Z (kt (hs 1 25 _ 19 Y Y Y Y)) (by rw[hv2];rfl) eh (lb Y) Y) λv w' hp=>⟨g,λ_ _=>rfl,λe=>(by cases e),True.intro,hp⟩),U⟩
    clear a w h
    rintro⟨x4,b5⟩
    dsimp only[List.map]
    refine kw cK (nx (aj tb V [1002] U3 [_] ?_))
    exact bH 0 (hE:=eB (by first | (rw[eU];done) | (rw[eU,e6])))
end Go.Proofs.YtdfadihhfppjaaaGreatDoor
namespace Go.Proofs.YtdfadihhfppjaaaGreatDoor
open Go.RowKit
section
variable {n:Rn} {P:Program} {l:List Oper} {Q:Exit->Act->WP}
variable {N:Nat} {J:WP} {S:Nat->Prop} {O:List OB} {w0:World} {env:List (Nat×AV)} {am:Nat->AV} {conds:Nat->Bool} {T:Array Value} {γ:Type}
theorem RInv.wanted {K S1 S:Nat->Prop} {X:WP} {b:Nat->Bool} {a:Act} {w:World} (h:RInv K S1 S w0 N env X l am conds T b a w) (hN:jg l N=true) {i:Nat} {o:Oper} (hd:∀ j∈cp o,b j=true) (hg:lO l am conds i o) (hc:conds i=true):Region.wanted o (yielded l.toArray a.tmps)=true:=by
 unfold Region.wanted
 unfold lO at hg
 split
 ·rfl
 ·rename_i j pol k5
  rw[k5]at hg
  obtain⟨g,p,d,hj,km,cR,l3,tL⟩:=hg
  rw[hc]at l3
  have tJ:conds j=true/\(g==pol)=true:=by simpa using l3.symm
  have oS:j∈cp o:=by simpa using tL
  have hrel:=h.new j p d hj km (hd j oS) tJ.1
  rw[cR]at hrel
  have ei:=hrel.lit
  have hlt:d<a.tmps.size:=by rw[h.size];exact ix hN hj km
  have dD:a.tmps[d]?=some (.bool g):=by
   rw[Array.getD_eq_getD_getElem?,Array.getElem?_eq_getElem hlt]at ei
   rw[Array.getElem?_eq_getElem hlt];simpa using ei
  have tP:g=pol:=by simpa using tJ.2
  simp only[yielded,List.getElem?_toArray,hj,Option.bind_some,km,dD,tP]
  simp
def CC {μ:Type} (pv:μ->Value) (O3:μ->List OB) (n:Rn) (P:Program) (J:WP) (S:Nat->Prop) (w0:World) (env:List (Nat×AV)) (l:List Oper) (am:Nat->AV) (conds:Nat->Bool) (ck:(Nat->Bool)->γ->List OB) (sv:Nat->γ->Value) (ch:List Nat) (k i:Nat):Prop:=
 ∃ o,l[i]?=some o/\lO l am conds i o/\conds i=true/\
  ∀ D g a w,D k=false->(∀ k' i',ch[k']?=some i'->under l l.length i i'=true->D k'=true)->(∀ k1 k2 i1 i2,ch[k1]?=some i1->ch[k2]?=some i2->D k1=true->under l l.length i1 i2=true->D k2=true)->
   Keeps All w0 w->XO J S w0.heap.size (ck D g) w->Look (SO S (ck D g)) w env l am conds i a->(∀(k' i':Nat) (o':Oper) (d:Nat),D k'=true->ch[k']?=some i'->l[i']?=some o'->o'.dst=some d->a.eval (.tmp d)=sv k' g)->
   nA n P o a w (λv w'=>∃ g',(∀ k',D k'=true->sv k' g'=sv k' g)/\(o.dst.isSome=true->v=sv k g')/\Rel (SO S (ck (gH D k) g')) w' (am i) v/\dc J S w0 (ck D g) w (ck (gH D k) g') w') (λc w'=>∃ q,c=eY (pv q)/\dc J S w0 (ck D g) w (O3 q) w')
theorem UE {μ:Type} (pv:μ->Value) (O3:μ->List OB) (Or:List OB) {id:Nat} {draw:Bool} {a:Act} {w:World} (am:Nat->AV) (conds:Nat->Bool) (env':List (Nat×(γ->AV))) (ck:(Nat->Bool)->γ->List OB) (sv:Nat->γ->Value) (ch:List Nat) (g0:γ) (h0:∀ g,ck (λ_=>false) g=O)
 (h:So J S w0 N O env a w) (V:aR J) (hm:P.follows .mixedOrders=true) (hu:jP l=true) (hN:jg l N=true) (hback:lq l=true) (d8:qy ch=true)
 (hsub:∀ D g p,p∈Or->p∈ck D g) (ob:lk (nC n P J S Or w0 env l am conds ch) 0 l) (d6:mx (CC pv O3 n P J S w0 env l am conds ck sv ch) 0 ch) (hf:lj env l am conds sv ch env')
 (od:∀ q a w,So J S w0 N (O3 q) [] a w->Q (.panic (eY (pv q))) a w)
 (hq:∀ g a w,So J S w0 N (ck (λk=>decide (k<ch.length)) g) (env'.map λp=>(p.1,p.2 g)) a w->Q .normal a w):(Code.region id l.toArray draw).wpIn n.F n.d P Q a w:=by
 have start:∀ w',Keeps All w w'->u5 J S w0 N env l am conds a.tmps ck sv ch (λ_=>false) g0 (λ_=>false) a w':=λw' hk=>
  ⟨by
   rw[h0]
   exact⟨h.defs,h.size,h.keep.trans hk,fo V _ _ hk h.x,λ_ _=>rfl,λ_ _ _ _ _ e _=>(by cases e),λ_ _ _ _ _ e _=>(by cases e),λ_ _ _ e=>(by cases e),λ_ h=>h,λp hp=>⟨(h.env p hp).1,(h.env p hp).2.on hk⟩⟩,
   λ_ _ _=>rfl,λ_ _=>rfl,λ_ _ _ _ hk=>by cases hk⟩
 have oU:∀(k k' i:Nat),ch[k]?=some i->ch[k']?=some i->k=k':=λk k' i h1 h2=>by
  have g1:=all_eq_true.1 d8 (i,k) (by rw[List.mem_zipIdx_iff_getElem?];simpa using h1)
  have g2:=all_eq_true.1 g1 (i,k') (by rw[List.mem_zipIdx_iff_getElem?];simpa using h2)
  simpa using g2
 refine xH (Pn:=λc a' w'=>∃ q,c=eY (pv q)/\So J S w0 N (O3 q) [] a' w') (I:=λb a' w'=>∃ D g,u5 J S w0 N env l am conds a.tmps ck sv ch D g b a' w') (λc a' w' ⟨q,hc,hs⟩=>hc▸od q a' w' hs) hm hback ?_ ?_ ⟨_,g0,start w (Keeps.refl _ _)⟩ ⟨_,g0,start _ (Keeps.refl _ _).drew⟩
 ·rintro Q hP b a1 w1 i o rest hi hb hd ⟨D,g,hg⟩ hK
  by_cases gS:∃ k:Nat,ch[k]?=some i
  ·obtain⟨k,hk⟩:=gS
   obtain⟨o',ho',k5,hc,gp⟩:=d6.get k i hk
   rw[hi]at ho';cases ho'
   simp only[Nat.zero_add]at gp
   refine wpListIn_step λK' hKr=>?_
   rw[if_pos (hg.inv.wanted hN hd k5 hc)]
   refine gp D g a1 w1 (by rw[<-hg.done k i hk];exact hb) (λk' i' hk' ma=>?_) (λk1 k2 i1 i2 h1 h2 hD ma=>?_) hg.inv.keep hg.inv.x (hg.inv.look hi hb hd) (λk' i' o' d hk' hi' hl' hd'=>hg.slot k' i' o' d hk' hi' hl' hd') K' Q (λu w2 ⟨g',e2,e3,e4,hs⟩=>?_) (λc w2 ⟨q,hc,hs⟩=>hP c a1 w2 ⟨q,hc,hg.inv.defs,hg.inv.size,hs.1,hs.2.1,λp hp=>by cases hp⟩)
   ·rw[<-hg.done k' i' hk']
    exact qX hg.inv.closed _ i _ o hi hd ma
   ·rw[<-hg.done k2 i2 h2]
    rw[<-hg.done k1 i1 h1]at hD
    cases hl:l[i1]? with
    | none=>
     have:∀ f,under l f i1 i2=false:=λf=>by cases f<;>simp[under,hl]
     rw[this]at ma;cases ma
    | some p=>exact qX hg.inv.closed _ _ _ p hl (hg.inv.closed _ p hl hD) ma
   refine hKr _ _ (hK _ _ ⟨gH D k,g',hg.inv.B8 hu hN hi hd u hs.1 hs.2.2 hs.2.1 hc e4,λk' i' hk'=>?_,λk' hk'=>?_,λk' i' o' d hk' hi' hl' hd'=>?_⟩)
   ·by_cases e:i'=i
    ·subst e
     have:=oU k' k i' hk' hk
     subst this
     simp[cP,gH]
    ·simp only[cP,if_neg e]
     rw[hg.done k' i' hk']
     have:k'≠k:=λe'=>by subst e';rw[hk]at hk';cases hk';exact e rfl
     simp[gH,this]
   ·have k6:k<ch.length:=(List.getElem?_eq_some_iff.1 hk).1
    have:k'≠k:=by omega
    simp[gH,this,hg.out k' hk']
   ·by_cases e:k'=k
    ·subst e
     rw[hk]at hi';cases hi'
     rw[hi]at hl';cases hl'
     rw[hd',la _ _ _ (by rw[hg.inv.size];exact ix hN hi hd')]
     exact e3 (by simp[hd'])
    ·have hne:i'≠i:=λe'=>e (by subst e';exact oU k' k i' hi' hk)
     have hk'':D k'=true:=by simpa [gH,e]using hk'
     rw[ju _ _ _ _ (λe'=>hne (kA hu hl' hi hd' e'))]
     rw[hg.slot k' i' o' d hk'' hi' hl' hd',e2 k' hk'']
  ·have rP:ch.contains i=false:=by
    simp only[List.contains_eq_mem,decide_eq_false_iff_not]
    intro kl
    obtain⟨k,hk,he⟩:=List.getElem_of_mem kl
    exact gS ⟨k,by rw[List.getElem?_eq_getElem hk,he]⟩
   have oV:=se l 0 ob i o hi
   rw[Nat.zero_add]at oV
   refine hg.inv.tc hu hN hi hb hd (oV rP _ (hsub D g)) λa' w' h' hsl=>hK _ _ ⟨D,g,h',λk' i' hk'=>?_,hg.out,λk' i' o' d hk' hi' hl' hd'=>?_⟩
   ·have:i'≠i:=λe=>gS ⟨k',e▸hk'⟩
    simp only[cP,if_neg this]
    exact hg.done k' i' hk'
   ·have hne:i'≠i:=λe=>gS ⟨k',e▸hi'⟩
    rw[hsl d (λe'=>hne (kA hu hl' hi hd' e'))]
    exact hg.slot k' i' o' d hk' hi' hl' hd'
 ·rintro a1 w1 ⟨D,g,hg⟩
  have nT:∀ k,k<ch.length->D k=true:=λk hk=>by
   have dD:ch[k]?=some (ch[k]'hk):=List.getElem?_eq_getElem _
   obtain⟨o',ho',_⟩:=d6.get k _ dD
   have hb:=hg.done k _ dD
   have hlt2:ch[k]<l.length:=(List.getElem?_eq_some_iff.1 ho').1
   simpa [hlt2]using hb.symm
  have hD:D=λk=>decide (k<ch.length):=by
   funext k
   by_cases hk:k<ch.length
   ·rw[nT k hk];simp[hk]
   ·rw[hg.out k oz];simp[hk]
  subst hD
  refine hq g a1 w1 ⟨hg.inv.defs,hg.inv.size,hg.inv.keep,hg.inv.x,λp hp=>?_⟩
  obtain⟨q,hq',rfl⟩:=mem_map.1 hp
  cases hf.mem q hq' with
  | old m s av he hn=>
   have h1:=hg.inv.env (s,av) (List.mem_of_getElem? he)
   refine⟨h1.1,?_⟩
   show Rel _ w1 av (a1.tmps.getD s undef)
   rw[hg.inv.old s λi o hi ho=>by
    have:=all_eq_true.1 hn o (List.mem_of_getElem? hi)
    simp[ho]at this]
   exact h1.2
  | new i s av hs hc he=>
   cases hi:l[i]? with
   | none=>rw[hi]at hs;cases hs
   | some o=>
    rw[hi]at hs
    have hs':o.dst=some s:=hs
    have hlt:i<l.length:=(List.getElem?_eq_some_iff.1 hi).1
    refine⟨ix hN hi hs',?_⟩
    have hr:=hg.inv.new i o s hi hs' (by simpa using hlt) hc
    rw[he]at hr
    exact hr
  | d6 k i s f hk hs hf ho=>
   cases hi:l[i]? with
   | none=>rw[hi]at hs;cases hs
   | some o=>
    rw[hi]at hs
    have hs':o.dst=some s:=hs
    refine⟨ix hN hi hs',?_⟩
    have hr:=hg.slot k i o s (by simpa using(List.getElem?_eq_some_iff.1 hk).1) hk hi hs'
    simp only
    rw[hr,hf]
    exact Rel.aH _ (ho g)
theorem D3 {o:Oper} {a:Act} {w:World} {p p':Value->WP} {f f':List PanicEntry->WP} (h:nA n P o a w p f) (h1:∀ v w',p v w'->p' v w') (h2:∀ c w',f c w'->f' c w'):nA n P o a w p' f':=λK Q hK hF=>h K Q (λv w' hp=>hK v w' (h1 v w' hp)) λc w' hf=>hF c w' (h2 c w' hf)
def CE {μ:Type} (pv:μ->Value) (O3:μ->List OB) (n:Rn) (P:Program) (J:WP) (S:Nat->Prop) (w0:World) (env:List (Nat×AV)) (l:List Oper) (am:Nat->AV) (conds:Nat->Bool) (F:List Bool->γ->List OB) (sv:Nat->γ->Value) (ch:List Nat) (k i:Nat):Prop:=
 CC pv O3 n P J S w0 env l am conds (λD g=>F ((List.range ch.length).map D) g) (λk' g=>if k'<ch.length then sv k' g else undef) ch k i
theorem zp {μ:Type} {pv:μ->Value} {O3:μ->List OB} {F:List Bool->γ->List OB} {sv:Nat->γ->Value} {ch:List Nat} {k i:Nat} {o:Oper} (cs:List (List Bool)) (iP:vO l ch k=cs) (qj:ch[k]?=some i) (ho:l[i]?=some o) (hg:lO l am conds i o) (hc:conds i=true)
 (core:u4 (λb=>∀ g a w,Keeps All w0 w->XO J S w0.heap.size (F b g) w->Look (SO S (F b g)) w env l am conds i a->(∀(k' i':Nat) (o':Oper) (d:Nat),b.getD k' false=true->ch[k']?=some i'->l[i']?=some o'->o'.dst=some d->a.eval (.tmp d)=sv k' g)->
  nA n P o a w (λv w'=>∃ g',(∀ k',b.getD k' false=true->sv k' g'=sv k' g)/\(o.dst.isSome=true->v=sv k g')/\Rel (SO S (F (b.set k true) g')) w' (am i) v/\dc J S w0 (F b g) w (F (b.set k true) g') w') (λc w'=>∃ q,c=eY (pv q)/\dc J S w0 (F b g) w (O3 q) w')) cs):
 CE pv O3 n P J S w0 env l am conds F sv ch k i:=by
 refine⟨o,ho,hg,hc,λD g a w hD hpre dl hk Z hl hs=>?_⟩
 have k6:k<ch.length:=(List.getElem?_eq_some_iff.1 qj).1
 have tQ:ch[k]=i:=(List.getElem?_eq_some_iff.1 qj).2
 have kl:(List.range ch.length).map D∈cs:=by
  rw[<-iP,vO,List.mem_filter]
  refine⟨yP D _,?_⟩
  simp only[rH,Bool.and_eq_true,all_eq_true]
  refine⟨by simp[hD],λp hp q hq=>?_⟩
  obtain⟨tV,hp2⟩:=mem_zipIdx' hp
  obtain⟨hq1,hq2⟩:=mem_zipIdx' hq
  by_cases hu:under l l.length p.1 q.1=true
  ·have e1:ch[p.2]?=some p.1:=by rw[List.getElem?_eq_getElem tV,hp2]
   have e2:ch[q.2]?=some q.1:=by rw[List.getElem?_eq_getElem hq1,hq2]
   rw[hu]
   simp only[Bool.not_true,Bool.false_or,Bool.and_eq_true,Bool.or_eq_true,bne_iff_ne,ne_eq,hq1,decide_true,Bool.true_and,tV]
   refine⟨?_,?_⟩
   ·by_cases e:p.2=k
    ·right
     rw[e,qj]at e1
     cases e1
     exact hpre q.2 q.1 e2 hu
    ·exact .inl e
   ·cases hd:D p.2 with
    | false=>exact .inl rfl
    | true=>exact .inr (dl p.2 q.2 p.1 q.1 e1 e2 hd hu)
  ·simp[hu]
 have hset:(List.range ch.length).map (gH D k)=((List.range ch.length).map D).set k true:=by
  apply ext_getElem?
  intro j
  rw[List.getElem?_set]
  by_cases hj:j<ch.length
  ·by_cases e:k=j
   ·subst e;simp[hj,gH]
   ·simp[hj,e,gH,Ne.symm (show k≠j from e)]
  ·by_cases e:k=j
   ·omega
   ·simp[hj,e]
 have:=yG core kl g a w hk Z hl λk' i' o' d hb h1 h2 h3=>by
  rw[rH]at hb
  simp only[Bool.and_eq_true,decide_eq_true_eq]at hb
  have:=hs k' i' o' d hb.2 h1 h2 h3
  have e:(if k'<ch.length then sv k' g else undef)=sv k' g:=if_pos hb.1
  rw[<-e];exact this
 refine D3 this (λv w' ⟨g',e1,e2,e3,e4⟩=>⟨g',λk' hk'=>?_,λh=>by
  have e:(if k<ch.length then sv k g' else undef)=sv k g':=if_pos k6
  show v=if k<ch.length then sv k g' else undef
  rw[e];exact e2 h,?_,?_⟩) (λc w' h=>h)
 ·by_cases hlt:k'<ch.length
  ·show(if k'<ch.length then sv k' g' else undef)=if k'<ch.length then sv k' g else undef
   rw[if_pos hlt,if_pos hlt]
   exact e1 k' (by rw[rH];simp[hlt,hk'])
  ·show(if k'<ch.length then sv k' g' else undef)=if k'<ch.length then sv k' g else undef
   rw[if_neg hlt,if_neg hlt]
 ·show Rel (SO S (F ((List.range ch.length).map (gH D k)) g')) w' (am i) v
  rw[hset];exact e3
 ·show dc J S w0 (F ((List.range ch.length).map D) g) w (F ((List.range ch.length).map (gH D k)) g') w'
  rw[hset];exact e4
theorem Ik {μ:Type} (pv:μ->Value) (O3:μ->List OB) (Or:List OB) {id:Nat} {draw:Bool} {a:Act} {w:World} (am:Nat->AV) (conds:Nat->Bool) (env':List (Nat×(γ->AV))) (F:List Bool->γ->List OB) (sv:Nat->γ->Value) (ch:List Nat) (g0:γ) (h0:∀ g,F (ch.map λ_=>false) g=O)
 (h:So J S w0 N O env a w) (V:aR J) (hm:P.follows .mixedOrders=true) (hu:jP l=true) (hN:jg l N=true) (hback:lq l=true) (d8:qy ch=true)
 (hsub:∀ b g p,p∈Or->p∈F b g) (ob:lk (nC n P J S Or w0 env l am conds ch) 0 l) (d6:mx (CE pv O3 n P J S w0 env l am conds F sv ch) 0 ch) (hf:lj env l am conds (λk' g=>if k'<ch.length then sv k' g else undef) ch env')
 (od:∀ q a w,So J S w0 N (O3 q) [] a w->Q (.panic (eY (pv q))) a w)
 (hq:∀ g a w,So J S w0 N (F (ch.map λ_=>true) g) (env'.map λp=>(p.1,p.2 g)) a w->Q .normal a w):(Code.region id l.toArray draw).wpIn n.F n.d P Q a w:=by
 refine UE pv O3 Or am conds env' (λD g=>F ((List.range ch.length).map D) g) (λk' g=>if k'<ch.length then sv k' g else undef) ch g0 (λg=>?_) h V hm hu hN hback d8 (λD g p hp=>hsub _ g p hp) ob d6 hf od λg a w h=>hq g a w ?_
 ·rw[<-h0 g]
  congr 1
  apply ext_getElem?
  intro j
  by_cases hj:j<ch.length<;>simp[hj]
 ·have e:(List.range ch.length).map (λk=>decide (k<ch.length))=ch.map λ_=>true:=by
   apply ext_getElem?
   intro j
   by_cases hj:j<ch.length<;>simp[hj]
  rw[<-e]
  exact h
end
theorem Ib {S S':Nat->Prop} {w:World}:∀ {xs:List Int} {us:List Value},bE S w (xs.map bT).flatten us->bE S' w (xs.map bT).flatten us
 | [],[],_=>trivial
 | [],_::_,h=>h.elim
 | x::xs,[],h=>h.elim
 | x::xs,u::us,⟨h1,h2⟩=>⟨by cases h1 with | lit _ hv=>exact .lit _ hv,Ib (xs:=xs) h2⟩
section
variable {n:Rn} {P:Program} {J:WP} {S:Nat->Prop} {O:List OB} {w0 w:World} {o:Oper} {a:Act} {f:FuncId} {args:List Operand} {ts:Array TypeId} {am:List AV}
theorem HW {b:Bool} (hF:Fn P J f am (.bool b)) (h1:dy P f) (hop:o.op= .call { callee:=.value (.func f),args:=args.toArray,argTypes:=ts }) (hS:∀ b,w0.heap.size<=b->S b) (V:aR J) (hk:Keeps All w0 w) (Z:XO J S w0.heap.size O w) (ha:bi S w am (args.map a.eval)):
 Does n P o a w (bG (SO S O) (XO J S w0.heap.size O) (.bool b) w):=
 bD (cV (X:=XO J S w0.heap.size O) hF h1 hop (λk hk'=>hS k (Nat.le_trans hk.size hk')) Z.1 ha λw' hk'=>fo V _ _ hk' Z) λv w' ⟨e1,e2,e3⟩=>⟨by rw[e1.lit];exact Rel.aH _,e2,e3⟩
theorem T5 {e:TypeId} {xs:List Int} (hF:fc (ι:=Value) P J f [] am [] (λi=>.lit i) (λi=>[OB.row i e 1 (xs.map bT)])) (h1:dy P f) (hop:o.op= .call { callee:=.value (.func f),args:=args.toArray,argTypes:=ts }) (hS:∀ b,w0.heap.size<=b->S b) (V:aR J) (hk:Keeps All w0 w) (Z:XO J S w0.heap.size O w) (ha:bi S w am (args.map a.eval)):
 Does n P o a w (bG (SO S O) (XO J S w0.heap.size O) (.rd (bQ xs)) w):=by
 refine xy h1 hop ?_
 have hS':∀ b,w.heap.size<=b->S b:=λb hb=>hS b (Nat.le_trans hk.size hb)
 have:=hF S w [] w _ hS' Z.1 b8 (Keeps.refl _ _) (yr Z.1) (ha.sub λk _ hk=>⟨hk,λq hq=>(by cases hq)⟩)
 rw[List.map_toArray]
 refine Calls.mono this ?_
 rintro e' w' ⟨i,v,he,hv,hk',hx'⟩
 have hi:=hx'.2.1 (OB.row i e 1 (xs.map bT)) yz
 obtain rfl:=hv.lit
 refine⟨_,he,?_,hk',fo V _ _ hk' Z⟩
 obtain⟨us,g1,g2,g3⟩:=hi
 exact qK (lo:=w.heap.size) (λb hb=>aK hS w hk Z b ((OB.row v e 1 (xs.map bT)).lt ⟨us,g1,g2,g3⟩ b hb).1) ⟨us,g1,Ib g2,g3⟩
end
section
variable {N:Nat} {J:WP} {S:Nat->Prop} {w0 w:World} {env:List (Nat×AV)} {a:Act} {O:List OB} {o0 o1 o2 o3 o4 o5 o6 o7 o8 o9:OB}
theorem ct (h:So J S w0 N (o0::o1::o2::o3::o4::o5::o6::o7::o8::O) env a w):So J S w0 N (o8::o0::o1::o2::o3::o4::o5::o6::o7::O) env a w:=ot (eM (A:=[o0,o1,o2,o3,o4,o5,o6,o7])) h
end
section
variable {n:Rn} {P:Program} {J:WP} {S:Nat->Prop} {O R:List OB} {w0 w:World} {o:Oper} {a:Act}
theorem L2 {κ μ σ:Type} (A:List OB) {l:Nat} {xs:List Operand} {callee:Operand} {ts:Array TypeId} {bv:List AV} {I':κ->List OB} {pv:μ->Value} {O3:μ->List OB} {O4:σ->List OB} (hr:n.r=none) (hop:o.op= .call { callee:=.value callee,args:=xs.toArray,argTypes:=ts })
 (hk0:Keeps All w0 w) (Z:XO J S w0.heap.size (A++(O++R)) w) (hc:a.eval callee= .func (.yield l) #[] #[]) (hv:bi (SO S (A++(O++R))) w bv (xs.map a.eval))
 (hY:∀(m:Nat) (R':List OB) (w1:World) (vs:List Value),Keeps All w0 w1->XO J S w0.heap.size (O++R') w1->bi (SO S (O++R')) w1 bv vs->YieldAt Fence.wide m P l vs.toArray w1 (uH J S w0 I' pv O3 O4 R')):
 nA n P o a w (λv w'=>∃ g:κ ⊕ σ,v= .bool g.isLeft/\dc J S w0 (A++(O++R)) w (A++g.elim (λz=>I' z++R) λs=>O4 s++R) w') (λc w'=>∃ q,c=eY (pv q)/\dc J S w0 (A++(O++R)) w (O3 q++(A++R)) w'):=by
 intro K Q hK hF
 obtain⟨nd,nr⟩:=n
 subst hr
 have hp:=ux A O R
 have hx1:=fR hp Z
 have PH:=Ip hp hv
 let B:AV->Value->Prop:=λav v=>Rel (SO S (O++(A++R))) w av v
 have hx2:=uZ (B:=B) hx1 λ_ _ h=>h
 obtain⟨fn,tmps,assign,body,hy,hR⟩:=hY (nd-1) (OB.was B::(A++R)) w (xs.map a.eval) hk0 hx2 (PH.sub λk _ hs=>qP.2 hs)
 have hrun:(execOp a.eval o).run P w= .ok (.round l fn tmps assign body) w:=by
  simp only[execOp,hop,resolve,hc,Deferred.ofValue,Sem.run_bind,Sem.run_pure,Result.andThen_ok,invoke]
  simpa using hy
 have back:∀ {O':List OB} {w':World},Keeps All w0 w'->XO J S w0.heap.size (O'++OB.was B::(A++R)) w'->dc J S w0 (A++(O++R)) w (O'++(A++R)) w':=λhk' hx'=>by
  obtain⟨g1,g2⟩:=q9 hx'
  exact kM hp.symm (.refl _) ⟨hk',g1,g2⟩
 refine⟨λ_ _=>trivial,?_⟩
 show o.uponIn _ nd P a K Q ((o.semAt none a.eval).run P w)
 rw[Oper.semAt_none,hrun]
 refine⟨λh=>by simp[Rn.F,Fence.wide]at h,RoundIn.mono hR λe w' he=>?_⟩
 rcases he with⟨rfl,k,hk',hx'⟩ | ⟨rfl,s,hk',hx'⟩ | ⟨q,rfl,hk',hx'⟩
 ·exact hK _ _ ⟨.inl k,rfl,kM (.refl _) (ux _ _ _) (back hk' hx')⟩
 ·exact hK _ _ ⟨.inr s,rfl,kM (.refl _) (ux _ _ _) (back hk' hx')⟩
 ·exact hF _ _ ⟨q,rfl,back hk' hx'⟩
end
section
variable {κ:Type} [DecidableEq κ] {Kd:iu κ} {α:Type}
theorem Gt {k:κ}:∀ {L:List (κ×α)},(L.findIdx? λp=>decide (k=p.1))=none->gX L k=L
 | [],_=>rfl
 | p::L,h=>by
  rw[List.findIdx?_cons]at h
  by_cases hk:k=p.1
  ·simp[hk]at h
  ·rw[decide_eq_false hk]at h
   rw[gX,if_neg hk,Gt (by simpa using h)]
theorem Gu {k:κ}:∀ {L:List (κ×α)} {n:Nat},(L.findIdx? λp=>decide (k=p.1))=some n->gX L k=L.eraseIdx n
 | [],_,h=>by simp at h
 | p::L,n,h=>by
  rw[List.findIdx?_cons]at h
  by_cases hk:k=p.1
  ·rw[decide_eq_true hk]at h
   obtain rfl:0=n:=by simpa using h
   rw[gX,if_pos hk];rfl
  ·rw[decide_eq_false hk]at h
   cases hf:L.findIdx? λp=>decide (k=p.1)with
   | none=>rw[hf]at h;simp at h
   | some m=>
    rw[hf]at h
    obtain rfl:m+1=n:=by simpa using h
    rw[gX,if_neg hk,Gu hf];rfl
omit [DecidableEq κ]in
theorem tj {β γ:Type} (f:β->γ):∀(l:List β) (n:Nat),(l.eraseIdx n).map f=(l.map f).eraseIdx n
 | [],_=>rfl
 | _::_,0=>rfl
 | x::l,n+1=>by simp only[List.eraseIdx_cons_succ,List.map_cons,tj f l n]
theorem gy.del {S:Nat->Prop} {w:World} {f:α->AV} (k:κ):∀ {L:List (κ×α)} {Lv:List (κ×Value)},gy S w f L Lv->gy S w f (gX L k) (gX Lv k)
 | [],[],_=>trivial
 | [],_::_,h=>h.elim
 | _::_,[],h=>h.elim
 | p::L,q::Lv,h=>by
  obtain⟨h1,h2,h3⟩:=h
  unfold gX
  rw[h1]
  split
  ·exact h3
  ·exact⟨h1,h2,gy.del k h3⟩
theorem UZ {P:Program} {T K E u:TypeId} (r:TypeId) (hT:P.underlying T=some (.map K E)) (hK:P.underlying K=some Kd.kind) (k:κ) {w:World} {M:Nat} {Lv:List (κ×Value)} (h:IsMap Kd w M Lv):
 ∃ w',(Builtin.delete_ #[T,u] r #[.map (some M),Kd.kv k]).run P w= .ok (.tuple #[]) w'/\IsMap Kd w' M (gX Lv k)/\Keeps (· ≠M) w w':=by
 obtain⟨es,clock,hm,hn,hd,hb,hc⟩:=h
 have hlt:M<w.heap.size:=(Array.getElem?_eq_some_iff.1 hm).1
 have hg:(getObj M).run P w= .ok (.map es clock) w:=by simp[getObj,Sem.run,hm]
 have hf:=BR (w:=w) hK k es.toList _ hn
 have dY:=Kd.pQ P K es.isEmpty k w hK
 have e0:(#[T,u]:Array TypeId)[0]?=some T:=rfl
 have e1:(#[.map (some M),Kd.kv k]:Array Value)[0]?=some (.map (some M)):=rfl
 have e2:(#[.map (some M),Kd.kv k]:Array Value)[1]?=some (Kd.kv k):=rfl
 cases hi:Lv.findIdx? λp=>decide (k=p.1)with
 | none=>
  rw[hi]at hf
  refine⟨{ w with heap:=w.heap.setIfInBounds M (.map es clock) },?_,?_,(Keeps.refl _ _).putObj (λ_ hn=>hn rfl) _⟩
  ·unfold Builtin.delete_
   simp only[e0,e1,e2,Sem.run_bind,run_underlying hT,Result.andThen_ok,hg,dY,hf,Sem.run_pure]
   simp[setObj,Sem.run,hm]
  ·rw[Gt hi]
   exact⟨_,_,Array.getElem?_setIfInBounds_self_of_lt hlt,hn,hd,hb,hc⟩
 | some n=>
  rw[hi]at hf
  have na:(es.eraseIdxIfInBounds n).toList=es.toList.eraseIdx n:=by simp
  refine⟨{ w with heap:=w.heap.setIfInBounds M (.map (es.eraseIdxIfInBounds n) clock) },?_,?_,(Keeps.refl _ _).putObj (λ_ hn=>hn rfl) _⟩
  ·unfold Builtin.delete_
   simp only[e0,e1,e2,Sem.run_bind,run_underlying hT,Result.andThen_ok,hg,dY,hf,Sem.run_pure]
   simp[setObj,Sem.run,hm]
  ·rw[Gu hi]
   refine⟨_,_,Array.getElem?_setIfInBounds_self_of_lt hlt,?_,?_,?_,?_⟩
   ·rw[na]
    unfold gx at hn ⊢
    rw[tj,hn,tj]
   ·rw[tj]
    exact hd.sublist (List.eraseIdx_sublist _ _)
   ·rw[na,tj]
    exact hb.sublist (List.eraseIdx_sublist _ _)
   ·intro e Fd
    rw[na]at Fd
    exact hc e (List.mem_of_mem_eraseIdx Fd)
end
section
variable {κ:Type} [DecidableEq κ] {Kd:iu κ} {α:Type} {f:α->AV} {L:List (κ×α)} {n:Rn} {N:Nat} {P:Program} {J:WP} {S S':Nat->Prop} {O:List OB} {w0:World} {env:List (Nat×AV)} {Q:Exit->Act->WP} {M:Nat} {t K E:TypeId} {o:Oper} {x y:Operand}
theorem DU {u:TypeId} {a:Act} {w:World} (hT:j8 P t K E Kd.kind) (V:aR J) (hJ0:J w0) (k:κ) (hop:o.op= .call { callee:=.builtin .delete,args:= #[x,y],argTypes:= #[t,u] }) (hk0:Keeps All w0 w) (Z:XO J S w0.heap.size (OB.map Kd f M L::O) w)
 (g1:Rel S' w (.lit (.map (some M))) (a.eval x)) (g2:Rel S' w (.lit (Kd.kv k)) (a.eval y)):Does n P o a w λv w'=>v= .tuple #[]/\dc J S w0 (OB.map Kd f M L::O) w (OB.map Kd f M (gX L k)::O) w':=by
 obtain⟨h0,Lv,hm,hr⟩:=Z.2.1 (OB.map Kd f M L) yz
 obtain⟨w',hrun,hm',hk⟩:=UZ (P:=P) (u:=u) o.type hT.1 hT.2 k hm
 have hk':Keeps (λb=>¬ (OB.map Kd f M L).blk b) w w':=hk.sub λb _ hb=>hb
 have hsub:∀ b,b<w.heap.size->SO S (OB.map Kd f M L::O) b->(¬ (OB.map Kd f M L).blk b)/\SO S (OB.map Kd f M (gX L k)::O) b:=λb _ hs=>⟨hs.2 (OB.map Kd f M L) yz,hs.1,λp hp=>by
  rcases mem_cons.1 hp with rfl | hp
  ·exact hs.2 (OB.map Kd f M L) yz
  ·exact hs.2 p (mem_cons_of_mem _ hp)⟩
 refine en (v:=.tuple #[]) (w':=w') ?_ ⟨rfl,pu (o':=OB.map Kd f M (gX L k)) V hJ0 hk0 Z hk' (λb hb=>.inl hb) ⟨h0,_,hm',(hr.move hk' hsub).del k⟩⟩
 simp[execOp,hop,resolve,invoke,builtin,g1.lit,g2.lit,hrun,Result.andThen]
end
end Go.Proofs.YtdfadihhfppjaaaGreatDoor
namespace Go.Proofs.YtdfadihhfppjaaaGreatDoor
structure lQ (j:Jb) (g:Fr) (step:Nat):Prop where
 fl:∀ h∈g.aa,h.bn=true->h.ac.length=2
 tx:∀ h∈g.aa,1<=h.ac.length/\∀ s∈h.ac,s.size<=60
 ts:∀ t∈j.ts,(1<=t.length/\t.length<=2000)/\∀ s∈t,s.size<=60
 st:step<j.ts.length
 m1:∀ s z,aw j.M s=some z->0<=z/\z< (j.ts.length:Int)
 m2:∀ i,i<j.ts.length->(aw j.M (cq (G j.ts i))).isSome=true
 gh:g.aa.length<=2000
 hi:j.i<j.d.ab.length
 wd:(G j.d.ab j.i).wide.length*32<=140737488351232
structure fS (hs:List Hy) (M:BM):Prop where
 nd:(M.map Prod.fst).Nodup
 ky:∀ q∈M,∃ h∈hs,h.bn=true/\q.1=G h.ac 1
 vl:∀ q∈M,q.2.length<=2000/\∀ s∈q.2,s.size<=60
section
variable {hs:List Hy} {M:BM} {k:BA} {v:List BA}
theorem Kp:fS hs []:=⟨by simp,by simp,by simp⟩
theorem GA:∀ {M:BM},(cn M k v).map Prod.fst=if k∈M.map Prod.fst then M.map Prod.fst else M.map Prod.fst++[k]
 | []=>by simp[cn]
 | p::M=>by
  rw[cn]
  by_cases h:k=p.1
  ·rw[if_pos h,if_pos (by simp[h])];rfl
  ·rw[if_neg h,List.map_cons,GA (M:=M),List.map_cons]
   by_cases h2:k∈M.map Prod.fst
   ·rw[if_pos h2,if_pos (mem_cons_of_mem _ h2)]
   ·rw[if_neg h2,if_neg (by simp only[mem_cons,not_or];exact⟨h,h2⟩)];rfl
theorem xb:∀ {M:BM},(gX M k).Sublist M
 | []=>.slnil
 | p::M=>by
  rw[gX];split
  ·exact List.sublist_cons_self _ _
  ·exact xb.cons_cons _
theorem fS.put (h:fS hs M) {y:Hy} (hy:y∈hs) (hf:y.bn=true) (hv:v.length<=2000/\∀ s∈v,s.size<=60):fS hs (cn M (G y.ac 1) v):=by
 refine⟨?_,λq hq=>?_,λq hq=>?_⟩
 ·rw[GA]
  split
  ·exact h.nd
  ·rename_i h2
   rw[List.nodup_append]
   exact⟨h.nd,by simp,λx Z z hz e=>by rw[List.mem_singleton.1 hz]at e;subst e;exact h2 Z⟩
 ·rcases A8 hq with hq | ⟨e,_⟩
  ·exact h.ky q hq
  ·exact⟨y,hy,hf,e⟩
 ·rcases A8 hq with hq | ⟨_,e⟩
  ·exact h.vl q hq
  ·rw[e];exact hv
theorem fS.del (h:fS hs M):fS hs (gX M k):=
 ⟨h.nd.sublist (xb.map _),λq hq=>h.ky q (xb.subset hq),λq hq=>h.vl q (xb.subset hq)⟩
theorem fS.len (h:fS hs M):M.length<=hs.length:=by
 have:=oc (ys:=hs.map λy=>G y.ac 1) h.nd λx Z=>by
  obtain⟨q,hq,rfl⟩:=mem_map.1 Z
  obtain⟨y,hy,_,e⟩:=h.ky q hq
  rw[e];exact List.mem_map_of_mem (f:=λy:Hy=>G y.ac 1) hy
 simpa using this
theorem fS.key (h:fS hs M) (ht:∀ y∈hs,y.bn=true->y.ac.length=2) (hz:∀ y∈hs,∀ s∈y.ac,s.size<=60):∀ q∈M.map (·.1),q.size<=9223372036854775807:=λq hq=>by
 obtain⟨x,Z,rfl⟩:=mem_map.1 hq
 obtain⟨y,hy,hf,e⟩:=h.ky x Z
 have h2:=ht y hy hf
 have h1:=hz y hy (G y.ac 1) (aE oz)
 show x.1.size<=_
 rw[e];omega
theorem fS.Ge (h:fS hs M):∀ b∈bN M,b.ac.length<=2000/\∀ s∈b.ac,s.size<=60:=Gf (p:=λt=>t.length<=2000/\∀ s∈t,s.size<=60) h.vl
end
section
variable {j:Jb} {g:Fr} {step k a n:Nat} {M:BM} {al:List Int}
theorem Ce (hT:lQ j g step):∀(hs:List Hy),(∀ h∈hs,h∈g.aa)->∀(M:BM) (al:List Int),fS g.aa M->fS g.aa (jy j g step hs M al).2
 | [],_,M,al,h=>by
  rw[jy];split<;>exact h
 | y::hs,hm,M,al,h=>by
  rw[jy]
  split
  ·have hy:y∈g.aa:=hm y mem_cons_self
   have key:∀(l:List Nat) (q:List (List Int)×BM),(∀ t∈l,lJ j y t=true->t<j.ts.length)->fS g.aa q.2->fS g.aa (l.foldl (j5 (jy j g step hs) j y al) q).2:=by
    intro l
    induction l with
    | nil=>intro q _ hq;exact hq
    | cons t l ih=>
     intro q hl hq
     rw[List.foldl_cons]
     refine ih _ (λt' ht'=>hl t' (mem_cons_of_mem _ ht')) ?_
     unfold j5
     split
     ·rename_i ho
      have hlt:=hl t mem_cons_self ho
      have h1:=hT.ts _ (aE hlt)
      have h2:((G j.ts t).drop 1).length<=2000/\∀ s∈(G j.ts t).drop 1,s.size<=60:=⟨by rw[length_drop];omega,λs hs=>h1.2 s (mem_of_mem_drop hs)⟩
      cases hf:y.bn with
      | true=>exact(Ce hT hs (λh hh=>hm h (mem_cons_of_mem _ hh)) _ _ (hq.put hy hf h2)).del
      | false=>exact Ce hT hs (λh hh=>hm h (mem_cons_of_mem _ hh)) _ _ hq
     ·exact hq
   refine key _ _ (λt _ ho=>?_) h
   unfold lJ at ho
   simp only[Bool.and_eq_true,decide_eq_true_eq]at ho
   have:=(hT.m1 _ _ ho.1).2
   omega
  ·exact h
theorem Jc (hT:lQ j g step) (h:fS g.aa M):fS g.aa (ep j g step k M al).2:=Ce hT _ (λ_ hh=>mem_of_mem_drop hh) M al h
theorem Wr (ho:lJ j (G g.aa k) (a+n)=true):fm j g step k M al a (n+1)=
 ((fm j g step k M al a n).1++(ep j g step (k+1) (if(G g.aa k).bn then cn (fm j g step k M al a n).2 (G (G g.aa k).ac 1) ((G j.ts (a+n)).drop 1)else(fm j g step k M al a n).2) (al++[((a+n:Nat):Int)])).1,
  if(G g.aa k).bn then gX (ep j g step (k+1) (if(G g.aa k).bn then cn (fm j g step k M al a n).2 (G (G g.aa k).ac 1) ((G j.ts (a+n)).drop 1)else(fm j g step k M al a n).2) (al++[((a+n:Nat):Int)])).2 (G (G g.aa k).ac 1)
  else(ep j g step (k+1) (if(G g.aa k).bn then cn (fm j g step k M al a n).2 (G (G g.aa k).ac 1) ((G j.ts (a+n)).drop 1)else(fm j g step k M al a n).2) (al++[((a+n:Nat):Int)])).2):=by
 rw[uP,j5,if_pos ho]
theorem GL (hT:lQ j g step) {t:Nat} (ht:t<j.ts.length) {y:Hy}:lJ j y t= !(!decide ((aw j.M (cq (G j.ts t))).getD default=(t:Int))|| !decide (G (G j.ts t) 0=G y.ac 0)):=by
 obtain⟨z,hz⟩:=Option.isSome_iff_exists.1 (hT.m2 t ht)
 unfold lJ
 rw[hz]
 simp only[Option.getD_some,Option.some.injEq,Bool.not_or,Bool.not_not]
variable {hs:List Hy} {h:Hy}
theorem B1 (hf:h.bn=true):je j hs step h M=(0,step):=if_neg λe=>by simp[hf]at e
theorem B2 (hb:pN hs M h.ac=false):je j hs step h M=(0,step):=if_neg λe=>by simp[hb]at e
theorem uL (hf:h.bn=false) (hb:pN hs M h.ac=true) (hn:((!decide ((if ca (az (bN M)) h.ac 2000 then(0:Int)else 15)=0)|| !(aw j.M (cq (if ca (az (bN M)) h.ac 2000 then bA (az (bN M)) h.ac else []))).isSome)||decide ((step:Int)<=(aw j.M (cq (if ca (az (bN M)) h.ac 2000 then bA (az (bN M)) h.ac else []))).getD default))=true):je j hs step h M=(0,0):=by
 rw[je,if_pos ⟨hf,hb⟩]
 cases hl:ca (az (bN M)) h.ac 2000 with
 | false=>simp
 | true=>
  rw[hl]at hn
  simp only[if_true]at hn ⊢
  cases hm:aw j.M (cq (bA (az (bN M)) h.ac))with
  | none=>rfl
  | some z=>
   rw[hm]at hn
   simp only[Option.isSome_some,Option.getD_some,decide_true,Bool.not_true,Bool.or_self,Bool.false_or,decide_eq_true_eq]at hn
   exact if_neg oz
theorem VB (hT:lQ j g step) (hf:h.bn=false) (hb:pN hs M h.ac=true) (hn:((!decide ((if ca (az (bN M)) h.ac 2000 then(0:Int)else 15)=0)|| !(aw j.M (cq (if ca (az (bN M)) h.ac 2000 then bA (az (bN M)) h.ac else []))).isSome)||decide ((step:Int)<=(aw j.M (cq (if ca (az (bN M)) h.ac 2000 then bA (az (bN M)) h.ac else []))).getD default))=false):
 0<=(aw j.M (cq (if ca (az (bN M)) h.ac 2000 then bA (az (bN M)) h.ac else []))).getD default/\(aw j.M (cq (if ca (az (bN M)) h.ac 2000 then bA (az (bN M)) h.ac else []))).getD default< (step:Int)/\
 je j hs step h M=(((aw j.M (cq (if ca (az (bN M)) h.ac 2000 then bA (az (bN M)) h.ac else []))).getD default).toNat,((aw j.M (cq (if ca (az (bN M)) h.ac 2000 then bA (az (bN M)) h.ac else []))).getD default).toNat+1):=by
 rw[je,if_pos (c:=h.bn=false/\pN hs M h.ac=true) ⟨hf,hb⟩]
 cases hl:ca (az (bN M)) h.ac 2000 with
 | false=>rw[hl]at hn;simp at hn
 | true=>
  rw[hl]at hn
  simp only[if_true]at hn ⊢
  cases hm:aw j.M (cq (bA (az (bN M)) h.ac))with
  | none=>rw[hm]at hn;simp at hn
  | some z=>
   rw[hm]at hn
   simp only[Option.isSome_some,Option.getD_some,decide_true,Bool.not_true,Bool.or_self,Bool.false_or,decide_eq_false_iff_not]at hn
   have h0:=(hT.m1 _ _ hm).1
   refine⟨h0,by simp only[Option.getD_some];omega,?_⟩
   simp only[Option.getD_some]
   exact if_pos (show z< (step:Int) by omega)
theorem vi (hT:lQ j g step) (h:fS g.aa M) {y:Hy} (hy:y∈g.aa):(if ca (az (bN M)) y.ac 2000 then bA (az (bN M)) y.ac else []).length<=2000/\∀ s∈(if ca (az (bN M)) y.ac 2000 then bA (az (bN M)) y.ac else []),s.size<=60:=by
 cases hl:ca (az (bN M)) y.ac 2000 with
 | false=>simp
 | true=>
  simp only[if_true]
  refine⟨by simpa [ca]using hl,CT (p:=λs=>s.size<=60) (λb hb s hs=>(h.Ge b hb).2 s hs) (hT.tx y hy).2⟩
end
section
variable {j:Jb} {g:Fr} {step k a n b:Nat} {M M2 M3:BM} {al yF:List Int} {pre xw:List (List Int)}
theorem Jf (hT:lQ j g step) (hk:k<g.aa.length) (h:fS g.aa M):∀ n,fS g.aa (fm j g step k M al a n).2
 | 0=>h
 | n+1=>by
  have ih:=Jf hT hk h n
  rw[uP]
  unfold j5
  split
  ·rename_i ho
   have hlt:a+n<j.ts.length:=by
    unfold lJ at ho
    simp only[Bool.and_eq_true,decide_eq_true_eq]at ho
    have:=(hT.m1 _ _ ho.1).2
    omega
   have h1:=hT.ts _ (aE hlt)
   have h2:((G j.ts (a+n)).drop 1).length<=2000/\∀ s∈(G j.ts (a+n)).drop 1,s.size<=60:=⟨by rw[length_drop];omega,λs hs=>h1.2 s (mem_of_mem_drop hs)⟩
   cases hf:(G g.aa k).bn with
   | true=>exact(Jc hT (ih.put (aE hk) hf h2)).del
   | false=>exact Jc hT ih
  ·exact ih
theorem TU (hT:lQ j g step) (hk:k<g.aa.length) (ha:a<j.ts.length) (h:fS g.aa M):fS g.aa (if(G g.aa k).bn then cn M (G (G g.aa k).ac 1) ((G j.ts a).drop 1)else M):=by
 have h1:=hT.ts _ (aE ha)
 have h2:((G j.ts a).drop 1).length<=2000/\∀ s∈(G j.ts a).drop 1,s.size<=60:=⟨by rw[length_drop];omega,λs hs=>h1.2 s (mem_of_mem_drop hs)⟩
 cases hf:(G g.aa k).bn with
 | true=>exact h.put (aE hk) hf h2
 | false=>exact h
theorem uT (h:(ci g.aa M g.ac (G j.ts step)).1=false):pre=pre++(ep j g step k M al).1/\M=(ep j g step k M al).2:=by rw[Wx h];simp
theorem uR (h:(ci g.aa M g.ac (G j.ts step)).1=true) (hk:k=g.aa.length) (hg:fF j g al step=false):pre=pre++(ep j g step k M al).1/\M=(ep j g step k M al).2:=by rw[Jj h hk,hg];simp
theorem sF (h:(ci g.aa M g.ac (G j.ts step)).1=true) (hk:k=g.aa.length) (hg:fF j g al step=true):pre++[al]=pre++(ep j g step k M al).1/\M=(ep j g step k M al).2:=by rw[Jj h hk,hg];simp
theorem uS (h:(ci g.aa M g.ac (G j.ts step)).1=true) (hk:k<g.aa.length) (hs:je j g.aa step (G g.aa k) M=(0,0)):pre=pre++(ep j g step k M al).1/\M=(ep j g step k M al).2:=by rw[Ci h hk,hs];simp[Cf]
theorem uQ (h:(ci g.aa M g.ac (G j.ts step)).1=true) (hk:k<g.aa.length) (hs:je j g.aa step (G g.aa k) M=(a,b)) (hn:a+n=b) (h1:xw=pre++(fm j g step k M al a n).1) (h2:M2=(fm j g step k M al a n).2):xw=pre++(ep j g step k M al).1/\M2=(ep j g step k M al).2:=by
 rw[Ci h hk,hs]
 have:b-a=n:=by omega
 simp only[this]
 exact⟨h1,h2⟩
theorem Wz {xs:List (List Int)} (h:(ci g.aa M g.ac (G j.ts step)).1=true) (hk:k<g.aa.length) (hs:je j g.aa step (G g.aa k) M=(a,b)) (hp:pre++(ep j g step k M al).1<+:xs):pre++(fm j g step k M al a (b-a)).1<+:xs:=by
 rw[Ci h hk,hs]at hp;exact hp
theorem ou {z1:List (List Int)} {zM:BM} (h1:xw=pre++(fm j g step k M al a n).1) (h2:M2=(fm j g step k M al a n).2) (h3:M3=if(G g.aa k).bn then cn M2 (G (G g.aa k).ac 1) ((G j.ts (a+n)).drop 1)else M2) (h4:yF=al) (ho:lJ j (G g.aa k) (a+n)=true)
 (ez:z1=xw++(ep j g step (k+1) M3 (yF++[((a+n:Nat):Int)])).1/\zM=(ep j g step (k+1) M3 (yF++[((a+n:Nat):Int)])).2):
 z1=pre++(fm j g step k M al a (n+1)).1/\(if(G g.aa k).bn then gX zM (G (G g.aa k).ac 1)else zM)=(fm j g step k M al a (n+1)).2:=by
 rw[Wr ho,<-h2,<-h3,<-h4]
 exact⟨by rw[ez.1,h1,h4,List.append_assoc],by rw[ez.2]⟩
theorem I5 {x:Int} (h:al.length=k):(al++[x]).take k=al:=by rw[<-h];simp
end
end Go.Proofs.YtdfadihhfppjaaaGreatDoor
