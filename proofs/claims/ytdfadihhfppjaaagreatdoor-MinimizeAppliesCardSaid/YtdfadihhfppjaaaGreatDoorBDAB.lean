/-
  Part of the proof that MinimizeApplies returns true. Conditions: none.
-/
import Derived.Test.YtdfadihhfppjaaaGreatDoorBDAA
set_option maxRecDepth 100000
set_option maxHeartbeats 8000000
open List (all_eq_true ext_getElem? length_drop length_map length_set map_set mem_append_right mem_cons mem_cons_of_mem mem_cons_self mem_map mem_of_mem_drop mem_zipIdx' take_length)
namespace Go.Proofs.YtdfadihhfppjaaaGreatDoor
open Go.Proofs.Tryz (prog)
open Go.RowKit
theorem B4:prog.underlying 122=some (.slice 4):=by kernel_rfl
theorem Wp:nj prog 88 2:=⟨(#[.string ⟨#[]⟩,.slice none 0 0]),Y,by kernel_rfl⟩
section
variable {J:WP} (V:aS J)
include V
theorem RK (xs:List Stp) (nS:xs.length<=1000000):mh prog J 115 [] [.ptr [br xs]] (λx9=>[.int (x9.1:Nat),.agg (bF x9.2)]) (ig xs) (none):=by
 refine vV (N:=19) Tryz.func115 Y Y (lb Y) λS w0 R l κ μ σ I pv O3 O4 k0 hS hJ0 hH hY=>?_
 refine gQ (B:=So J S w0 19 (I ([]) k0++R) [(0,.rd (.lit (.func (.yield l) #[] #[]))),(1,.ptr [br xs])]) ?_ λa w h=>h
 refine af (aT tb V [0,1,1000,1003] [_,.int (xs.length:Nat),.int ((xs.length:Int)-(1:Int)),_] [1,2] U4 Y ⟨aD ep,l2,U⟩ ?_)
 refine kw (sa 3 Y (congrArg AV.int (show(xs.length:Int)-(1:Int)=(xs.length:Int)-1-((0:Nat):Int)from by simp))) (nx (ln 2 λcx=>?_))
 refine ax (lpo (ι:=Nat×(List (Nat×Stp))×κ) (λ(k,pre,_)=>(k<=xs.length)/\(pre=(ig xs).take k)) (λ(_,pre,kk)=>(I pre kk++R)) (λ(k,_,_)=>[(3,.int ((xs.length:Int)-1-(k:Int)))]) (λ(k,_,_)=>xs.length-k) [0,1,3] U2 (0,[],k0) ⟨aI,Y⟩ ?_)
 rintro⟨k,pre,kk⟩ ⟨aQ,ah⟩
 refine af (ak tb V [0,1,2,1001] U2 U4 ?_)
 refine cj 3 ?_ ?_<;>intro hb1<;>try simp at hb1
 refine tw (sa 2 Y (show(.int ((xs.length:Int)-1-(k:Int)):AV)= .int (xs.length-1-k:Nat)from congrArg AV.int oz)) (aj (nx (af (ax (aL ?_)))))
 refine ao 4 tb Y (sy (.ptr (bF (G xs (xs.length-1-k)))) (λh=>cb (i:=((xs.length-1-k:Nat):Int)) ey Y (h.get 1 Y) (h.get 0 Y) bM (cq (xs:=xs) (k:=xs.length-1-k) az) Y h.x) ?_)
 refine ao 1 tb Y (BP (O:=I pre kk) (R:=R) (xs:=U2) (bu:=[.int ((xs.length-1-k,(G xs (xs.length-1-k))).1:Nat),.agg (bF ((xs.length-1-k,(G xs (xs.length-1-k))).2))]) Y Y Y Y (lb Y) (λa w h=>(h.get 5 Y).lit) (λa w h=>aq (h.get 4 Y) (aq (h.get 0 Y) aP)) (λm' R' w1 vs hk Z hv=>hY m' R' pre (xs.length-1-k,(G xs (xs.length-1-k))) kk w1 vs (by rw[ah];exact C1 oz) hk Z hv) (λq=>wG q) (λs1=>?_) (λz2=>?_))
 refine ao 1 tb Y (aA [0,8,9,10] U4 Y ?_)
 refine nx (cj 0 (λhb2=>?_) λhb2=>?_)
 try simp at hb2
 exact aZ (λa w h=>wH s1 Y h)
 exact False.elim (by simp at hb2)
 refine ao 1 tb Y (aA [0,8,9,10] U4 Y ?_)
 refine nx (cj 0 (λhb2=>?_) λhb2=>?_)
 exact False.elim (by simp at hb2)
 try simp at hb2
 refine aj (nx (aT tb V [1,2,1002] [_,.int (((xs.length-1-k:Nat):Int)-(1:Int)),_] [1] U3 Y ⟨l2,U⟩ ?_))
 exact kw (sa 2 Y (congrArg AV.int (show((xs.length-1-k:Nat):Int)-(1:Int)=(xs.length:Int)-1-((k+1:Nat):Int)from by omega))) (bq ((k+1),(pre++[(xs.length-1-k,(G xs (xs.length-1-k)))]),z2) [0,1,2] ⟨oz,by rw[ah];exact yB oz⟩)
 exact aW (λa w h=>wF (Y) (by rw[ah,show k=xs.length by omega];exact CZ) kk Y h)
theorem RJ (xs:List Stp)  :Fn prog J 89 [.rd (br xs)] (.fn 115 [.ptr [br xs]]):=by
 refine fE Tryz.func89 λS w0 hS hJ0=>?_
 clear hJ0
 refine ln 0 λ_=>?_
 refine aJ tb V [1000] [.ptr [br xs],_] [0] [_] Y ⟨λ_ _ hk Z hl _=>k4 Y (hl.env 0 0 _ Y Y) (hS _ hk.size) (js V Z),U⟩ ?_
 refine aJ tb V [1001] [.fn 115 [.ptr [br xs]],_] [0] [_] Y ⟨λ_ _ _ Z hl _=>k5 (caps:=[(.tmp 1)]) Y (aq (hl.env 0 1 _ Y Y) aP) Z,U⟩ ?_
 exact aU 0 (hE:=Y)
theorem RM (xs:List (List BA)) (nS:xs.length<=1000000):mh prog J 90 [] [.ptr [ct xs]] (λx9=>[.int (x9.1:Nat),.rd (ai x9.2)]) (ig xs) (none):=by
 refine vV (N:=19) Tryz.func90 Y Y (lb Y) λS w0 R l κ μ σ I pv O3 O4 k0 hS hJ0 hH hY=>?_
 refine gQ (B:=So J S w0 19 (I ([]) k0++R) [(0,.rd (.lit (.func (.yield l) #[] #[]))),(1,.ptr [ct xs])]) ?_ λa w h=>h
 refine af (aT tb V [0,1,1000,1003] [_,.int (xs.length:Nat),.int ((xs.length:Int)-(1:Int)),_] [1,2] U4 Y ⟨aD sn,l2,U⟩ ?_)
 refine kw (sa 3 Y (congrArg AV.int (show(xs.length:Int)-(1:Int)=(xs.length:Int)-1-((0:Nat):Int)from by simp))) (nx (ln 2 λcx=>?_))
 refine ax (lpo (ι:=Nat×(List (Nat×(List BA)))×κ) (λ(k,pre,_)=>(k<=xs.length)/\(pre=(ig xs).take k)) (λ(_,pre,kk)=>(I pre kk++R)) (λ(k,_,_)=>[(3,.int ((xs.length:Int)-1-(k:Int)))]) (λ(k,_,_)=>xs.length-k) [0,1,3] U2 (0,[],k0) ⟨aI,Y⟩ ?_)
 rintro⟨k,pre,kk⟩ ⟨aQ,ah⟩
 refine af (ak tb V [0,1,2,1001] U2 U4 ?_)
 refine cj 3 ?_ ?_<;>intro hb1<;>try simp at hb1
 refine tw (sa 2 Y (show(.int ((xs.length:Int)-1-(k:Int)):AV)= .int (xs.length-1-k:Nat)from congrArg AV.int oz)) (aj (nx (af (ax (aL ?_)))))
 refine ao 4 tb Y (sy (.ptr [ai (G xs (xs.length-1-k))]) (λh=>cb (i:=((xs.length-1-k:Nat):Int)) eC Y (h.get 1 Y) (h.get 0 Y) bM (cq (xs:=xs) (k:=xs.length-1-k) az) Y h.x) ?_)
 refine ao 1 tb Y (BP (O:=I pre kk) (R:=R) (xs:=U2) (bu:=[.int ((xs.length-1-k,(G xs (xs.length-1-k))).1:Nat),.rd (ai ((xs.length-1-k,(G xs (xs.length-1-k))).2))]) Y Y Y Y (lb Y) (λa w h=>(h.get 5 Y).lit) (λa w h=>aq (h.get 4 Y) (aq (h.get 0 Y) aP)) (λm' R' w1 vs hk Z hv=>hY m' R' pre (xs.length-1-k,(G xs (xs.length-1-k))) kk w1 vs (by rw[ah];exact C1 oz) hk Z hv) (λq=>wG q) (λs1=>?_) (λz2=>?_))
 refine ao 1 tb Y (aA [0,2,8,9,10] U5 Y ?_)
 refine nx (ln 1 λhl2=>?_)
 refine cj 0 ?_ ?_<;>intro hb2
 try simp at hb2
 exact aZ (λa w h=>wH s1 Y h)
 exact False.elim (by simp at hb2)
 refine ao 1 tb Y (aA [0,2,8,9,10] U5 Y ?_)
 refine nx (ln 1 λhl3=>?_)
 refine cj 0 ?_ ?_<;>intro hb2
 exact False.elim (by simp at hb2)
 try simp at hb2
 refine aj (nx (aT tb V [2,3,1002] [_,.int (((xs.length-1-k:Nat):Int)-(1:Int)),_] [1] U3 Y ⟨l2,U⟩ ?_))
 exact kw (sa 2 Y (congrArg AV.int (show((xs.length-1-k:Nat):Int)-(1:Int)=(xs.length:Int)-1-((k+1:Nat):Int)from by omega))) (bq ((k+1),(pre++[(xs.length-1-k,(G xs (xs.length-1-k)))]),z2) [0,1,2] ⟨oz,by rw[ah];exact yB oz⟩)
 exact aW (λa w h=>wF (Y) (by rw[ah,show k=xs.length by omega];exact CZ) kk Y h)
theorem RL (xs:List (List BA))  :Fn prog J 63 [.rd (ct xs)] (.fn 90 [.ptr [ct xs]]):=by
 refine fE Tryz.func63 λS w0 hS hJ0=>?_
 clear hJ0
 refine ln 0 λ_=>?_
 refine aJ tb V [1000] [.ptr [ct xs],_] [0] [_] Y ⟨λ_ _ hk Z hl _=>k4 Y (hl.env 0 0 _ Y Y) (hS _ hk.size) (js V Z),U⟩ ?_
 refine aJ tb V [1001] [.fn 90 [.ptr [ct xs]],_] [0] [_] Y ⟨λ_ _ _ Z hl _=>k5 (caps:=[(.tmp 1)]) Y (aq (hl.env 0 1 _ Y Y) aP) Z,U⟩ ?_
 exact aU 0 (hE:=Y)
theorem GV (ss:List Stp) (bv:et ss):Fn prog J 62 [.agg (bw ss)] (.rd (mu (fN ss))):=by
 refine zw (N:=38) Tryz.func62 Y Y (lb Y) λS w0 hS hJ0=>?_
 refine ox cc ?_
 have jR:=bv.1
 have cx:=bv.2.1
 refine hU (m:=5) ?_
 refine aT tb V [1000] [.ptr (bw ss),_] [0] [_] Y ⟨cW hS V,U⟩ ?_
 refine ip ?_
 refine hU (m:=5) ?_
 refine cG (ao 2 tb Y (sy (.int (ss.length:Nat)) (λh=>kh ep Y (h.get 0 Y) h.x) ?_))
 refine xE (f:=j9) (k:=ss.length) false FX Y V Y Y Y (lb Y) (λa w h=>⟨(h.get 0 Y),(h.get 0 Y)⟩) az az λv1=>?_
 refine cz Wa V Y Y Y (lb Y) λb2=>?_
 refine gz (b:=b2) (off:=0) (es:=[_]) V hJ0 UG Y Y Y (lb Y) Y (λa w h=>⟨(h.get 0 Y),(h.get 1 Y)⟩) ?_
 refine aA [0,3,5] U3 Y (ip ?_)
 refine l4 1 λcx=>?_
 refine hU (m:=5) ?_
 refine cG (sq (.lit v1) Y Y (lb Y) (λ_ _ h=>cg uc Y (aH h.x (mo 0 Y)) (h.get 0 Y) Y h.x) ?_)
 refine sy (.lit v1) (λh=>cg uc Y (aH h.x (mo 0 Y)) (h.get 1 Y) Y h.x) ?_
 refine sy (.int ((List.replicate ss.length false).length:Nat)) (λh=>oV (by rw[length_map]) B4 Y (aH h.x (mo 1 Y)) (h.get 0 Y) h.x) ?_
 refine sy (.int ((List.replicate ss.length false).length-1:Nat)) (λh=>qv (i:=(List.replicate ss.length false).length) (j:=1) Y (h.get 0 Y) (Rel.aG (.int .i64 1)) az az h.x) ?_
 refine sy (.lit (cA v1 (((List.replicate ss.length false).length-1)*1))) (λh=>eQ (i:=(((List.replicate ss.length false).length-1:Nat):Int)) nB Y (aH h.x (mo 1 Y)) (h.get 3 Y) (h.get 0 Y) bM (by rw[length_map];exact Int.ofNat_lt.2 az) h.x) ?_
 refine kw bQ (qF (i:=(List.replicate ss.length false).length-1) V hJ0 qB Y Y Y (by rw[length_map];exact az) (λa w h=>⟨(h.get 0 Y),(Rel.aG (.bool true))⟩) ?_)
 rw[show((List.replicate ss.length false).map j9).set ((List.replicate ss.length false).length-1) [lB true]=((List.replicate ss.length false).set ((List.replicate ss.length false).length-1) true).map j9 from map_set.symm]
 refine aA [5,7] U2 Y (ip ?_)
 refine uT ?_
 refine hU (m:=5) ?_
 refine aT tb V [0,1002] [_,_,.fn 115 [.ptr [br ss]]] [2] U2 Y ⟨bN hS V (RJ V ss) (cO Tryz.func89),U⟩ ?_
 refine ip ?_
 refine uS ?_
 refine ox (λh=>oa (p:=(((List.replicate ss.length false).set ((List.replicate ss.length false).length-1) true)=iT ss ([]:List (Nat×Stp)).length)) (by rw[List.length_replicate];rfl) h) ?_
 refine HI (m:=5) (κ:=Value×(List Bool)) (μ:=Empty) (σ:=Empty) (RK V ss oz) (cO Tryz.func115) V hS hJ0 b9 (λpre (wv,ys)=>[OB.mA (ys=iT ss pre.length),OB.row wv 4 1 (ys.map j9),OB.var b2 [.lit wv]]) (λq':Empty=>undef) (λq'=>[]) (λs'=>[]) (v1,(List.replicate ss.length false).set ((List.replicate ss.length false).length-1) true) (λx9=>[(5,.ptr (bF x9.2)),(3,.at b2 0),(4,.int (x9.1:Nat))]) (lb Y) (lb Y) Tryz.func62 ?_ ?_ ?_ ?_ ?_ ?_ ?_
 · exact λa w h=>xl (h.get 1 Y)
 rintro m9 l9 R' pre x9 ⟨wv,ys⟩ K9 pU
 refine ak tb V [0,2,1000] [_] U3 ?_
 refine cG (iJ (cs:=bF x9.2) Wp Y Y Y (lb Y) Y Y Y dz (m:=0) Y Y (λa w h=>aK hS _ h.keep h.x _ aV) (λa w h w' hk'=>fi V _ _ hk' h.x) ?_)
 exact aA [0,2,3] U3 Y (pU)
 rintro m9 l9 R' pre x9 ⟨wv,ys⟩ hpre
 refine xL λhF=>?_
 have ic:ys=iT ss pre.length:=hF
 obtain⟨wb,wc,ry⟩:=C0 hpre
 have NZ:ys.length=ss.length:=by rw[ic,AM]
 refine ax (au tb V [0,1,1003] [.lit wv,_,.lit (cA wv (x9.1*1)),.bool (G ys x9.1)] [0,2,3] U3 Y ⟨λ_ _ _ Z hl _=>cg uc Y (aH Z (mo 1 Y)) (hl.env 1 3 _ Y Y) Y Z,λ_ _ _ Z hl _=>eQ (i:=(x9.1:Int)) nB Y (aH Z (mo 0 Y)) (hl.D 0 22 Y Y) (hl.D 1 23 Y Y) bM (by rw[length_map];exact Int.ofNat_lt.2 az) Z,λ_ _ _ Z hl _=>mZ (i:=x9.1) wZ Y (aH Z (mo 0 Y)) (hl.D 2 24 Y Y) (ir (xs:=ys) (k:=x9.1) az) Z,U⟩ ?_)
 refine cj 2 ?_ ?_<;>intro hb1<;>try simp at hb1
 refine au tb V [1,1001,1002,1003] [_,_,.int (x9.2.args.length:Nat),_] [2] U4 Y ⟨aD eW,U⟩ ?_
 refine ln 1 λ_=>?_
 refine ax (lpo (ι:=Nat×(List Bool)×Value) (λ(q,zs,_)=>(q<=x9.2.args.length)/\(zs=iE ys (x9.2.args.take q))) (λ(_,zs,wu)=>(OB.row wu 4 1 (zs.map j9)::OB.var b2 [.lit wu]::R')) (λ(q,_,_)=>[(29,.int (q:Nat))]) (λ(q,_,_)=>x9.2.args.length-q) [0,1,2,3] U3 (0,ys,wv) ⟨aI,Y⟩ ?_)
 rintro⟨q,zs,wu⟩ ⟨aQ,ah⟩
 refine ak tb V [0,1,2,3,1000] [_] U5 ?_
 refine cI 4 ?_ ?_<;>intro hb2<;>try simp at hb2
 have e4:=ua bv (k:=x9.1) (j:=q) oz (by rw[<-ry];omega)
 rw[<-ry]at e4
 have e5:zs.length=ss.length:=by rw[ah,AL,NZ]
 refine aj (nx (af (ax (au tb V [0,1,2,3,1002] [.ptr [lI (G x9.2.args q)],_,_] [0] U5 Y ⟨bn dc,U⟩ ?_))))
 refine cG (sq (.lit wu) Y Y (lb Y) (λ_ _ h=>cg uc Y (aH h.x (mo 1 Y)) (h.get 0 Y) Y h.x) ?_)
 refine ao 1 tb Y (sy (.lit (cA wu (((G x9.2.args q).toNat)*1))) (λh=>eQ (i:=(G x9.2.args q)) nB Y (aH h.x (mo 0 Y)) (h.get 1 Y) (h.get 0 Y) az (by rw[length_map];exact az) h.x) ?_)
 refine qF (i:=(G x9.2.args q).toNat) V hJ0 qB Y Y Y (by rw[length_map];exact az) (λa w h=>⟨(h.get 0 Y),(Rel.aG (.bool true))⟩) ?_
 rw[show(zs.map j9).set ((G x9.2.args q).toNat) [lB true]=(zs.set ((G x9.2.args q).toNat) true).map j9 from map_set.symm]
 refine aA [3,4,5,6] U4 Y (nx (aT tb V [0,1,2,1001] [.int (q+1:Nat),_] [0] U4 Y ⟨aM,U⟩ ?_))
 exact bq (q+1,zs.set ((G x9.2.args q).toNat) true,wu) [0,1,2,3] ⟨oz,by rw[ah];exact FV oz⟩
 exact aW (kw (λh=>oa (p:=(zs=iT ss (pre++[x9]).length)) (by first | (rw[ah,ry,AG hb1 (by rw[<-ry];omega),wV ic wb wc];done) | (rw[<-wV ic wb wc,AR hb1])) h) (λa w h=>⟨(wu,zs),h.keep,h.x⟩))
 exact aj (kw (λh=>oa (p:=(ys=iT ss (pre++[x9]).length)) (by first | (rw[ah,ry,AG hb1 (by rw[<-ry];omega),wV ic wb wc];done) | (rw[<-wV ic wb wc,AR hb1])) h) (λa w h=>⟨(wv,ys),h.keep,h.x⟩))
 rintro fa ⟨wv,ys⟩ D
 refine kw bQ (xG λhF=>?_)
 have ic:ys=iT ss (ig ss).length:=hF
 refine rS (m:=5) ?_
 refine sR ?_
 refine my ?_
 refine sy (.lit wv) (λh=>cg uc Y (aH h.x (mo 2 Y)) (h.get 0 Y) Y h.x) ?_
 refine ao 1 tb Y (aA [0] [_] Y ?_)
 refine tZ ?_
 refine vE ?_
 refine w5 V hJ0 ?_
 exact kw (λh=>dV hS h (m:=0) (s:=2) Y) (H4 (m:=0) Y Y (congrArg (λz=>AV.rd (mu z)) (show ys=(fN ss)from by rw[ic,sI];rfl)))
 · exact λs=>s.elim
 · exact λv h=>by cases h
 · exact λq=>q.elim
end
end Go.Proofs.YtdfadihhfppjaaaGreatDoor
namespace Go.Proofs.YtdfadihhfppjaaaGreatDoor
open Go.RowKit
theorem H2 {α:Type} {f:α->List CD} {xs:List α} {k:Nat} {r:List CD} (h:k<xs.length):((xs.map f).set k r)[k]?=some r:=by
 rw[List.getElem?_set_self];simpa using h
theorem M7 {k i j:Nat} {r:List CD} {c:CD} {rows:List (List CD)} (hlen:∀ q∈rows,q.length=k) (hrow:rows[i]?=some r) (hj:j<r.length):(rows.set i (r.set j c)).flatten=rows.flatten.set (i*k+j) c:=by
 have hl:i<rows.length:=(List.getElem?_eq_some_iff.1 hrow).1
 have hge:rows[i]=r:=(List.getElem?_eq_some_iff.1 hrow).2
 have Ai:r.length=k:=hlen r (hge▸List.getElem_mem hl)
 have hd:rows.flatten.drop (i*k)=r++rows.flatten.drop (i*k+k):=by
  rw[oD rows i hlen,List.drop_eq_getElem_cons hl,hge,List.flatten_cons,show i*k+k=(i+1)*k by rw[Nat.add_mul];omega,oD rows (i+1) hlen]
 have hp:i*k+j<rows.flatten.length:=by
  have h1:=congrArg List.length hd
  rw[length_drop,List.length_append]at h1
  omega
 have tv:rows.flatten.drop (i*k+j+1)=r.drop (j+1)++rows.flatten.drop (i*k+k):=by
  rw[show i*k+j+1=i*k+(j+1) by omega,<-List.drop_drop,hd,List.drop_append_of_le_length oz]
 have zS:rows.flatten.take (i*k+j)=rows.flatten.take (i*k)++r.take j:=by
  rw[List.take_add,hd,List.take_append_of_le_length oz]
 rw[zl rows i (r.set j c) hlen hl,List.set_eq_take_append_cons_drop (i:=i*k+j),if_pos hp,zS,tv,List.set_eq_take_append_cons_drop (i:=j),if_pos hj]
 simp
section
variable {N:Nat} {J:WP} {S:Nat->Prop} {O:List OB} {w0:World} {env:List (Nat×AV)} {a:Act} {w:World} {v:Value} {e k:Nat} {rows rows':List (List CD)}
theorem xx {q:Nat} (h:SO S (OB.row v e k rows::O) q):SO S (OB.row v e k rows'::O) q:=⟨h.1,λp hp=>by
 rcases mem_cons.1 hp with rfl | hp
 · exact h.2 (OB.row v e k rows) yz
 · exact h.2 p (by simp[hp])⟩
theorem Vc {va:Value} {e2 k2:Nat} {xn:List (List CD)} {r:List CD} {i j:Nat} (hS:∀ b,w0.heap.size<=b->S b) (hrow:rows[i]?=some r) (hj:r[j]?=some (.lit va)) (hc:rows'=rows.set i (r.set j (.sl xn))) (h:So J S w0 N (OB.row va e2 k2 xn::OB.row v e k rows::O) env a w):
 So J S w0 N (OB.row v e k rows'::O) env a w:=by
 have h':=cR h
 have hrd:=qx (v:=va) (e:=e2) (size:=k2) (rows:=xn) (vJ hS h) (OB.sub (h.x.2.1 (OB.row va e2 k2 xn) yz) λk _ hk=>hk.drop)
 refine⟨h'.defs,h'.size,h'.keep,⟨h'.x.1,λp hp=>?_,?_⟩,λp hp=>⟨(h'.env p hp).1,(h'.env p hp).2.sub λ_ _ hk=>xx hk⟩⟩
 · rcases mem_cons.1 hp with rfl | hp
   · obtain⟨us,h1,h2,h3⟩:=h'.x.2.1 (OB.row v e k rows) yz
     have rD:j<r.length:=(List.getElem?_eq_some_iff.1 hj).1
     have p6:r.length=k:=h3 r (List.mem_of_getElem? hrow)
     have fa:rows.flatten[i*k+j]?=some (.lit va):=M0 h3 hrow hj
     refine⟨us,by rw[hc,length_set];exact h1,?_,λq hq=>?_⟩
     · rw[hc,M7 h3 hrow rD]
       refine bD.kg (by rw[length_set];exact h2.length) λp c u g1 g2=>?_
       rw[List.getElem?_set]at g1
       split at g1
       · rename_i gH
         subst gH
         split at g1
         · cases g1
           obtain rfl:=(h2.get fa g2).aG
           simp only[Rel]at hrd
           exact hrd.sub λ_ _ hk=>xx hk
         · cases g1
       · exact(h2.get g1 g2).sub λ_ _ hk=>xx hk
     · rw[hc]at hq
       rcases List.mem_or_eq_of_mem_set hq with hq | rfl
       · exact h3 q hq
       · rw[length_set];exact p6
   · exact OB.sub (h'.x.2.1 p (mem_cons_of_mem _ hp)) λ_ _ hk=>xx hk
 · have:=List.pairwise_cons.1 h'.x.2.2
   exact List.pairwise_cons.2 ⟨λp hp k h1 h2=>this.1 p hp k h1 h2,this.2⟩
end
section
variable {n:Rn} {P:Program} {J X:WP} {S S':Nat->Prop} {O:List OB} {w0 w:World} {o:Oper} {a:Act} {x y:Operand} {t e:TypeId} {v:Value} {k i:Nat}
theorem DF {α:Type} {f:α->List CD} {xs:List α} (u:α) (V:aS J) (hJ0:J w0) (hs:dS P t k) (hop:o.op= .store t x y) (hk0:Keeps All w0 w) (Z:XO J S w0.heap.size (OB.row v e k (xs.map f)::O) w) (h1:Rel S' w (.lit (cA v (i*k))) (a.eval x))
 (h2:Rel (SO S (OB.row v e k (xs.map f)::O)) w (.agg (f u)) (a.eval y)) (hl:i<xs.length) (hn:(f u).length=k):
 Does n P o a w λ_ w'=>db J S w0 (OB.row v e k (xs.map f)::O) w (OB.row v e k ((xs.set i u).map f)::O) w':=by
 simp only[Rel]at h2
 obtain⟨us,hv,hr⟩:=h2
 rw[map_set]
 exact bC (vD V hJ0 hs hop hk0 Z h1 (by rw[hv];rfl) hr (by rw[length_map];exact hl) hn) λ_ _ ⟨_,h⟩=>h
def Cp (P:Program) (t:TypeId):Prop:=∀(u:Value) (w:World),(Instr.field t (.agg #[u]) 0).run P w= .ok u w
theorem Hr {c:CD} (ht:Cp P t) (hop:o.op= .field t x 0) (h:Rel S w (.agg [c]) (a.eval x)) (Z:X w):Does n P o a w (bE S X (.rd c) w):=by
 simp only[Rel]at h
 obtain⟨us,e,hr⟩:=h
 match us,e,hr with
 | [u0],e,hr=>
  refine cJ (v:=u0) ?_ (by simp only[Rel];exact hr.1) Z
  rw[execOp,hop]
  simp only[e,Sem.run_bind,ht u0 w]
  rfl
def Ci (P:Program) (t:TypeId):Prop:=∀(x1 x2 x3 p:Value) (i z:Int) (ad:Option Addr) (k c m:Nat),P.built t [(0,.agg #[x1,x2,x3]),(1,.int .i64 i),(2,.agg #[p]),(3,.slice ad k c),(4,.int .i64 z),(5,.map (some m))]=
 some #[x1,x2,x3,.int .i64 i,p,.slice ad k c,.int .i64 z,.map (some m)]
abbrev PM (d:Db) (i:Int) (ss:List Stp) (ts:List (List BA)) (z:Int) (m:Nat):List CD:=bZ d++[.lit (.int .i64 i),br ss,ct ts,.lit (.int .i64 z),.lit (.map (some m))]
theorem Hm {x0 x1 x2 x3 x4 x5:Operand} {d:Db} {i z:Int} {ss:List Stp} {ts:List (List BA)} {m:Nat} (ht:Ci P t) (hop:o.op= .build t #[(0,x0),(1,x1),(2,x2),(3,x3),(4,x4),(5,x5)]) (h0:Rel S w (.agg (bZ d)) (a.eval x0)) (h1:Rel S w (.int i) (a.eval x1)) (h2:Rel S w (.agg (bw ss)) (a.eval x2))
 (h3:Rel S w (.rd (ct ts)) (a.eval x3)) (h4:Rel S w (.int z) (a.eval x4)) (h5:a.eval x5= .map (some m)) (Z:X w):Does n P o a w (bE S X (.agg (PM d i ss ts z m)) w):=by
 simp only[Rel]at h0 h2 h3
 obtain⟨us,hv,hr⟩:=h0
 obtain⟨ps,hp,hq⟩:=h2
 obtain⟨ad,cap,e3,_,_⟩:=h3.form
 match us,hr,ps,hq with
 | [u1,u2,u3],hr,[p1],hq=>
  refine cJ (v:=.agg (([u1,u2,u3]:List Value)++[Value.int .i64 i,p1,a.eval x3,.int .i64 z,.map (some m)]).toArray) ?_ (by simp only[Rel];exact⟨_,rfl,hr.append (ds:=[_,_,_,_,_]) ⟨.lit _ True.intro,hq.1,h3,.lit _ True.intro,.lit _ True.intro,trivial⟩⟩) Z
  have hrun:=run_build (P:=P) w t #[(0,a.eval x0),(1,a.eval x1),(2,a.eval x2),(3,a.eval x3),(4,a.eval x4),(5,a.eval x5)] #[u1,u2,u3,.int .i64 i,p1,a.eval x3,.int .i64 z,.map (some m)] (by rw[hv,hp,h1.lit,e3,h4.lit,h5];exact ht u1 u2 u3 p1 i z ad _ cap m)
  rw[execOp,hop]
  simp only[List.map_toArray,List.map_cons,List.map_nil,Sem.run_bind,hrun]
  rfl
end
end Go.Proofs.YtdfadihhfppjaaaGreatDoor
namespace Go.Proofs.YtdfadihhfppjaaaGreatDoor
open Go.Proofs.Tryz (prog)
open Go.RowKit
theorem jI:f8 prog 28 [.sl []]:=⟨(.agg #[.slice none 0 0]),λw=>by kernel_rfl,λS w=>(show bD S w [.sl []] [.slice none 0 0]from⟨.nil _ _ aI,U⟩)⟩
theorem We:f8 prog 28 [.lit (.slice none 0 0)]:=⟨(.agg #[.slice none 0 0]),λw=>by kernel_rfl,λS w=>(show bD S w [.lit (.slice none 0 0)] [.slice none 0 0]from⟨.lit _ True.intro,U⟩)⟩
theorem yw:ol prog 88 [.string ⟨#[]⟩,.slice none 0 0]:=⟨λi=>(#[(0,1),(1,1)]:Array (Nat×Nat))[i]?,λj hj=>by rcases j with _ | _ | j<;>first | rfl | (simp at hj;omega) | simp at hj,λparts=>by kernel_rfl⟩
theorem pi:j4 prog 3:=⟨.int .i64 0,λw=>by kernel_rfl⟩
theorem py:jq prog 29 3 1 8:=ov (.int .i64 0) yq yq Y dz (λw=>by kernel_rfl)
theorem qz:dS prog 29 1:=zO
theorem Cf:j4 prog 88:=⟨.agg #[.string ⟨#[]⟩,.slice none 0 0],λw=>by kernel_rfl⟩
theorem ow:jq prog 26 88 2 40:=ov (.agg #[.string ⟨#[]⟩,.slice none 0 0]) yq yq Y dz (λw=>by kernel_rfl)
theorem BG:dS prog 26 1:=zO
theorem fZ:dS prog 28 1:=zO
theorem vi:lE prog 28 1:=⟨#[.slice none 0 0],Y,λi=>(#[(0,1)]:Array (Nat×Nat))[i]?,λj hj=>by rcases j with _ | j<;>first | rfl | omega,λparts=>by kernel_rfl⟩
theorem Ni:c9 prog 37 1 1:=fO
theorem Nj:c9 prog 37 2 2:=fO
theorem zr:c9 prog 37 3 3:=fO
theorem q9:lE prog 88 2:=⟨#[.string ⟨#[]⟩,.slice none 0 0],Y,λi=>(#[(0,1),(1,1)]:Array (Nat×Nat))[i]?,λj hj=>by rcases j with _ | _ | j<;>first | rfl | omega,λparts=>by kernel_rfl⟩
section
variable {J:WP} (V:aS J)
include V
theorem Sz (m:List Bool)  :Fn prog J 61 [.rd (mu m)] (.int (gE m:Nat)):=by
 refine fE Tryz.func61 λS w0 hS hJ0=>?_
 clear hJ0
 refine ln 0 λ_=>?_
 refine qs tb V [0] [_] [_] ?_
 refine qs tb V [0,1000] [_] U2 ?_
 refine af (aJ tb V [1,1000,1001,1002] [_,.int (m.length:Nat),_] [1] U4 Y ⟨aD B4,U⟩ ?_)
 refine ax (lp (ι:=Nat×Nat) (λ(k,n)=>(k<=m.length)/\(n=gE (m.take k))) (λ(k,n)=>[(8,.int (k:Nat)),(3,.int (n:Nat))]) (λ(k,_)=>m.length-k) [1,2,3,0] U2 (0,0) ⟨aI,Y⟩ ?_)
 rintro⟨k,n⟩ ⟨aQ,ah⟩
 refine qs tb V [0,1,2,3,1000] [_] U5 ?_
 refine cI 4 ?_ ?_<;>intro hb1<;>try simp at hb1
 ·
  have e1:n<=k:=by rw[ah];exact Nat.le_trans (Lj _) (by rw[List.length_take];omega)
  refine aj (nx (af (ax (aJ tb V [0,1,2,3,1002] [.ptr [lB (G m k)],_,_] [0] U5 Y ⟨bn nB,U⟩ ?_))))
  refine qs tb V [0,1,2,3,1000] [_] U5 ?_
  refine cj 4 ?_ ?_<;>intro hb2<;>try simp at hb2
  ·
   refine dI tb V [0,1,2,1002] [_,.int (n+1:Nat),_] [1] U4 Y ⟨aM,U⟩ ?_
   refine nx (dI tb V [0,1,3,1001] [.int (k+1:Nat),_] [0] U4 Y ⟨aM,U⟩ ?_)
   exact dO (k+1,n+1) [0,1,3,2] ⟨oz,by rw[yN oz,<-ah];simp[hb2]⟩
  ·
   refine aj (nx (dI tb V [0,1,3,1001] [.int (k+1:Nat),_] [0] U4 Y ⟨aM,U⟩ ?_))
   exact dO (k+1,n) [0,1,3,2] ⟨oz,by rw[yN oz,<-ah];simp[hb2]⟩
 ·
  refine aW (nx (qs tb V [1001] U2 [_] ?_))
  exact aU 0 (hE:=eI (by rw[ah,Lf oz]))
theorem Bg (ss:List Stp) (bv:et ss):Fn prog J 51 [.agg (bw ss)] (.agg (bw (jj ss))):=by
 refine fE Tryz.func51 λS w0 hS hJ0=>?_
 refine tw cc ?_
 have jR:=bv.1
 have cx:=bv.2.1
 have rG:=AX ss
 refine aL (sy (.ptr (bw ss)) (λh=>gc Y (h.get 0 Y) (aK hS _ h.keep h.x _ aV) (jo V h.x)) ?_)
 refine cz jI V Y Y Y (lb Y) λb1=>?_
 refine aA [0,1] U2 Y (nx (aL ?_))
 refine ao 2 tb Y (sy (.int (ss.length:Nat)) (λh=>kh ep Y (h.get 0 Y) h.x) ?_)
 refine xE (f:=bT) (k:=ss.length) (0:Int) FY Y V Y Y Y (lb Y) (λa w h=>⟨(h.get 0 Y),(h.get 0 Y)⟩) az az λv2=>?_
 refine ao 1 tb Y (aA [0,3,5,6] U4 Y ?_)
 refine nx (ln 1 λcx=>?_)
 refine aL (cz We V Y Y Y (lb Y) λb3=>?_)
 refine aA [0,1,3,4] U4 Y (nx (af (tw (iK 88 2 V) ?_)))
 refine au tb V [0,1,2,3,1001,1002,1003] [_,.rd (mu (fN ss)),.int ((fN ss).length:Nat),_] [1,2] U7 Y ⟨bN hS V (GV V ss (by exact bv)) (cO Tryz.func62),aD B4,U⟩ ?_
 refine ln 4 λ_=>?_
 refine ax (lpo (ι:=Nat×(List Stp)×Value×(List Int)×Value) (λ(k,out,_,to,_)=>(k<=ss.length)/\(eo ss (fN ss) k=(to,out))) (λ(_,out,wt,to,wo)=>[OB.row wo 88 2 (out.map bF),OB.var b3 [.lit wo],OB.row wt 3 1 (to.map bT),OB.var b1 [br ([]:List Stp)]]) (λ(k,_,wt,_,_)=>[(17,.int (k:Nat)),(3,.lit wt)]) (λ(k,_,_,_,_)=>(fN ss).length-k) [0,2,3,4,5,6,1] U5 (0,[],v2,List.replicate ss.length (0:Int),(.slice none 0 0)) ⟨aI,Y⟩ ?_)
 rintro⟨k,out,wt,to,wo⟩ ⟨aQ,ah⟩
 refine ak tb V (r7 [1000]) [_] U8 ?_
 refine cI 7 ?_ ?_<;>intro hb1<;>try simp at hb1
 ·
  have e2:to.length=ss.length/\out.length<=k:=by have h9:=xb ss (fN ss) k;rwa [ah]at h9
  refine aj (nx (af (ax (au tb V (r7 [1003,1004]) [_,.ptr [lB (G (fN ss) k)],_,_,_] [1] U9 Y ⟨bn nB,U⟩ ?_))))
  refine af (ak tb V (r8 [1001]) U2 U9 ?_)
  refine cj 8 ?_ ?_<;>intro hb2<;>try simp at hb2
  ·
   refine aW (nx (aT tb V (r5 [6,1001]) [.int (k+1:Nat),_] [0] U7 Y ⟨aM,U⟩ ?_))
   exact bq (k+1,out,wt,to,wo) (r5 [6,5]) ⟨oz,by first | (rw[uk hb2];exact ah) | (rw[ul hb2,ah,bi,show q=(G ss k).args.length by omega,take_length])⟩
  ·
   refine aj (nx (aL (ao 2 tb Y (sy (.at b3 0) (λh=>cv il Y (h.get 2 Y) h.x) ?_))))
   refine sy (.lit wo) (λh=>cg iF Y (aH h.x (mo 1 Y)) (h.get 0 Y) Y h.x) ?_
   refine sy (.int (out.length:Nat)) (λh=>oV (by rw[length_map]) ep Y (aH h.x (mo 0 Y)) (h.get 0 Y) h.x) ?_
   refine sy (.lit (cA wt (k*1))) (λh=>eQ (i:=(k:Int)) dc Y (aH h.x (mo 2 Y)) (h.get 4 Y) (h.get 3 Y) bM (by rw[length_map];exact Int.ofNat_lt.2 az) h.x) ?_
   refine kw dq (qF (i:=k) V hJ0 qA Y Y Y (by rw[length_map];exact az) (λa w h=>⟨(h.get 0 Y),(h.get 1 Y)⟩) ?_)
   rw[show(to.map bT).set k [lI (out.length:Int)]=(to.set k (out.length:Int)).map bT from map_set.symm]
   refine aA [6,7,8,9,10,11,12,13] U8 Y (nx (aL ?_))
   refine ao 3 tb Y (sy (.ptr (bF (G ss k))) (λh=>cb (i:=(k:Int)) ey Y (h.get 1 Y) (h.get 0 Y) bM (cq (xs:=ss) (k:=k) az) Y h.x) ?_)
   refine ao 2 tb Y (sq (.agg [lS ((G ss k).ae),.lit (.slice none 0 0)]) Y Y (lb Y) (λa _ h=>gg (ps:=[(0,a.eval (.tmp 35))]) (us:=[a.eval (.tmp 35),.slice none 0 0]) yw Y yz (kq (lb Y) (Rel.l7 (h.get 0 Y)) f9) Y (bX (h.get 0 Y) (dP (.lit _ True.intro) cE)) h.x) ?_)
   refine cz og V Y Y Y (lb Y) λb4=>?_
   refine ck (b:=b4) (off:=0) (es:=U2) (news:=U2) V hJ0 n9 Y Y Y (lb Y) Y (λa w h=>⟨(h.get 0 Y),(h.get 1 Y)⟩) ?_
   refine aA [0,8,9,10,11,12,13,14,15] U9 Y (nx (af (tw (iK 3 1 V) ?_)))
   refine au tb V (r8 [1005,1006,1007]) (V3 [.ptr (bF (G ss k)),_,_,.int (((G ss k).args).length:Nat),_]) [3,6] lJ Y ⟨bn ey,aD eW,U⟩ ?_
   refine ln 8 λ_=>?_
   refine ax (lpo (ι:=Nat×(List Int)×Value) (λ(q,nums,_)=>(q<=(G ss k).args.length)/\(nums=l8 (to.set k (out.length:Int)) ((G ss k).args.take q))) (λ(_,nums,wa)=>[OB.row wa 3 1 (nums.map bT),OB.var b4 [lS ((G ss k).ae),.lit wa],OB.row wt 3 1 ((to.set k (out.length:Int)).map bT),OB.row wo 88 2 (out.map bF),OB.var b3 [.lit wo],OB.var b1 [br ([]:List Stp)]]) (λ(q,_,_)=>[(44,.int (q:Nat))]) (λ(q,_,_)=>(G ss k).args.length-q) (qo []) fw (0,[],(.slice none 0 0)) ⟨aI,Y⟩ ?_)
   rintro⟨q,nums,wa⟩ ⟨fx,bi⟩
   refine ak tb V (qo [1000]) [_] oo ?_
   refine cI 11 ?_ ?_<;>intro aE<;>try simp at aE
   ·
    have e4:=ua bv (k:=k) (j:=q) oz oz
    have e5:nums.length=q:=by rw[bi,l8,length_map,List.length_take];omega
    have e6:=wY bv (show k<ss.length by omega)
    refine aj (nx (af (ax (au tb V (qo [1002]) [.ptr [lI (G ((G ss k).args) q)],_,_] [0] oo Y ⟨bn dc,U⟩ ?_))))
    refine tw bQ (tw bQ ?_)
    refine λa w h=>oZ [OB.var b4 [lS ((G ss k).ae),.lit wa],OB.row wt 3 1 ((to.set k (out.length:Int)).map bT),OB.row wo 88 2 (out.map bF),OB.var b3 [.lit wo],OB.var b1 [br ([]:List Stp)]] (γ:=Value) (λix'=>([.at b4 1,.lit wa,.lit wt,.int (G ((G ss k).args) q),.lit (cA wt (((G ((G ss k).args) q).toNat)*1)),.int (G (to.set k (out.length:Int)) ((G ((G ss k).args) q).toNat)),.rd (bS ([(G (to.set k (out.length:Int)) ((G ((G ss k).args) q).toNat))])),.any,.at b4 1,.any]:List AV).getD ix' .any) (λ_=>true) [(7,λ_=>.at b4 0),(4,λ_=>.at b3 0),(2,λ_=>.at b1 0),(1,λ_=>.ptr (bw ss)),(15,λ_=>.rd (mu (fN ss))),(16,λ_=>.int ((fN ss).length:Nat)),(17,λ_=>.int (k:Nat)),(3,λ_=>.lit wt),(42,λ_=>.rd (bS ((G ss k).args))),(43,λ_=>.int (((G ss k).args).length:Nat)),(44,λ_=>.int (q:Nat))] (λj' g=>match j' with | 0=>[OB.row wa 3 1 (nums.map bT),OB.var b4 [lS ((G ss k).ae),.lit wa],OB.row wt 3 1 ((to.set k (out.length:Int)).map bT),OB.row wo 88 2 (out.map bF),OB.var b3 [.lit wo],OB.var b1 [br ([]:List Stp)]] | 1=>[OB.row g 3 1 ((nums++([(G (to.set k (out.length:Int)) ((G ((G ss k).args) q).toNat))])).map bT),OB.var b4 [lS ((G ss k).ae),.lit wa],OB.row wt 3 1 ((to.set k (out.length:Int)).map bT),OB.row wo 88 2 (out.map bF),OB.var b3 [.lit wo],OB.var b1 [br ([]:List Stp)]] | _=>[OB.row g 3 1 ((nums++([(G (to.set k (out.length:Int)) ((G ((G ss k).args) q).toNat))])).map bT),OB.var b4 [lS ((G ss k).ae),.lit g],OB.row wt 3 1 ((to.set k (out.length:Int)).map bT),OB.row wo 88 2 (out.map bF),OB.var b3 [.lit wo],OB.var b1 [br ([]:List Stp)]]) (λk' g=>match k' with | 0=>g | _=>undef) [7,9] 1 (.slice none 0 0) (λ_=>Y) h V cP Y Y Y Y Y Y hsb ⟨oX Y λZ hl=>cv mC Y (hl.env 0 7 _ Y Y) Z,λ_ O' cf=>⟨Y,λ_ _ _ Z hl _=>cg iG Y (aH Z (cf _ (mo 0 Y))) (hl.D 0 48 Y Y) Y Z⟩,oX Y λZ hl=>b8 Y (hl.env 7 3 _ Y Y) Z,oX Y λZ hl=>b8 Y (hl.env 11 9 _ Y Y) Z,?_,?_,oY Y λhk Z hl=>ft dc pi Y (hl.D 5 53 Y Y) (aK hS _ hk Z _ aV) (jo V Z),bB Y,oX Y λZ hl=>cv mC Y (hl.env 0 7 _ Y Y) Z,bB Y,U⟩ ⟨?LJ,?LK,U⟩ ⟨.old 0 7 _,.old 1 4 _,.old 2 2 _,.old 3 1 _,.old 4 15 _,.old 5 16 _,.old 6 17 _,.old 7 3 _,.old 8 42 _,.old 9 43 _,.old 10 44 _,U⟩ ?Xh
    exact λ_ O' cf=>⟨Y,λ_ _ _ Z hl _=>eQ (i:=(G ((G ss k).args) q)) dc Y (aH Z (cf _ (mo 1 Y))) (hl.D 2 50 Y Y) (hl.D 3 51 Y Y) az (by rw[length_map];exact az) Z⟩
    exact λ_ O' cf=>⟨Y,λ_ _ _ Z hl _=>mZ (i:=(G ((G ss k).args) q).toNat) fY Y (aH Z (cf _ (mo 1 Y))) (hl.D 4 52 Y Y) (ir (xs:=to.set k (out.length:Int)) (k:=(G ((G ss k).args) q).toNat) az) Z⟩
    case LJ=>exact⟨_,Y,Y,Y,Y,λ_ _ w hk Z hl _=>bC (lj (f:=bT) nums ([(G (to.set k (out.length:Int)) ((G ((G ss k).args) q).toNat))]) (λ_=>rfl) py V hJ0 Y hk Z (hl.D 1 49 Y Y).lit (hl.D 6 54 Y Y) (by simp;omega) (by simp;omega)) λv w' hp=>⟨v,Y,λk' hk'=>absurd hk' (Nat.not_lt_zero _),λ_=>rfl,hp⟩⟩
    case LK=>exact⟨_,Y,Y,Y,Y,λg _ w hk Z hl hs=>bC (DH (off:=1) (cs:=[lS ((G ss k).ae),.lit wa]) (es:=[lS ((G ss k).ae),.lit g]) (c:=.lit g) V hJ0 qz Y hk Z (hl.D 8 56 Y Y) (by rw[(hs 0 7 _ 55 oz Y Y Y)];exact Rel.aG _ (m6 (Z.2.1 _ (mo 0 Y)))) (lb Y) Y) λv w' hp=>⟨g,Y,λ_ _=>rfl,λe=>(by cases e),hp⟩⟩
    clear a w h
    intro v5
    dsimp only[List.map]
    refine nx (ln 8 λtF=>?_)
    refine aT tb V (ma [1001]) [.int (q+1:Nat),_] [0] lJ Y ⟨aM,U⟩ ?_
    exact bq (q+1,nums++([(G (to.set k (out.length:Int)) ((G ((G ss k).args) q).toNat))]),v5) (qo []) ⟨oz,by rw[bi];exact G3 oz⟩
   ·
    refine aW (nx (tw bQ (tw bQ ?_)))
    refine tw (λh=>mf (j:=1) (cs':=[lS ((G ss k).ae),bS nums]) hS Y Y h) (cG (sq (.at b3 0) Y Y (lb Y) (λ_ _ h=>cv il Y (h.get 1 Y) h.x) ?_))
    refine sy (.lit wo) (λh=>cg iF Y (aH h.x (mo 3 Y)) (h.get 0 Y) Y h.x) ?_
    refine sy (.agg (bF (⟨(G ss k).ae,nums⟩:Stp))) (λh=>iX (ds:=[lS ((G ss k).ae),bS nums]) qX Y (aH h.x (mo 0 Y)) (h.get 2 Y) Y Y h.x) ?_
    refine sy (.rd (br ([(⟨(G ss k).ae,nums⟩:Stp)]))) (λh=>mY ey Cf dz Y Y (h.get 0 Y) (aK hS _ h.keep h.x _ aV) (jo V h.x)) ?_
    refine kw dq (fP (f:=bF) (m:=2) (s:=59) out ([(⟨(G ss k).ae,nums⟩:Stp)]) (λ_=>Y) ow V hJ0 Y Y Y (lb Y) Y Y (λa w h=>(h.get 0 Y)) (by simp;omega) (by simp;omega) λv6=>?_)
    refine sy (.at b3 0) (λh=>cv il Y (h.get 6 Y) h.x) ?_
    refine kw gN (gz (b:=b3) (off:=0) (es:=[_]) V hJ0 BG Y Y Y (lb Y) Y (λa w h=>⟨(h.get 0 Y),(h.get 1 Y)⟩) ?_)
    refine aA [2,7,8,9,10,11,12,13] U8 Y (nx (ln 0 λE4=>?_))
    refine aT tb V [1,2,3,4,5,7,1001] [.int (k+1:Nat),_] [0] U7 Y ⟨aM,U⟩ ?_
    refine kw dq (kw cR ?_)
    refine kw gN (kw gN ?_)
    refine kw dq (kw gN ?_)
    exact bq (k+1,out++([(⟨(G ss k).ae,nums⟩:Stp)]),wt,to.set k (out.length:Int),v6) (r5 [6,5]) ⟨oz,by first | (rw[uk hb2];exact ah) | (rw[ul hb2,ah,bi,show q=(G ss k).args.length by omega,take_length])⟩
 ·
  have e1:out=jj ss:=by rw[jj,show ss.length=k by omega,ah]
  refine aW (nx (tw bQ (tw bQ ?_)))
  refine tw (λh=>mf (j:=0) (cs':=[br out]) hS Y Y h) (aL ?_)
  refine sy (.agg (bw out)) (λh=>iX (ds:=[br out]) eY Y (aH h.x (mo 0 Y)) (h.get 0 Y) Y Y h.x) ?_
  refine kw dq (ck (b:=b1) (off:=0) (es:=[_]) (news:=[_]) V hJ0 fZ Y Y Y (lb Y) Y (λa w h=>⟨(h.get 2 Y),(h.get 0 Y)⟩) ?_)
  exact aA [2] [_] Y (nx (aZ (λa w h=>jU (m:=0) Y eY h Y Y (show(_:List CD)=[br (jj ss)]from by(rw[e1])<;>rfl))))
theorem w8 (l:List BA) (hl:l.length<=2000) (hs:∀ s∈l,s.size<=60):Fn prog J 64 [.rd (ai l)] (.str (cn l)):=by
 refine fE Tryz.func64 λS w0 hS hJ0=>?_
 clear hJ0
 refine ln 0 λ_=>?_
 refine qs tb V [0] [_] [_] ?_
 refine aJ tb V [1002] [_,.str (qc l (⟨#[10]⟩:BA)),_] [1] [_] Y ⟨dh hS V (Sd V l (⟨#[10]⟩:BA) oz (by have h9:=PR hs;omega)) (cO Tryz.func91),U⟩ ?_
 exact aU 0 (hE:=eS (Y))
theorem A8 (xs:List Int) (b:xs.length*8<=140737488351232):eX (ι:=Value) prog J 35 [] [.rd (bS xs)] [] (λi'=>.lit (i')) (λi'=>[OB.row i' 3 1 (xs.map bT)]):=by
 refine i7 Tryz.func35 λS w0 R hS hJ0 hH=>?_
 refine gQ (B:=So J S w0 8 (R) [(0,.rd (bS xs))]) ?_ λa w h=>h
 refine ln 0 λ_=>?_
 refine ak tb V [0] [_] [_] ?_
 refine af (aL (ao 1 tb Y (uz (f:=bT) (xs:=xs) eW Y Y Y (lb Y) (λa w h=>(h.get 0 Y)) λg1 lW=>?_)))
 refine aA [0,2] U2 Y (nx (cj 0 (λhb1=>?_) λhb1=>?_))
 ·
  try simp at hb1
  refine ak tb V [1000] [_] [_] ?_
  refine tw (iK 3 1 V) (tw (ji (congrArg (λz'=>OB.row (.slice none 0 0) 3 1 ((z').map bT)) (show([]:List Int)=xs from by first | exact(lW (by assumption)).symm | simp))) ?_)
  exact aZ (λa w h=>dt  (m:=0) (.slice none 0 0) Y h Y Y)
 ·
  try simp at hb1
  refine aj (nx (af (λa w h=>nZ (id:=3) (t:=29) (e:=3) (size:=1) (bytes:=8) (i0:=0) (dg:=3) (d:=2) (ch:=[(2,(xs.map bT))]) (λix'=>([.any,.rd (bS xs),.any,.any]:List AV).getD ix' .any) (λ_=>true) [] (xs.map bT) yz ?nY V hJ0 h cP Y Y Y Y ⟨?_,?_,?_,?_,U⟩ trivial (λv2=>?nU))))
  case nY=>
   refine Row.mk' py ⟨_,Y,Y,Y,Y,Y⟩ ⟨?oi,U⟩ ⟨_,_,_,_,Y,Y,Y,Y,Y,Y,Y,Y,Y⟩ Y Y Y
   case oi=>exact⟨_,_,_,_,Y,Y,Y,Y,Y,Y,Y,Y,je (f:=bT) (λ_=>rfl),(by have hm:maxLen=9223372036854775807:=Y;simp[upto];first | omega | (simp;omega)),(by have hm:maxLen=9223372036854775807:=Y;simp[upto];first | omega | (simp;omega)),λ_ _ _ _ _ hl=>(hl.D 1 6 Y Y)⟩
  exact λh=>bB Y h
  exact λ_ _=>⟨Y,λ_ _ _ Z hl _=>b8 Y (hl.env 1 0 _ Y Y) Z⟩
  exact λh=>bB Y h
  exact λh=>bB Y h
  clear a w h
  exact nx (aZ (λa w h=>dt  (m:=0) v2 Y h Y Y))
theorem RR (xs:List Stp) (b:xs.length*40<=140737488351232):eX (ι:=Value) prog J 40 [] [.rd (br xs)] [] (λi'=>.lit (i')) (λi'=>[OB.row i' 88 2 (xs.map bF)]):=by
 refine i7 Tryz.func40 λS w0 R hS hJ0 hH=>?_
 refine gQ (B:=So J S w0 8 (R) [(0,.rd (br xs))]) ?_ λa w h=>h
 refine ln 0 λ_=>?_
 refine ak tb V [0] [_] [_] ?_
 refine af (aL (ao 1 tb Y (uz (f:=bF) (xs:=xs) ep Y Y Y (lb Y) (λa w h=>(h.get 0 Y)) λg1 lW=>?_)))
 refine aA [0,2] U2 Y (nx (cj 0 (λhb1=>?_) λhb1=>?_))
 ·
  try simp at hb1
  refine ak tb V [1000] [_] [_] ?_
  refine tw (iK 88 2 V) (tw (ji (congrArg (λz'=>OB.row (.slice none 0 0) 88 2 ((z').map bF)) (show([]:List Stp)=xs from by first | exact(lW (by assumption)).symm | simp))) ?_)
  exact aZ (λa w h=>dt  (m:=0) (.slice none 0 0) Y h Y Y)
 ·
  try simp at hb1
  refine aj (nx (af (λa w h=>nZ (id:=3) (t:=26) (e:=88) (size:=2) (bytes:=40) (i0:=0) (dg:=3) (d:=2) (ch:=[(2,(xs.map bF))]) (λix'=>([.any,.rd (br xs),.any,.any]:List AV).getD ix' .any) (λ_=>true) [] (xs.map bF) yz ?nY V hJ0 h cP Y Y Y Y ⟨?_,?_,?_,?_,U⟩ trivial (λv2=>?nU))))
  case nY=>
   refine Row.mk' ow ⟨_,Y,Y,Y,Y,Y⟩ ⟨?oi,U⟩ ⟨_,_,_,_,Y,Y,Y,Y,Y,Y,Y,Y,Y⟩ Y Y Y
   case oi=>exact⟨_,_,_,_,Y,Y,Y,Y,Y,Y,Y,Y,je (f:=bF) (λ_=>rfl),(by have hm:maxLen=9223372036854775807:=Y;simp[upto];first | omega | (simp;omega)),(by have hm:maxLen=9223372036854775807:=Y;simp[upto];first | omega | (simp;omega)),λ_ _ _ _ _ hl=>(hl.D 1 6 Y Y)⟩
  exact λh=>bB Y h
  exact λ_ _=>⟨Y,λ_ _ _ Z hl _=>b8 Y (hl.env 1 0 _ Y Y) Z⟩
  exact λh=>bB Y h
  exact λh=>bB Y h
  clear a w h
  exact nx (aZ (λa w h=>dt  (m:=0) v2 Y h Y Y))
theorem GA (xs:List Int) (b:xs.length*8<=140737488351232):Fn prog J 35 [.rd (bS xs)] (.rd (bS xs)):=Nv (A8 V xs b)
theorem GM (ss:List Stp) (c:cd) (bv:et ss) (gJ:0<=c.step) (fU:c.step< (ss.length:Int)) (jQ:∀ a∈c.args,0<=a/\a<c.step) (cY:c.args.length<=40) (hc1:c.dQ=2∨1<=c.args.length):Fn prog J 34 [.agg (bw ss),.agg (cw c)] (.agg (bw (cu ss c))):=by
 refine fE Tryz.func34 λS w0 hS hJ0=>?_
 refine tw cc ?_
 have jR:=bv.1
 have cx:=bv.2.1
 refine aL (sy (.ptr (bw ss)) (λh=>gc Y (h.get 0 Y) (aK hS _ h.keep h.x _ aV) (jo V h.x)) ?_)
 refine sy (.ptr (cw c)) (λh=>gc Y (h.get 2 Y) (aK hS _ h.keep h.x _ aV) (jo V h.x)) ?_
 refine cz jI V Y Y Y (lb Y) λb1=>?_
 refine aA [0,1,2] U3 Y (nx (aL ?_))
 refine ao 2 tb Y (iI (O:=[]) (R:=[OB.var b1 [br ([]:List Stp)]]) (RR V ss oz) (cO Tryz.func40) Y Y Y (lb Y) hS hJ0 b9 (λa w h=>(aq (h.get 0 Y) aP)) λz2=>?_)
 refine sq (.agg [.lit z2]) Y Y (lb Y) (λa _ h=>gd (us:=[a.eval (.tmp 12)]) vi Y yz (bX (h.get 0 Y) cE) Y h.x) ?_
 refine cz jI V Y Y Y (lb Y) λb3=>?_
 refine ck (b:=b3) (off:=0) (es:=[_]) (news:=[_]) V hJ0 fZ Y Y Y (lb Y) Y (λa w h=>⟨(h.get 0 Y),(h.get 1 Y)⟩) ?_
 refine aA [0,3,5,6] U4 Y (nx (ln 1 λcx=>?_))
 refine af (ak tb V [0,2,3,1002] U3 U4 ?_)
 refine cj 3 ?_ ?_<;>intro hb1<;>try simp at hb1
 ·
  have e9:cu ss c=jj (ss.set c.step.toNat ⟨c.ae,c.args⟩):=if_pos hb1
  refine af (tw bQ (λa w h=>iq (γ:=Unit) (λix'=>([.at b3 0,.lit z2,.ptr [lI c.step,lS c.ae,bS c.args,lI c.before,lI c.after],.int c.step,.ptr [lS c.ae,bS c.args,lI c.before,lI c.after],.str c.ae,.ptr [bS c.args,lI c.before,lI c.after],.rd (bS c.args),.rd (bS c.args),.agg (bF (⟨c.ae,c.args⟩:Stp)),.lit (cA z2 (c.step.toNat*2)),.any]:List AV).getD ix' .any) (λ_=>true) [(5,λ_=>.at b3 0),(4,λ_=>.at b1 0)] (λj' _=>match j' with | 0=>[OB.row z2 88 2 (ss.map bF),OB.var b3 [.lit z2],OB.var b1 [br ([]:List Stp)]] | _=>[OB.row z2 88 2 ((ss.set c.step.toNat (⟨c.ae,c.args⟩:Stp)).map bF),OB.var b3 [.lit z2],OB.var b1 [br ([]:List Stp)]]) (λ_ _=>undef) [11] 0 () (λ_=>Y) h V cP Y Y Y Y Y Y hsb ⟨oX Y λZ hl=>cv il Y (hl.env 0 5 _ Y Y) Z,λ_ O' cf=>⟨Y,λ_ _ _ Z hl _=>cg iF Y (aH Z (cf _ (mo 1 Y))) (hl.D 0 17 Y Y) Y Z⟩,oX Y λZ hl=>ca Ni Y (hl.env 2 3 _ Y Y) Z,oX Y λZ hl=>bU fY Y (hl.D 2 19 Y Y) Z,oX Y λZ hl=>ca Nj Y (hl.env 2 3 _ Y Y) Z,oX Y λZ hl=>bU fd Y (hl.D 4 21 Y Y) Z,oX Y λZ hl=>ca zr Y (hl.env 2 3 _ Y Y) Z,oX Y λZ hl=>bU iG Y (hl.D 6 23 Y Y) Z,?_,?_,?_,bB Y,U⟩ ⟨?nA,U⟩ ⟨.old 0 5 _,.old 1 4 _,U⟩ ?nU))
  exact oY Y λhk Z hl=>cQ (GA V c.args oz) (cO Tryz.func35) Y (aK hS _ hk Z) (Z.1) (aq (hl.D 7 24 Y Y) aP) (jo V Z)
  exact λ_ O' _=>⟨Y,λa _ _ Z hl _=>gd (us:=[a.eval (.tmp 22),a.eval (.tmp 25)]) q9 Y yz (bX (hl.D 5 22 Y Y) (bX (hl.D 8 25 Y Y) cE)) Y Z⟩
  exact λ_ O' cf=>⟨Y,λ_ _ _ Z hl _=>eQ (i:=c.step) ey Y (aH Z (cf _ (mo 0 Y))) (hl.D 1 18 Y Y) (hl.D 3 20 Y Y) az (by rw[length_map];exact az) Z⟩
  case nA=>exact⟨_,Y,Y,Y,Y,λg _ w hk Z hl _=>bC (DF (f:=bF) (i:=c.step.toNat) (⟨c.ae,c.args⟩:Stp) V hJ0 n9 Y hk Z (hl.D 10 27 Y Y) (hl.D 9 26 Y Y) az Y) λv w' hp=>⟨g,Y,λ_ _=>rfl,λe=>(by cases e),hp⟩⟩
  clear a w h
  intro _
  dsimp only[List.map]
  refine nx (tw bQ (tw bQ ?_))
  refine tw (λh=>mf (j:=0) (cs':=[br (ss.set c.step.toNat (⟨c.ae,c.args⟩:Stp))]) hS Y Y h) (aL ?_)
  refine sy (.agg (bw (ss.set c.step.toNat (⟨c.ae,c.args⟩:Stp)))) (λh=>iX (ds:=[br (ss.set c.step.toNat (⟨c.ae,c.args⟩:Stp))]) eY Y (aH h.x (mo 0 Y)) (h.get 0 Y) Y Y h.x) ?_
  refine sy (.agg (bw (jj (ss.set c.step.toNat (⟨c.ae,c.args⟩:Stp))))) (λh=>cQ (Bg V (ss.set c.step.toNat (⟨c.ae,c.args⟩:Stp)) (by first | exact ub bv (k:=c.step.toNat) (s:=⟨c.ae,c.args⟩) ⟨cY,λa ha=>by have:=jQ a ha;omega⟩ | (rw[e1];exact nR) | (rw[e1];exact A4 nR oz))) (cO Tryz.func51) Y (aK hS _ h.keep h.x) (h.x.1) (aq (h.get 0 Y) aP) (jo V h.x)) ?_
  refine kw bQ (ck (b:=b1) (off:=0) (es:=[_]) (news:=[_]) V hJ0 fZ Y Y Y (lb Y) Y (λa w h=>⟨(h.get 3 Y),(h.get 0 Y)⟩) ?_)
  exact aA [3] [_] Y (nx (aZ (λa w h=>jU (m:=0) Y eY h Y Y (show(_:List CD)=[br (cu ss c)]from by(first | (rw[e9];done) | rw[e9,<-e1])<;>rfl))))
 ·
  have h1:1<=c.args.length:=by rcases hc1 with h | h;exact absurd h hb1;exact h
  have hg:0<=G c.args 0/\G c.args 0<c.step:=jQ _ (aC oz)
  have nR:=Gp bv hg.1 hg.2
  refine aj (nx (af (lZ tb V [0,1,2,1001,1002,1003] [.at b3 0,.lit z2,.int (ss.length:Nat),_] [0,1,2] U6 Y ⟨λ_ _ _ Z hl _=>cv il Y (hl.env 0 5 _ Y Y) Z,λ_ _ _ Z hl _=>cg iF Y (ug Z (mo 0 Y)) (hl.D 0 30 Y Y) Y Z,λ_ _ _ Z hl _=>kh ep Y (kB hS Z (mo 1 Y) (hl.D 1 31 Y Y)) Z,U⟩ ?_)))
  refine ax (lpo (ι:=Nat×(List Stp)) (λ(k,out)=>(k<=ss.length)/\(out=jf (jE c) ss k)) (λ(_,out)=>[OB.var b3 [.lit z2],OB.row z2 88 2 (out.map bF),OB.var b1 [br ([]:List Stp)]]) (λ(k,_)=>[(33,.int (k:Nat))]) (λ(k,_)=>ss.length-k) (r6 []) U5 (0,ss) ⟨aI,wU.symm⟩ ?_)
  rintro⟨k,out⟩ ⟨aQ,ah⟩
  refine ak tb V (r6 [1000]) [_] U7 ?_
  refine cI 6 ?_ ?_<;>intro hb2<;>try simp at hb2
  ·
   have e5:out.length=ss.length:=by rw[ah,qf]
   have e6:=wY bv (show k<ss.length by omega)
   refine aj (nx (af (ax (af (cG (ao 1 tb Y (sy (.lit (cA z2 (k*2))) (λh=>eQ (i:=(k:Int)) ey Y (aH h.x (mo 1 Y)) (h.get 4 Y) (h.get 6 Y) bM (by rw[length_map];exact Int.ofNat_lt.2 az) h.x) ?_)))))))
   refine sy (.agg (bF (G out k))) (λh=>oW (i:=k) qX Y (aH h.x (mo 1 Y)) (h.get 0 Y) (ir (xs:=out) (k:=k) az) Y h.x) ?_
   refine cz og V Y Y Y (lb Y) λb4=>?_
   refine ao 1 tb Y (ck (b:=b4) (off:=0) (es:=U2) (news:=U2) V hJ0 n9 Y Y Y (lb Y) Y (λa w h=>⟨(h.get 1 Y),(h.get 2 Y)⟩) ?_)
   refine kw (λh=>fg hS h (m:=1) (s:=7) Y) (aA [0,1,5,6,7,8,9,10] U8 Y ?_)
   refine kw (sa 0 Y (show(.ptr (bF (G out k)):AV)= .ptr (bF (G ss k))from by rw[ah,rP oz])) (nx (af (λa w h=>iq (γ:=Value) (λix'=>([.at b3 0,.lit z2,.int (k:Nat),.ptr [bS ((G ss k).args)],.rd (bS ((G ss k).args)),.any,.lit (cA z2 (k*2)),.lit (cA z2 (k*2+1)),.any]:List AV).getD ix' .any) (λ_=>true) [(7,λ_=>.ptr (bF (G ss k))),(6,λ_=>.int (k:Nat)),(5,λ_=>.at b3 0),(4,λ_=>.at b1 0),(3,λ_=>.ptr (cw c)),(31,λ_=>.lit z2),(32,λ_=>.int (ss.length:Nat)),(33,λ_=>.int (k:Nat))] (λj' g=>match j' with | 0=>[OB.var b3 [.lit z2],OB.row z2 88 2 (out.map bF),OB.var b1 [br ([]:List Stp)]] | 1=>[OB.row g 3 1 (((G ss k).args).map bT),OB.var b3 [.lit z2],OB.row z2 88 2 (out.map bF),OB.var b1 [br ([]:List Stp)]] | _=>[OB.row g 3 1 (((G ss k).args).map bT),OB.var b3 [.lit z2],OB.row z2 88 2 ((out.map bF).set k ((bF (G out k)).set 1 (.lit g))),OB.var b1 [br ([]:List Stp)]]) (λk' g=>match k' with | 0=>g | _=>undef) [5,8] 1 (.slice none 0 0) (λ_=>Y) h V cP Y Y Y Y Y Y hsb ⟨oX Y λZ hl=>cv il Y (hl.env 2 5 _ Y Y) Z,λ_ O' cf=>⟨Y,λ_ _ _ Z hl _=>cg iF Y (aH Z (cf _ (mo 0 Y))) (hl.D 0 38 Y Y) Y Z⟩,oX Y λZ hl=>b8 Y (hl.env 1 6 _ Y Y) Z,oX Y λZ hl=>ca mC Y (hl.env 0 7 _ Y Y) Z,oX Y λZ hl=>bU iG Y (hl.D 3 41 Y Y) Z,bB Y,?_,?_,bB Y,U⟩ ⟨?y9,?Mm,U⟩ ⟨.old 0 7 _,.old 1 6 _,.old 2 5 _,.old 3 4 _,.old 4 3 _,.old 5 31 _,.old 6 32 _,.old 7 33 _,U⟩ ?QP)))
   exact λ_ O' cf=>⟨Y,λ_ _ _ Z hl _=>eQ (i:=(k:Int)) ey Y (aH Z (cf _ (mo 1 Y))) (hl.D 1 39 Y Y) (hl.D 2 40 Y Y) bM (by rw[length_map];exact Int.ofNat_lt.2 az) Z⟩
   exact λ_ O' cf=>⟨Y,λ_ _ _ Z hl _=>xf mC Y (aH Z (cf _ (mo 1 Y))) (by rw[length_map];exact Nat.lt_of_le_of_lt (Nat.zero_le k) az) (hl.D 6 44 Y Y) Z⟩
   case y9=>exact⟨_,Y,Y,Y,Y,λ_ _ w hk Z hl _=>bC (pI (O:=[]) (R:=[OB.var b3 [.lit z2],OB.row z2 88 2 (out.map bF),OB.var b1 [br ([]:List Stp)]]) (A8 V ((G ss k).args) oz) (cO Tryz.func35) Y hS hJ0 b9 hk Z (aq (hl.D 4 42 Y Y) aP)) λv w' ⟨i,hp,hv⟩=>⟨i,Y,λk' hk'=>absurd hk' (Nat.not_lt_zero _),λ_=>hv.lit,hp⟩⟩
   case Mm=>exact⟨_,Y,Y,Y,Y,λg _ w hk Z hl hs=>bC (DE (i:=k) (j:=1) (c:=.lit g) V hJ0 qz Y hk (fI (eE (A:=[OB.row g 3 1 (((G ss k).args).map bT),OB.var b3 [.lit z2]])) Z) (hl.D 7 45 Y Y) (by rw[(hs 0 5 _ 43 oz Y Y Y)];exact Rel.aG _ (m6 (Z.2.1 _ (mo 0 Y)))) (ir (xs:=out) (k:=k) az) (lb Y)) λv w' hp=>⟨g,Y,λ_ _=>rfl,λe=>(by cases e),kF (eE (A:=[OB.row g 3 1 (((G ss k).args).map bT),OB.var b3 [.lit z2]])).symm (eE (A:=[OB.row g 3 1 (((G ss k).args).map bT),OB.var b3 [.lit z2]])).symm hp⟩⟩
   clear a w h
   intro z5
   dsimp only[List.map]
   refine nx (au tb V [1,2,3,4,5,6,7,1001,1002,1003] [_,_,.int (((G ss k).args).length:Nat),_] [2] fw Y ⟨aD eW,U⟩ ?_)
   refine ln 7 λ_=>?_
   refine ax (lpo (ι:=Nat×(List Int)) (λ(q,nums)=>(q<=(G ss k).args.length)/\(nums=jf (me c) (G ss k).args q)) (λ(_,nums)=>[OB.row z5 3 1 (nums.map bT),OB.var b3 [.lit z2],OB.row z2 88 2 ((out.map bF).set k ((bF (G out k)).set 1 (.lit z5))),OB.var b1 [br ([]:List Stp)]]) (λ(q,_)=>[(49,.int (q:Nat))]) (λ(q,_)=>(G ss k).args.length-q) (ma []) U9 (0,((G ss k).args)) ⟨aI,wU.symm⟩ ?_)
   rintro⟨q,nums⟩ ⟨fx,bi⟩
   refine ak tb V (ma [1000]) [_] lJ ?_
   refine cI 10 ?_ ?_<;>intro aE<;>try simp at aE
   ·
    have e7:nums.length=(G ss k).args.length:=by rw[bi,qf]
    refine aj (nx (af (ax (au tb V (ma [1003,1004]) [_,.ptr [lI (G ((G ss k).args) q)],_,_,_] [1] oo Y ⟨bn dc,U⟩ ?_))))
    refine ak tb V (qo [1003]) U4 oo ?_
    refine cj 11 ?_ ?_<;>intro bh<;>try simp at bh
    ·
     refine λa w h=>iq (γ:=Unit) (λix'=>([.at b3 0,.lit z2,.int (k:Nat),.lit (cA z2 (k*2)),.lit (cA z2 (k*2+1)),.lit z5,.int (q:Nat),.ptr [bS c.args,lI c.before,lI c.after],.rd (bS c.args),.ptr [lI (G c.args 0)],.int (G c.args 0),.lit (cA z5 (q*1)),.any]:List AV).getD ix' .any) (λ_=>true) [(6,λ_=>.int (k:Nat)),(5,λ_=>.at b3 0),(4,λ_=>.at b1 0),(3,λ_=>.ptr (cw c)),(31,λ_=>.lit z2),(32,λ_=>.int (ss.length:Nat)),(33,λ_=>.int (k:Nat)),(47,λ_=>.rd (bS ((G ss k).args))),(48,λ_=>.int (((G ss k).args).length:Nat)),(49,λ_=>.int (q:Nat))] (λj' _=>match j' with | 0=>[OB.row z5 3 1 (nums.map bT),OB.var b3 [.lit z2],OB.row z2 88 2 ((out.map bF).set k ((bF (G out k)).set 1 (.lit z5))),OB.var b1 [br ([]:List Stp)]] | _=>[OB.row z5 3 1 ((nums.set q (G c.args 0)).map bT),OB.var b3 [.lit z2],OB.row z2 88 2 ((out.map bF).set k ((bF (G out k)).set 1 (.lit z5))),OB.var b1 [br ([]:List Stp)]]) (λ_ _=>undef) [12] 0 () (λ_=>Y) h V cP Y Y Y Y Y Y hsb ⟨oX Y λZ hl=>cv il Y (hl.env 1 5 _ Y Y) Z,λ_ O' cf=>⟨Y,λ_ _ _ Z hl _=>cg iF Y (aH Z (cf _ (mo 1 Y))) (hl.D 0 58 Y Y) Y Z⟩,oX Y λZ hl=>b8 Y (hl.env 0 6 _ Y Y) Z,?_,?_,?_,oX Y λZ hl=>b8 Y (hl.env 10 8 _ Y Y) Z,oX Y λZ hl=>ca zr Y (hl.env 3 3 _ Y Y) Z,oX Y λZ hl=>bU iG Y (hl.D 7 65 Y Y) Z,?_,oX Y λZ hl=>bU fY Y (hl.D 9 67 Y Y) Z,?_,bB Y,U⟩ ⟨?LM,U⟩ ⟨.old 0 6 _,.old 1 5 _,.old 2 4 _,.old 3 3 _,.old 4 31 _,.old 5 32 _,.old 6 33 _,.old 7 47 _,.old 8 48 _,.old 9 49 _,U⟩ ?Xj
     exact λ_ O' cf=>⟨Y,λ_ _ _ Z hl _=>eQ (i:=(k:Int)) ey Y (aH Z (cf _ (mo 2 Y))) (hl.D 1 59 Y Y) (hl.D 2 60 Y Y) bM (by rw[length_set,length_map];exact Int.ofNat_lt.2 az) Z⟩
     exact λ_ O' cf=>⟨Y,λ_ _ _ Z hl _=>xf mC Y (aH Z (cf _ (mo 2 Y))) (by rw[length_set,length_map];exact Nat.lt_of_le_of_lt (Nat.zero_le k) az) (hl.D 3 61 Y Y) Z⟩
     exact λ_ O' cf=>⟨Y,λ_ _ _ Z hl _=>HF (i:=k) (j:=1) iG Y (aH Z (cf _ (mo 2 Y))) (hl.D 4 62 Y Y) (H2 (xs:=out) (k:=k) az) Y Z⟩
     exact oX Y λZ hl=>cb (i:=((0:Nat):Int)) dc Y (hl.D 8 66 Y Y) (Rel.aG (.int .i64 0)) bM (cq (xs:=c.args) (k:=0) az) Y Z
     exact λ_ O' cf=>⟨Y,λ_ _ _ Z hl _=>eQ (i:=(q:Int)) dc Y (aH Z (cf _ (mo 0 Y))) (hl.D 5 63 Y Y) (hl.D 6 64 Y Y) bM (by rw[length_map];exact Int.ofNat_lt.2 az) Z⟩
     case LM=>exact⟨_,Y,Y,Y,Y,λg _ w hk Z hl _=>bC (Lx (f:=bT) (i:=q) (G c.args 0) Y V hJ0 qA Y hk Z (hl.D 11 69 Y Y) (hl.D 10 68 Y Y) az) λv w' hp=>⟨g,Y,λ_ _=>rfl,λe=>(by cases e),hp⟩⟩
     clear a w h
     intro _
     dsimp only[List.map]
     refine nx (aT tb V (r9 [1001]) [.int (q+1:Nat),_] [0] fw Y ⟨aM,U⟩ ?_)
     exact bq (q+1,nums.set q (G c.args 0)) (ma []) ⟨oz,by first | (rw[bi,<-qg (f:=me c) oz];simp[me,bh];done) | (rw[bi];exact wT oz (if_neg bh))⟩
    ·
     refine aj (nx (aT tb V (r9 [1001]) [.int (q+1:Nat),_] [0] fw Y ⟨aM,U⟩ ?_))
     exact bq (q+1,nums) (ma []) ⟨oz,by first | (rw[bi,<-qg (f:=me c) oz];simp[me,bh];done) | (rw[bi];exact wT oz (if_neg bh))⟩
   ·
    refine aW (nx (tw dq (tw bQ ?_)))
    refine tw (λh=>Vc (rows':=(out.set k (⟨(G out k).ae,nums⟩:Stp)).map bF) (i:=k) (j:=1) hS (H2 (xs:=out) (k:=k) az) Y (by rw[map_set,List.set_set];rfl) h) (aT tb V [1,2,3,4,5,1001] [.int (k+1:Nat),_] [0] U6 Y ⟨aM,U⟩ ?_)
    refine kw dq (kw bQ ?_)
    exact kw dq (bq (k+1,out.set k (⟨(G out k).ae,nums⟩:Stp)) (r6 []) ⟨oz,by rw[ah,rP oz,bi,wS (l:=(G ss k).args) (q:=q) oz,Id,qg oz]⟩)
  ·
   have e1:out=ss.map (jE c):=by rw[ah,wS (l:=ss) (q:=k) oz]
   have e5:out.length=ss.length:=by rw[e1,length_map]
   refine aW (nx (af (lZ tb V [0,1,2,1006] [_,_,.at b3 0,.lit z2,.int (out.length:Nat),.int ((out.length:Int)-(1:Int)),_] [2,3,4,5] U4 Y ⟨λ_ _ _ Z hl _=>cv il Y (hl.env 0 5 _ Y Y) Z,λ_ _ _ Z hl _=>cg iF Y (ug Z (mo 0 Y)) (hl.D 2 74 Y Y) Y Z,λ_ _ _ Z hl _=>kh ep Y (kB hS Z (mo 1 Y) (hl.D 3 75 Y Y)) Z,l2,U⟩ ?_)))
   refine cj 3 ?_ ?_<;>intro bV<;>try simp at bV
   ·
    have e9:cu ss c=jj ((ss.map (jE c)).take (G c.args 0+1).toNat):=by rw[cu,if_neg hb1,if_pos oz]
    refine tw bQ (tw (λh=>List.map_take▸BQ (m:=((G c.args 0)+(1:Int)).toNat) (by rw[length_map];exact az) h) ?_)
    refine tw bQ (λa w h=>iq (γ:=Unit) (λix'=>([.at b3 0,.lit z2,.ptr [bS c.args,lI c.before,lI c.after],.rd (bS c.args),.ptr [lI (G c.args 0)],.int (G c.args 0),.int ((G c.args 0)+(1:Int)),.lit (du z2 (((G c.args 0)+(1:Int)).toNat)),.at b3 0,.any]:List AV).getD ix' .any) (λ_=>true) [(5,λ_=>.at b3 0),(4,λ_=>.at b1 0)] (λj' _=>match j' with | 0=>[OB.var b3 [.lit z2],OB.row (du z2 (((G c.args 0)+(1:Int)).toNat)) 88 2 ((out.take (((G c.args 0)+(1:Int)).toNat)).map bF),OB.var b1 [br ([]:List Stp)]] | _=>[OB.var b3 [.lit (du z2 (((G c.args 0)+(1:Int)).toNat))],OB.row (du z2 (((G c.args 0)+(1:Int)).toNat)) 88 2 ((out.take (((G c.args 0)+(1:Int)).toNat)).map bF),OB.var b1 [br ([]:List Stp)]]) (λ_ _=>undef) [9] 0 () (λ_=>Y) h V cP Y Y Y Y Y Y hsb ⟨oX Y λZ hl=>cv il Y (hl.env 0 5 _ Y Y) Z,λ_ O' cf=>⟨Y,λ_ _ _ Z hl _=>cg iF Y (aH Z (cf _ (mo 0 Y))) (hl.D 0 79 Y Y) Y Z⟩,oX Y λZ hl=>ca zr Y (hl.env 2 3 _ Y Y) Z,oX Y λZ hl=>bU iG Y (hl.D 2 81 Y Y) Z,?_,oX Y λZ hl=>bU fY Y (hl.D 4 83 Y Y) Z,?_,?_,oX Y λZ hl=>cv il Y (hl.env 0 5 _ Y Y) Z,bB Y,U⟩ ⟨?LR,U⟩ ⟨.old 0 5 _,.old 1 4 _,U⟩ ?Xm)
    exact oX Y λZ hl=>cb (i:=((0:Nat):Int)) dc Y (hl.D 3 82 Y Y) (Rel.aG (.int .i64 0)) bM (cq (xs:=c.args) (k:=0) az) Y Z
    exact oX Y λZ hl=>qq (i:=(G c.args 0)) (j:=(1:Int)) Y (hl.D 5 84 Y Y) (Rel.aG (.int .i64 1)) az az Z
    exact λ_ O' cf=>⟨Y,λ_ _ _ Z hl _=>qt (m:=((G c.args 0)+(1:Int)).toNat) ey Y (aH Z (cf _ (mo 1 Y))) (by first | rfl | (rw[length_map];exact az)) (hl.D 1 80 Y Y) (T6 az (hl.D 6 85 Y Y)) Z⟩
    case LR=>exact⟨_,Y,Y,Y,Y,λg _ w hk Z hl _=>bC (vF (off:=0) (es:=[_]) (c:=.lit (du z2 (((G c.args 0)+(1:Int)).toNat))) V hJ0 BG Y hk Z (hl.D 8 87 Y Y) (hl.D 7 86 Y Y) (lb Y) Y) λv w' hp=>⟨g,Y,λ_ _=>rfl,λe=>(by cases e),hp⟩⟩
    clear a w h
    intro _
    dsimp only[List.map]
    refine nx (tw bQ (tw (λh=>mf (j:=0) (cs':=[br (out.take (((G c.args 0)+(1:Int)).toNat))]) hS Y Y h) ?_))
    refine aL (sy (.agg (bw (out.take (((G c.args 0)+(1:Int)).toNat)))) (λh=>iX (ds:=[br (out.take (((G c.args 0)+(1:Int)).toNat))]) eY Y (aH h.x (mo 0 Y)) (h.get 0 Y) Y Y h.x) ?_)
    refine sy (.agg (bw (jj (out.take (((G c.args 0)+(1:Int)).toNat))))) (λh=>cQ (Bg V (out.take (((G c.args 0)+(1:Int)).toNat)) (by first | exact ub bv (k:=c.step.toNat) (s:=⟨c.ae,c.args⟩) ⟨cY,λa ha=>by have:=jQ a ha;omega⟩ | (rw[e1];exact nR) | (rw[e1];exact A4 nR oz))) (cO Tryz.func51) Y (aK hS _ h.keep h.x) (h.x.1) (aq (h.get 0 Y) aP) (jo V h.x)) ?_
    refine kw bQ (ck (b:=b1) (off:=0) (es:=[_]) (news:=[_]) V hJ0 fZ Y Y Y (lb Y) Y (λa w h=>⟨(h.get 3 Y),(h.get 0 Y)⟩) ?_)
    exact aA [3] [_] Y (nx (aZ (λa w h=>jU (m:=0) Y eY h Y Y (show(_:List CD)=[br (cu ss c)]from by(first | (rw[e9];done) | rw[e9,<-e1])<;>rfl))))
   ·
    have e9:cu ss c=jj (ss.map (jE c)):=by rw[cu,if_neg hb1,if_neg oz]
    refine aj (nx (tw bQ (tw (λh=>mf (j:=0) (cs':=[br out]) hS Y Y h) ?_)))
    refine aL (sy (.agg (bw out)) (λh=>iX (ds:=[br out]) eY Y (aH h.x (mo 0 Y)) (h.get 0 Y) Y Y h.x) ?_)
    refine sy (.agg (bw (jj out))) (λh=>cQ (Bg V out (by first | exact ub bv (k:=c.step.toNat) (s:=⟨c.ae,c.args⟩) ⟨cY,λa ha=>by have:=jQ a ha;omega⟩ | (rw[e1];exact nR) | (rw[e1];exact A4 nR oz))) (cO Tryz.func51) Y (aK hS _ h.keep h.x) (h.x.1) (aq (h.get 0 Y) aP) (jo V h.x)) ?_
    refine kw bQ (ck (b:=b1) (off:=0) (es:=[_]) (news:=[_]) V hJ0 fZ Y Y Y (lb Y) Y (λa w h=>⟨(h.get 3 Y),(h.get 0 Y)⟩) ?_)
    exact aA [3] [_] Y (nx (aZ (λa w h=>jU (m:=0) Y eY h Y Y (show(_:List CD)=[br (cu ss c)]from by(first | (rw[e9];done) | rw[e9,<-e1])<;>rfl))))
end
end Go.Proofs.YtdfadihhfppjaaaGreatDoor
namespace Go.Proofs.YtdfadihhfppjaaaGreatDoor
open Go.RowKit
def bvs:Nat->List (List Bool)
 | 0=>[[]]
 | n+1=>(bvs n).flatMap λl=>[l++[false],l++[true]]
theorem yA (D:Nat->Bool):∀ n,(List.range n).map D∈bvs n
 | 0=>by simp[bvs]
 | n+1=>by
  rw[bvs,List.mem_flatMap]
  refine⟨_,yA D n,?_⟩
  rw[List.range_succ,List.map_append,List.map_singleton]
  cases D n<;>simp
def vz (l:List Oper) (ch:List Nat) (k:Nat):List (List Bool):=
 (bvs ch.length).filter λb=>!b.getD k false&& (ch.zipIdx.all λp=>ch.zipIdx.all λq=>!under l l.length p.1 q.1|| ((p.2 !=k||b.getD q.2 false)&& (!b.getD p.2 false||b.getD q.2 false)))
def uM (P:List Bool->Prop):List (List Bool)->Prop
 | []=>True
 | b::bs=>P b/\uM P bs
theorem yo {P:List Bool->Prop} {b:List Bool}:∀ {bs:List (List Bool)},uM P bs->b∈bs->P b
 | _::_,⟨h,hr⟩,hm=>by
  rcases mem_cons.1 hm with rfl | hm
  · exact h
  · exact yo hr hm
theorem rv (D:Nat->Bool) (n j:Nat):((List.range n).map D).getD j false=(decide (j<n)&&D j):=by
 rw[List.getD_eq_getElem?_getD]
 by_cases h:j<n
 · simp[h]
 · simp[h]
theorem HX {S:Nat->Prop} {O O':List OB} {w:World} {am:List AV} {vs:List Value} (hp:O.Perm O') (h:bd (SO S O) w am vs):bd (SO S O') w am vs:=bd.move (Keeps.refl All w) (λ_ _ hs=>⟨trivial,hs.perm hp⟩) h
section
variable {n:Rn} {P:Program} {l:List Oper} {J:WP} {S:Nat->Prop} {w0:World} {env:List (Nat×AV)} {am:Nat->AV} {conds:Nat->Bool} {γ:Type} {F:List Bool->γ->List OB} {sv:Nat->γ->Value} {ch:List Nat}
def ye (n:Rn) (P:Program) (J:WP) (S:Nat->Prop) (w0:World) (env:List (Nat×AV)) (l:List Oper) (am:Nat->AV) (conds:Nat->Bool) (F:List Bool->γ->List OB) (sv:Nat->γ->Value) (ch:List Nat) (k i:Nat):Prop:=
 Cm n P J S w0 env l am conds (λD g=>F ((List.range ch.length).map D) g) (λk' g=>if k'<ch.length then sv k' g else undef) ch k i
theorem ew {k i:Nat} {o:Oper} (cs:List (List Bool)) (iB:vz l ch k=cs) (p4:ch[k]?=some i) (ho:l[i]?=some o) (hg:o.guard=none) (hc:conds i=true)
 (core:uM (λb=>∀ g a w,Keeps All w0 w->XO J S w0.heap.size (F b g) w->Look (SO S (F b g)) w env l am conds i a->(∀(k' i':Nat) (o':Oper) (d:Nat),b.getD k' false=true->ch[k']?=some i'->l[i']?=some o'->o'.dst=some d->a.eval (.tmp d)=sv k' g)->
  Does n P o a w λv w'=>∃ g',(∀ k',b.getD k' false=true->sv k' g'=sv k' g)/\(o.dst.isSome=true->v=sv k g')/\Rel (SO S (F (b.set k true) g')) w' (am i) v/\db J S w0 (F b g) w (F (b.set k true) g') w') cs):
 ye n P J S w0 env l am conds F sv ch k i:=by
 refine⟨o,ho,hg,hc,λD g a w hD hpre cY hk Z hl hs=>?_⟩
 have kW:k<ch.length:=(List.getElem?_eq_some_iff.1 p4).1
 have tE:ch[k]=i:=(List.getElem?_eq_some_iff.1 p4).2
 have kd:(List.range ch.length).map D∈cs:=by
  rw[<-iB,vz,List.mem_filter]
  refine⟨yA D _,?_⟩
  simp only[rv,Bool.and_eq_true,all_eq_true]
  refine⟨by simp[hD],λp hp q hq=>?_⟩
  obtain⟨tJ,hp2⟩:=mem_zipIdx' hp
  obtain⟨hq1,hq2⟩:=mem_zipIdx' hq
  by_cases hu:under l l.length p.1 q.1=true
  · have e1:ch[p.2]?=some p.1:=by rw[List.getElem?_eq_getElem tJ,hp2]
    have e2:ch[q.2]?=some q.1:=by rw[List.getElem?_eq_getElem hq1,hq2]
    rw[hu]
    simp only[Bool.not_true,Bool.false_or,Bool.and_eq_true,Bool.or_eq_true,bne_iff_ne,ne_eq,hq1,decide_true,Bool.true_and,tJ]
    refine⟨?_,?_⟩
    · by_cases e:p.2=k
      · right
        rw[e,p4]at e1
        cases e1
        exact hpre q.2 q.1 e2 hu
      · exact .inl e
    · cases hd:D p.2 with
      | false=>exact .inl rfl
      | true=>exact .inr (cY p.2 q.2 p.1 q.1 e1 e2 hd hu)
  · simp[hu]
 have hset:(List.range ch.length).map (gy D k)=((List.range ch.length).map D).set k true:=by
  apply ext_getElem?
  intro j
  rw[List.getElem?_set]
  by_cases hj:j<ch.length
  · by_cases e:k=j
    · subst e;simp[hj,gy]
    · simp[hj,e,gy,Ne.symm (show k≠j from e)]
  · by_cases e:k=j
    · omega
    · simp[hj,e]
 have:=yo core kd g a w hk Z hl λk' i' o' d hb h1 h2 h3=>by
  rw[rv]at hb
  simp only[Bool.and_eq_true,decide_eq_true_eq]at hb
  have:=hs k' i' o' d hb.2 h1 h2 h3
  have e:(if k'<ch.length then sv k' g else undef)=sv k' g:=if_pos hb.1
  rw[<-e];exact this
 refine bC this λv w' ⟨g',e1,e2,e3,e4⟩=>⟨g',λk' hk'=>?_,λh=>by
  have e:(if k<ch.length then sv k g' else undef)=sv k g':=if_pos kW
  show v=if k<ch.length then sv k g' else undef
  rw[e];exact e2 h,?_,?_⟩
 · by_cases hlt:k'<ch.length
   · show(if k'<ch.length then sv k' g' else undef)=if k'<ch.length then sv k' g else undef
     rw[if_pos hlt,if_pos hlt]
     exact e1 k' (by rw[rv];simp[hlt,hk'])
   · show(if k'<ch.length then sv k' g' else undef)=if k'<ch.length then sv k' g else undef
     rw[if_neg hlt,if_neg hlt]
 · show Rel (SO S (F ((List.range ch.length).map (gy D k)) g')) w' (am i) v
   rw[hset];exact e3
 · show db J S w0 (F ((List.range ch.length).map D) g) w (F ((List.range ch.length).map (gy D k)) g') w'
   rw[hset];exact e4
theorem T2 {XD:Prop} {N:Nat} {Q:Exit->Act->WP} {O:List OB} {a:Act} {w:World} (law:Cw n P l Q a w XD) (Or:List OB) (am:Nat->AV) (conds:Nat->Bool) (env':List (Nat×(γ->AV))) (F:List Bool->γ->List OB) (sv:Nat->γ->Value) (ch:List Nat) (g0:γ) (h0:∀ g,F (ch.map λ_=>false) g=O)
 (h:So J S w0 N O env a w) (V:aS J) (hu:jH l=true) (hN:i5 l N=true) (d7:qi ch=true)
 (hsub:∀ b g p,p∈Or->p∈F b g) (ob:la (nh n P J S Or w0 env l am conds ch) 0 l) (dZ:mg (ye n P J S w0 env l am conds F sv ch) 0 ch) (hf:k9 env l am conds (λk' g=>if k'<ch.length then sv k' g else undef) ch env')
 (hq:∀ g a w,So J S w0 N (F (ch.map λ_=>true) g) (env'.map λp=>(p.1,p.2 g)) a w->Q .normal a w):XD:=by
 refine T0 law Or am conds env' (λD g=>F ((List.range ch.length).map D) g) (λk' g=>if k'<ch.length then sv k' g else undef) ch g0 (λg=>?_) h V hu hN d7 (λD g p hp=>hsub _ g p hp) ob dZ hf λg a w h=>hq g a w ?_
 · rw[<-h0 g]
   congr 1
   apply ext_getElem?
   intro j
   by_cases hj:j<ch.length<;>simp[hj]
 · have e:(List.range ch.length).map (λk=>decide (k<ch.length))=ch.map λ_=>true:=by
    apply ext_getElem?
    intro j
    by_cases hj:j<ch.length<;>simp[hj]
   rw[<-e]
   exact h
theorem k6 {N:Nat} {Q:Exit->Act->WP} {O:List OB} (Or:List OB) {id:Nat} {draw:Bool} {a:Act} {w:World} (am:Nat->AV) (conds:Nat->Bool) (env':List (Nat×(γ->AV))) (F:List Bool->γ->List OB) (sv:Nat->γ->Value) (ch:List Nat) (g0:γ) (h0:∀ g,F (ch.map λ_=>false) g=O)
 (h:So J S w0 N O env a w) (V:aS J) (hm:P.follows .mixedOrders=true) (hu:jH l=true) (hN:i5 l N=true) (hback:lf l=true) (d7:qi ch=true)
 (hsub:∀ b g p,p∈Or->p∈F b g) (ob:la (nh n P J S Or w0 env l am conds ch) 0 l) (dZ:mg (ye n P J S w0 env l am conds F sv ch) 0 ch) (hf:k9 env l am conds (λk' g=>if k'<ch.length then sv k' g else undef) ch env')
 (hq:∀ g a w,So J S w0 N (F (ch.map λ_=>true) g) (env'.map λp=>(p.1,p.2 g)) a w->Q .normal a w):(Code.region id l.toArray draw).wpIn n.F n.d P Q a w:=
 T2 (λI h1 h2 h3 h4=>HS (I:=I) hm hback h1 h2 h3 h4) Or am conds env' F sv ch g0 h0 h V hu hN d7 hsub ob dZ hf hq
end
end Go.Proofs.YtdfadihhfppjaaaGreatDoor
namespace Go.Proofs.YtdfadihhfppjaaaGreatDoor
open Go.Proofs.Tryz (prog)
open Go.RowKit
theorem xV:f8 prog 37 [lI 0,lI 0,lS ⟨#[]⟩,.sl [],lI 0,lI 0]:=⟨(.agg #[.int .i64 0,.int .i64 0,.string ⟨#[]⟩,.slice none 0 0,.int .i64 0,.int .i64 0]),λw=>by kernel_rfl,λS w=>(show bD S w [lI 0,lI 0,lS ⟨#[]⟩,.sl [],lI 0,lI 0] [.int .i64 0,.int .i64 0,.string ⟨#[]⟩,.slice none 0 0,.int .i64 0,.int .i64 0]from⟨.lit _ True.intro,.lit _ True.intro,.lit _ aI,.nil _ _ aI,.lit _ True.intro,.lit _ True.intro,U⟩)⟩
theorem Nq:c9 prog 92 4 6:=fO
theorem Np:c9 prog 92 2 4:=fO
theorem uV:fR prog 37 6:=aO
theorem DT:Cp prog 28:=λ_ _=>by kernel_rfl
theorem vS:c9 prog 37 4 4:=fO
theorem vT:c9 prog 37 5 5:=fO
theorem xt:dS prog 37 6:=zO
theorem rO:j1 prog 158 9 22 aB.kind:=⟨by kernel_rfl,by kernel_rfl⟩
theorem rV:eq prog 158:=nO
abbrev jC (e:Db) (k:Nat) (ss:List Stp) (ts:List (List BA)) (M:Nat):List CD:=ai e.bH::ai e.vars::dU e.ab::lI (k:Int)::br ss::ct ts::lI ((dr ss:Nat):Int):: .lit (.map (some M))::[]
abbrev cC (l:List BA):AV:=AV.rd (ai l)
section
variable {J:WP} (V:aS J)
include V
theorem Be (d:Db) (i:Nat) (ss:List Stp) (ts:List (List BA)) (M:Nat) (c:cd) (bv:et ss) (gJ:0<=c.step) (fU:c.step< (ss.length:Int)) (jQ:∀ a∈c.args,0<=a/\a<c.step) (cY:c.args.length<=40) (hc1:c.dQ=2∨1<=c.args.length):Fn prog J 69 [.ptr (jC d i ss ts M),.agg (cw c)] (.bJ [.agg (cw (gX ss c)),.bool (decide ((((cu ss c).length:Nat):Int)< ((dr ss:Nat):Int)))]):=by
 refine fE Tryz.func69 λS w0 hS hJ0=>?_
 refine tw cc (aL ?_)
 refine xz (cs:=[lI c.dQ,lI c.step,lS c.ae,bS c.args,lI c.before,lI c.after]) V Y Y Y (lb Y) (λa w h=>(h.get 1 Y)) λb1=>?_
 refine cz xV V Y Y Y (lb Y) λb2=>?_
 refine ao 1 tb Y (aA [1,2,3] U3 Y ?_)
 refine nx (af (tw bQ (λa w h=>k6 [OB.var b2 [lI 0,lI 0,lS (⟨#[]⟩:BA),bS ([]:List Int),lI 0,lI 0]] (γ:=Value) (λix'=>([.ptr (jC d i ss ts M),.ptr (jC d i ss ts M),.ptr [lI (((dr ss):Nat):Int),.lit (.map (some M))],.int ((dr ss):Nat),.ptr (jC d i ss ts M),.ptr (jC d i ss ts M),.ptr [br ss,ct ts,lI (((dr ss):Nat):Int),.lit (.map (some M))],.agg (bw ss),.agg (cw c),.agg (bw (cu ss c)),.rd (br (cu ss c)),.int ((cu ss c).length:Nat),.at b1 4,.any,.at b1 5,.any]:List AV).getD ix' .any) (λ_=>true) [(4,λ_=>.at b2 0),(3,λ_=>.at b1 0)] (λ(b:List Bool) (g:Value)=>(bif b.getD 2 false then [OB.var b1 [lI c.dQ,lI c.step,lS c.ae,bS c.args,lI (((dr ss):Nat):Int),lI (((cu ss c).length:Nat):Int)]]else(bif b.getD 1 false then [OB.var b1 [lI c.dQ,lI c.step,lS c.ae,bS c.args,lI (((dr ss):Nat):Int),lI c.after]]else [OB.var b1 (cw c)]))++([OB.var b2 [lI 0,lI 0,lS (⟨#[]⟩:BA),bS ([]:List Int),lI 0,lI 0]])) (λk' g=>match k' with | 0=>g | _=>undef) [8,13,15] undef (λ_=>Y) h V cP Y Y Y Y (λb g p hp=>(mem_append_right _ hp)) ⟨oX Y λZ hl=>b8 Y (hl.env 2 0 _ Y Y) Z,oX Y λZ hl=>kC Y (hl.D 0 6 Y Y) Z,oX Y λZ hl=>ca Nq Y (hl.D 1 7 Y Y) Z,oX Y λZ hl=>bU fY Y (hl.D 2 8 Y Y) Z,oX Y λZ hl=>b8 Y (hl.env 2 0 _ Y Y) Z,oX Y λZ hl=>kC Y (hl.D 4 10 Y Y) Z,oX Y λZ hl=>ca Np Y (hl.D 5 11 Y Y) Z,oX Y λZ hl=>jB (k:=1) eY Y (hl.D 6 12 Y Y) (lb Y) Z,bB Y,?_,oX Y λZ hl=>Hr (c:=br (cu ss c)) DT Y (hl.D 9 15 Y Y) Z,oX Y λZ hl=>kh ep Y (hl.D 10 16 Y Y) Z,oX Y λZ hl=>cv vS Y (hl.env 1 3 _ Y Y) Z,bB Y,oX Y λZ hl=>cv vT Y (hl.env 1 3 _ Y Y) Z,bB Y,U⟩ ⟨?ny,?pK,?y5,U⟩ ⟨.old 0 4 _,.old 1 3 _,U⟩ ?tV)))
 exact oY Y λhk Z hl=>cQ (GM V ss c (by exact bv) (by exact gJ) (by exact fU) (by exact jQ) (by exact cY) (by exact hc1)) (cO Tryz.func34) Y (aK hS _ hk Z) (Z.1) (aq (hl.D 7 13 Y Y) (aq (hl.D 8 14 Y Y) aP)) (jo V Z)
 case ny=>exact ew [[false,false,false]] yq Y Y Y Y ⟨λ_ _ w hk Z hl _=>bC (iX (ds:=[lI c.dQ,lI c.step,lS c.ae,bS c.args,lI c.before,lI c.after]) uV Y (aH Z (mo 0 Y)) (hl.env 1 3 _ Y Y) Y Y Z) λv w' hp=>⟨v,dY,λ_=>rfl,hp.1,qH V hk Z hp.2.1⟩,U⟩
 case pK=>exact ew [[true,false,false]] yq Y Y Y Y ⟨λg _ w hk Z hl _=>bC (vF (off:=4) (es:=U6) (c:=lI (((dr ss):Nat):Int)) V hJ0 qA Y hk Z (hl.D 12 18 Y Y) (hl.D 3 9 Y Y) (lb Y) Y) λv w' hp=>⟨g,λ_ _=>rfl,λe=>(by cases e),True.intro,hp⟩,U⟩
 case y5=>exact ew [[true,true,false]] yq Y Y Y Y ⟨λg _ w hk Z hl _=>bC (vF (off:=5) (es:=U6) (c:=lI (((cu ss c).length:Nat):Int)) V hJ0 qA Y hk Z (hl.D 14 19 Y Y) (hl.D 11 17 Y Y) (lb Y) Y) λv w' hp=>⟨g,λ_ _=>rfl,λe=>(by cases e),True.intro,hp⟩,U⟩
 clear a w h
 intro x3
 dsimp only[List.map]
 refine nx (af (tw bQ (λa w h=>k6 [OB.var b1 [lI c.dQ,lI c.step,lS c.ae,bS c.args,lI (((dr ss):Nat):Int),lI (((cu ss c).length:Nat):Int)]] (γ:=Unit) (λix'=>([.agg [lI c.dQ,lI c.step,lS c.ae,bS c.args,lI (((dr ss):Nat):Int),lI (((cu ss c).length:Nat):Int)],.at b1 5,.int ((cu ss c).length:Nat),.at b1 4,.int ((dr ss):Nat),.bool (decide ((((cu ss c).length:Nat):Int)< (((dr ss):Nat):Int))),.any,.bool (decide ((((cu ss c).length:Nat):Int)< (((dr ss):Nat):Int)))]:List AV).getD ix' .any) (λ_=>true) [(4,λ_=>.at b2 0),(5,λ_=>.bool (decide ((((cu ss c).length:Nat):Int)< (((dr ss):Nat):Int))))] (λ(b:List Bool) (g:Unit)=>(bif b.getD 0 false then [OB.var b2 [lI c.dQ,lI c.step,lS c.ae,bS c.args,lI (((dr ss):Nat):Int),lI (((cu ss c).length:Nat):Int)]]else [OB.var b2 [lI 0,lI 0,lS (⟨#[]⟩:BA),bS ([]:List Int),lI 0,lI 0]])++([OB.var b1 [lI c.dQ,lI c.step,lS c.ae,bS c.args,lI (((dr ss):Nat):Int),lI (((cu ss c).length:Nat):Int)]])) (λ_ _=>undef) [6] () (λ_=>Y) h V cP Y Y Y Y (λb g p hp=>(mem_append_right _ hp)) ⟨λ_ O' cf=>⟨Y,λ_ _ _ Z hl _=>iX (ds:=[lI c.dQ,lI c.step,lS c.ae,bS c.args,lI (((dr ss):Nat):Int),lI (((cu ss c).length:Nat):Int)]) uV Y (aH Z (cf _ (mo 0 Y))) (hl.env 1 3 _ Y Y) Y Y Z⟩,oX Y λZ hl=>cv vT Y (hl.env 1 3 _ Y Y) Z,λ_ O' cf=>⟨Y,λ_ _ _ Z hl _=>cg fY Y (aH Z (cf _ (mo 0 Y))) (hl.D 1 21 Y Y) Y Z⟩,oX Y λZ hl=>cv vS Y (hl.env 1 3 _ Y Y) Z,λ_ O' cf=>⟨Y,λ_ _ _ Z hl _=>cg fY Y (aH Z (cf _ (mo 0 Y))) (hl.D 3 23 Y Y) Y Z⟩,oX Y λZ hl=>Bm Y (hl.D 2 22 Y Y) (hl.D 4 24 Y Y) Z,bB Y,oX Y λZ hl=>gO Y (hl.D 5 25 Y Y) Z,U⟩ ⟨?L6,U⟩ ⟨.old 0 4 _,.new 7 5 _,U⟩ ?Xw)))
 case L6=>exact ew [[false]] yq Y Y Y Y ⟨λg _ w hk Z hl _=>(by obtain⟨eJ,hv2,ed⟩:=jm (hl.D 0 20 Y Y);exact bC (ii (off:=0) (news:=U6) (es:=U6) (us:=eJ) V hJ0 xt Y hk Z (hl.env 0 4 _ Y Y) (by rw[hv2];rfl) ed (lb Y) Y) λv w' hp=>⟨g,λ_ _=>rfl,λe=>(by cases e),True.intro,hp⟩),U⟩
 clear a w h
 intro _
 dsimp only[List.map]
 exact nx (aZ (λa w h=>iS (m:=0) (q:=1) Y uV h Y Y (show(_:List CD)=[lI ((gX ss c).dQ),lI ((gX ss c).step),lS ((gX ss c).ae),bS ((gX ss c).args),lI ((gX ss c).before),lI ((gX ss c).after)]from Y) Y (eB (Y))))
theorem SN (h:Hy) (s:BA) (hf:h.be=true->1<h.ac.length):Fn prog J 143 [.agg (aN h),.ptr [lS s]] (.bool (h.be&&decide (G h.ac 1=s))):=by
 refine fE Tryz.func143 λS w0 hS hJ0=>?_
 clear hJ0
 refine aJ tb V [1,1000] [.ptr (aN h),_] [0] U2 Y ⟨ej hS V,U⟩ ?_
 refine aJ tb V [1010] (V5 [.ptr [lS (G h.ac 1)],_,_,_,_,_]) [5] [_] Y ⟨cN (k:=1) bx (hk:=λ(aF:(h.be==true)=true)=>by(try simp at aF);exact hf aF),U⟩ ?_
 exact aU 0 (hE:=eB (by first | rfl | grind[aC]))
theorem R8 (xs:List Hy) (f:FuncId) (caps:List AV) (Os:List OB) (p:Hy->Bool) (hf:∀ q'∈xs,cM prog J f Os ([.agg (aN (q'))]++caps) (.bool (p q'))) (hk0:dL prog f):cM prog J 187 Os [.rd (bW xs),.fn f caps] (.int (cH p xs)):=by
 refine fk Tryz.func187 λS w0 hS hJ0 hH=>?_
 clear hJ0
 refine ln 0 λ_=>?_
 refine qs tb V [0,1] [_] U2 ?_
 refine af (aJ tb V [0,1,1001,1002] [_,.int (xs.length:Nat),_] [1] U4 Y ⟨aD cT,U⟩ ?_)
 refine ax (lp (ι:=Nat) (λk=>(k<=xs.length)/\(∀ j,j<k->p (G xs j)=false)) (λk=>[(8,.int (k:Nat))]) (λk=>xs.length-k) [0,1,2,3] U3 0 ⟨aI,λj hj=>by omega⟩ ?_)
 rintro k ⟨aQ,ah⟩
 refine qs tb V [0,1,2,3,1000] [_] U5 ?_
 refine cI 4 ?_ ?_<;>intro hb1<;>try simp at hb1
 ·
  refine aj (nx (af (ax (qs tb V [0,1,2,3,1001] U2 U5 ?_))))
  refine aJ tb V (r5 [1005]) (V3 [.ptr (aN (G xs k)),_,.bool (p (G xs k))]) [3,5] U6 Y ⟨bn cD,λ_ _ hk Z hl _=>iW (hf (G xs k) (aC oz)) hk0 Y (hl.D 0 11 Y Y) (nm hS hk) (Z) (λ_ ho=>gt hH hk ho) (aq (hl.D 4 15 Y Y) aP) (js V Z),U⟩ ?_
  refine cj 5 ?_ ?_<;>intro hb2<;>try simp at hb2
  ·
   refine qs tb V [1001] U2 [_] ?_
   exact aU 0 (hE:=eI (by first | exact(jb hb1 hb2 ah).symm | exact(jc λj hj=>ah j oz).symm))
  ·
   refine aj (nx (dI tb V [0,1,2,1001] [.int (k+1:Nat),_] [0] U4 Y ⟨aM,U⟩ ?_))
   exact dO (k+1) [0,1,2,3] ⟨oz,cF ah hb2⟩
 ·
  refine aW (nx (qs tb V [1000] [_] [_] ?_))
  exact aU 0 (hE:=eI (by first | exact(jb hb1 hb2 ah).symm | exact(jc λj hj=>ah j oz).symm))
theorem RW (xs:List Hy) (f:FuncId) (caps:List AV) (Os:List OB) (p:Hy->Bool) (hf:∀ q'∈xs,cM prog J f Os ([.agg (aN (q'))]++caps) (.bool (p q'))) (hk0:dL prog f):cM prog J 142 Os [.rd (bW xs),.fn f caps] (.bool (xs.any p)):=by
 refine fk Tryz.func142 λS w0 hS hJ0 hH=>?_
 clear hJ0
 refine ln 0 λ_=>?_
 refine qs tb V [0,1] [_] U2 ?_
 refine aJ tb V [1004] [_,_,.int (cH p xs),_,_] [2] [_] Y ⟨λ_ _ hk Z hl _=>dE (R8 V xs f caps Os p (hf) (hk0)) (cO Tryz.func187) Y (nm hS hk) (Z) (λ_ ho=>gt hH hk ho) (aq (hl.D 0 5 Y Y) (aq (hl.D 1 6 Y Y) aP)) (js V Z),U⟩ ?_
 exact aU 0 (hE:=eB (by rw[<-p9]))
theorem GT (g:Fr) (s:BA) (fa:∀ h∈g.aa,h.be=true->h.ac.length=2):Fn prog J 119 [.agg (aY g),.str s] (.bool (jd g.aa s)):=by
 refine fE Tryz.func119 λS w0 hS hJ0=>?_
 clear hJ0
 refine aJ tb V [1000,1001] [.ptr (aY g),.ptr [lS s],_] [0,1] U2 Y ⟨ej hS V,λ_ _ hk Z hl _=>k4 Y (hl.env 1 1 _ Y Y) (hS _ hk.size) (js V Z),U⟩ ?_
 refine aJ tb V [1001,1004] [_,_,.fn 143 [.ptr [lS s]],.bool (g.aa.any (λh'=>h'.be&&decide (G h'.ac 1=s))),_] [2,3] U2 Y ⟨λ_ _ _ Z hl _=>k5 (caps:=[(.tmp 3)]) Y (aq (hl.env 1 3 _ Y Y) aP) Z,λ_ _ hk Z hl _=>dE (RW V g.aa 143 [.ptr [lS s]] [] (λh'=>h'.be&&decide (G h'.ac 1=s)) (λq' hq'=>(SN V q' s (λe=>by have:=fa q' hq' e;omega)).rr) ((cO Tryz.func143))) (cO Tryz.func142) Y (nm hS hk) (Z) b9 (aq (hl.D 1 6 Y Y) (aq (hl.D 2 7 Y Y) aP)) (js V Z),U⟩ ?_
 refine ln 0 λ_=>?_
 exact aU 1 (hE:=eB (Y))
theorem Bb (mb:Nat) (Mb:BM) (g:Fr) (p t:List BA) (fa:∀ h∈g.aa,h.be=true->h.ac.length=2):cM prog J 94 [OB.map aB cC mb Mb] [.lit (.map (some mb)),.agg (aY g),.rd (ai p),.rd (ai t)] (.bJ [.bool ((ce g.aa Mb p t).1),.bool ((ce g.aa Mb p t).2)]):=by
 refine fk Tryz.func94 λS w0 hS hJ0 hH=>?_
 refine tw cc (ln 2 λcx=>?_)
 refine ln 3 λ_=>?_
 refine au tb V [0,2,3,1000] [.ptr (aY g),_,_] [0] U4 Y ⟨cW hS V,U⟩ ?_
 refine af (au tb V [0,2,3,1000,1001,1002] [_,.int (p.length:Nat),_] [1] U6 Y ⟨aD b6,U⟩ ?_)
 refine ax (lpo (ι:=Nat×(List BA)) (λ(k,tx)=>(k<=p.length)/\(ce g.aa Mb p t=ce g.aa Mb (p.drop k) tx)) (λ(_,_)=>[]) (λ(k,tx)=>[(16,.int (k:Nat)),(3,.rd (ai tx))]) (λ(k,_)=>p.length-k) [0,2,3,4,5,1] U4 (0,t) ⟨aI,Y⟩ ?_)
 rintro⟨k,tx⟩ ⟨aQ,ah⟩
 refine ak tb V (r6 [1000]) [_] U7 ?_
 refine ln 5 λ_=>?_
 refine cI 6 ?_ ?_<;>intro hb1<;>try simp at hb1
 ·
  refine aj (nx (af (ax (au tb V (r6 [1002]) [.ptr [lS (G p k)],_,_] [0] U7 Y ⟨bn bx,U⟩ ?_))))
  refine au tb V (r7 [1004,1006,1007]) [_,_,.bJ [.rd (ai ((aw Mb (G p k)).getD default)),.bool ((aw Mb (G p k)).isSome)],_,_,_,_,_] [2] fw Y ⟨λ_ _ hk Z hl _=>mc (Kd:=aB) (f:=cC) (L:=Mb) rO yd (G p k) Y (dD hH hk Z (mo 0 Y)) (hl.D 0 21 Y Y) (hl.D 1 22 Y Y) Z,U⟩ ?_
  refine ln 7 λ_=>?_
  refine ax (au tb V (r7 [8,9,1016]) (V3 [.int (((aw Mb (G p k)).getD default).length:Nat),_,.int (tx.length:Nat),_,_,_,_,_,_,.int (((aw Mb (G p k)).getD default).length:Nat),.rd (ai (tx.take (((aw Mb (G p k)).getD default).length))),.bool (decide (((aw Mb (G p k)).getD default)=(tx.take (((aw Mb (G p k)).getD default).length)))),_,_]) [3,5,12,13,14] fw Y ⟨aD b6,aD b6,aD b6,λ_ _ _ Z hl hc=>iH (ys:=tx.take (((aw Mb (G p k)).getD default).length)) (lo:=0) (hi:=((aw Mb (G p k)).getD default).length) List.drop_zero bx (λ_=>Y) Y (hl.D 10 39 Y hc) Y (hl.D 12 41 Y hc) (by have aF:((((aw Mb (G p k)).isSome)&& (decide (((((aw Mb (G p k)).getD default).length:Nat):Int)<=(tx.length:Int))))==true)=true:=hc;(try simp at aF);(first | omega | (simp;omega) | grind[aC])) (by have aF:((((aw Mb (G p k)).isSome)&& (decide (((((aw Mb (G p k)).getD default).length:Nat):Int)<=(tx.length:Int))))==true)=true:=hc;(try simp at aF);(first | omega | (simp;omega) | grind[aC])) Z,bN hS V (w6 V ((aw Mb (G p k)).getD default) (tx.take (((aw Mb (G p k)).getD default).length))) (cO Tryz.func58),U⟩ ?_)
  refine cj 9 ?_ ?_<;>intro hb2
  ·
   refine aT tb V (r5 [1003,1004]) [_,_,.int (((aw Mb (G p k)).getD default).length:Nat),.rd (ai (tx.drop (((aw Mb (G p k)).getD default).length))),_] [2,3] U7 Y ⟨aD b6,λ_ _ _ Z hl _=>iH (ys:=tx.drop (((aw Mb (G p k)).getD default).length)) (lo:=((aw Mb (G p k)).getD default).length) (hi:=tx.length) (by rw[take_length]) bx (λ_=>Y) Y (hl.D 0 45 Y Y) (hl.D 2 47 Y Y) Y az az Z,U⟩ ?_
   refine nx (ln 5 λE4=>?_)
   refine aT tb V [0,1,2,3,6,1001] [.int (k+1:Nat),_] [0] U6 Y ⟨aM,U⟩ ?_
   exact bq (k+1,tx.drop (((aw Mb (G p k)).getD default).length)) [0,1,2,3,5,4] ⟨oz,by first | exact CR ah oz hb2 | exact CS ah oz aE bh bV⟩
  ·
   refine ak tb V (r7 [1001]) U2 U8 ?_
   refine cj 7 ?_ ?_<;>intro aE
   ·
    have e9:=JR ah oz hb2 aE
    refine ak tb V [1000,1001] U2 U2 ?_
    exact aZ (λa w h=>dX (m:=0) (k:=1) Y (d9 h) Y Y (eB (by first | (rw[e9];done) | (rw[e9];simp))) (eB (by first | (rw[e9];done) | (rw[e9];simp))))
   ·
    refine au tb V (r7 [1003]) [_,_,.bool (jd g.aa (G p k)),_] [2] U8 Y ⟨bN hS V (GT V g (G p k) (by exact fa)) (cO Tryz.func119),U⟩ ?_
    refine cj 7 ?_ ?_<;>intro bh
    ·
     have e9:=JQ ah oz aE bh
     refine ak tb V [1000,1001] U2 U2 ?_
     exact aZ (λa w h=>dX (m:=0) (k:=1) Y (d9 h) Y Y (eB (by first | (rw[e9];done) | (rw[e9];simp))) (eB (by first | (rw[e9];done) | (rw[e9];simp))))
    ·
     refine au tb V (r6 [1010]) [_,.int (tx.length:Nat),_,_,_,.ptr [lS (G tx 0)],_,_,_,_,_] [1,5] U7 Y ⟨aD b6,cN (k:=0) bx (hk:=λ(aF:((decide ((tx.length:Int)=(0:Int)))==false)=true)=>by(try simp at aF);first | omega | (simp;omega) | grind[aC]),U⟩ ?_
     refine cj 6 ?_ ?_<;>intro bV
     ·
      have e9:=JP ah oz aE bh bV
      refine ak tb V [1000,1001] U2 U2 ?_
      exact aZ (λa w h=>dX (m:=0) (k:=1) Y (d9 h) Y Y (eB (by first | (rw[e9];done) | (rw[e9];simp))) (eB (by first | (rw[e9];done) | (rw[e9];simp))))
     ·
      refine aT tb V (r5 [1001,1002]) [_,.rd (ai (tx.drop 1)),_] [1] U7 Y ⟨λ_ _ _ Z hl _=>iH (ys:=tx.drop 1) (lo:=1) (hi:=tx.length) (by rw[take_length]) bx (λ_=>Y) Y (hl.D 0 26 Y Y) (Rel.aG (.int .i64 1)) Y az az Z,U⟩ ?_
      refine nx (ln 5 λzX=>?_)
      refine aT tb V [0,1,2,3,6,1001] [.int (k+1:Nat),_] [0] U6 Y ⟨aM,U⟩ ?_
      exact bq (k+1,tx.drop 1) [0,1,2,3,5,4] ⟨oz,by first | exact CR ah oz hb2 | exact CS ah oz aE bh bV⟩
 ·
  have e9:=JS ah oz
  refine aW (nx (au tb V [1003,1004] [_,.int (tx.length:Nat),_,_,_] [1] U2 Y ⟨aD b6,U⟩ ?_))
  exact aZ (λa w h=>dX (m:=0) (k:=1) Y (d9 h) Y Y (eB (by first | (rw[e9];done) | (rw[e9];simp))) (eB (by first | (rw[e9];done) | (rw[e9];simp))))
theorem Sn (mb:Nat) (Mb:BM) (g:Fr) (s:BA) (fa:∀ h∈g.aa,h.be=true->h.ac.length=2):cM prog J 136 [OB.map aB cC mb Mb] [.str s,.ptr [.lit (.map (some mb))],.ptr (aY g)] (.bool (!(aw Mb s).isSome&&jd g.aa s)):=by
 refine fk Tryz.func136 λS w0 hS hJ0 hH=>?_
 refine tw cc (ak tb V [0,1,2] [_] U3 ?_)
 refine au tb V [0,2,1004,1006,1007] [_,_,.bJ [.rd (ai ((aw Mb s).getD default)),.bool ((aw Mb s).isSome)],_,_,_,_,_] [2] U5 Y ⟨λ_ _ hk Z hl _=>mc (Kd:=aB) (f:=cC) (L:=Mb) rO yd s Y (dD hH hk Z (mo 0 Y)) (hl.D 0 8 Y Y) (hl.D 1 9 Y Y) Z,U⟩ ?_
 refine ln 2 λ_=>?_
 refine au tb V [1007] (V5 [.bool (jd g.aa s),_,_]) [5] [_] Y ⟨λ_ _ hk Z hl hc=>cQ (GT V g s (by have aF:((!((aw Mb s).isSome))==true)=true:=hc;(try simp at aF);(exact fa))) (cO Tryz.func119) Y (aK hS _ hk Z) (Z.1) (aq (hl.D 3 16 Y hc) (aq (hl.D 4 17 Y hc) aP)) (jo V Z),U⟩ ?_
 exact bL 0 (hE:=eB (by first | rfl | grind[aC]))
theorem Sl (mb:Nat) (Mb:BM) (g:Fr) (t:List BA) (fa:∀ h∈g.aa,h.be=true->h.ac.length=2):cM prog J 104 [OB.map aB cC mb Mb] [.lit (.map (some mb)),.agg (aY g),.rd (ai t)] (.bool (pA g.aa Mb t)):=by
 refine fk Tryz.func104 λS w0 hS hJ0 hH=>?_
 refine tw cc (ln 2 λcx=>?_)
 refine au tb V [2,1000,1001] [.ptr [.lit (.map (some mb))],.ptr (aY g),_] [0,1] U3 Y ⟨λ_ _ hk Z hl _=>k4 Y (hl.env 0 0 _ Y Y) (aK hS _ hk Z _ aV) (jo V Z),cW hS V,U⟩ ?_
 refine au tb V [1004] [_,.fn 136 [.ptr [.lit (.map (some mb))],.ptr (aY g)],.bool (t.any (λs'=>!(aw Mb s').isSome&&jd g.aa s')),_,_] [1,2] [_] Y ⟨λ_ _ _ Z hl _=>k5 (caps:=[(.tmp 3),(.tmp 4)]) Y (aq (hl.env 1 3 _ Y Y) (aq (hl.env 2 4 _ Y Y) aP)) Z,λ_ _ hk Z hl _=>dE (uh V t 136 [.ptr [.lit (.map (some mb))],.ptr (aY g)] [OB.map aB cC mb Mb] (λs'=>!(aw Mb s').isSome&&jd g.aa s') (λq'=>Sn V mb Mb g q' fa) ((cO Tryz.func136))) (cO Tryz.func135) Y (aK hS _ hk Z) (Z.1) (dC (dD hH hk Z (mo 0 Y)) b9) (aq (hl.D 0 7 Y Y) (aq (hl.D 1 8 Y Y) aP)) (jo V Z),U⟩ ?_
 exact bL 0 (hE:=eB (Y))
end
end Go.Proofs.YtdfadihhfppjaaaGreatDoor
namespace Go.Proofs
open Go.Shelf
def Tryz.sortB_ren:Go.Shelf.Ren:=⟨fun | 6=>124 | 15=>151 | 14=>150 | 28=>197 | 29=>198 | 20=>189 | 21=>190 | 22=>191 | 23=>192 | 24=>193 | 25=>194 | 26=>195 | 27=>196 | 46=>229 | 47=>230 | 48=>231 | 49=>232 | 50=>233 | 57=>252 | n=>n,fun | 22=>165 | 24=>182 | 25=>205 | 3=>3 | 39=>230 | 0=>0 | 53=>266 | 55=>268 | 4=>4 | 46=>260 | 45=>259 | 50=>172 | 5=>5 | 9=>9 | 66=>294 | 70=>298 | 76=>313 | 77=>314 | n=>n,fun | n=>n⟩
theorem Tryz.sortB:Go.Proofs.SlLaysF0.n6 Tryz.prog Tryz.sortB_ren:= {
 mixed:=by kernel_rfl
 f6:=⟨Tryz.f124.name,by decide,Tryz.func124.trans (congrArg some (by kernel_rfl))⟩
 f14:=⟨Tryz.f150.name,by decide,Tryz.func150.trans (congrArg some (by kernel_rfl))⟩
 f15:=Tryz.func151.trans (congrArg some (by kernel_rfl))
 f20:=⟨Tryz.f189.name,by decide,Tryz.func189.trans (congrArg some (by kernel_rfl))⟩
 f21:=⟨Tryz.f190.name,by decide,Tryz.func190.trans (congrArg some (by kernel_rfl))⟩
 f22:=⟨Tryz.f191.name,by decide,Tryz.func191.trans (congrArg some (by kernel_rfl))⟩
 f23:=⟨Tryz.f192.name,by decide,Tryz.func192.trans (congrArg some (by kernel_rfl))⟩
 f24:=⟨Tryz.f193.name,by decide,Tryz.func193.trans (congrArg some (by kernel_rfl))⟩
 f25:=⟨Tryz.f194.name,by decide,Tryz.func194.trans (congrArg some (by kernel_rfl))⟩
 f26:=⟨Tryz.f195.name,by decide,Tryz.func195.trans (congrArg some (by kernel_rfl))⟩
 f27:=⟨Tryz.f196.name,by decide,Tryz.func196.trans (congrArg some (by kernel_rfl))⟩
 f28:=Tryz.func197.trans (congrArg some (by kernel_rfl))
 f29:=Tryz.func198.trans (congrArg some (by kernel_rfl))
 f46:=⟨Tryz.f229.name,by decide,Tryz.func229.trans (congrArg some (by kernel_rfl))⟩
 f47:=Tryz.func230.trans (congrArg some (by kernel_rfl))
 f48:=Tryz.func231.trans (congrArg some (by kernel_rfl))
 f49:=⟨Tryz.f232.name,by decide,Tryz.func232.trans (congrArg some (by kernel_rfl))⟩
 f50:=⟨Tryz.f233.name,by decide,Tryz.func233.trans (congrArg some (by kernel_rfl))⟩
 f57:=⟨Tryz.f252.name,by decide,Tryz.func252.trans (congrArg some (by kernel_rfl))⟩
 t0:=Tryz.underlying0
 a0:=Tryz.isAgg0
 z0:=Tryz.sizeOf0
 v0:=Tryz.zeroValue0
 t3:=Tryz.underlying3
 a3:=Tryz.isAgg3
 z3:=Tryz.sizeOf3
 v3:=Tryz.zeroValue3
 t4:=Tryz.underlying4
 a4:=Tryz.isAgg4
 z4:=Tryz.sizeOf4
 v4:=Tryz.zeroValue4
 t5:=Tryz.underlying5
 a5:=Tryz.isAgg5
 z5:=Tryz.sizeOf5
 v5:=Tryz.zeroValue5
 t9:=Tryz.underlying9
 a9:=Tryz.isAgg9
 z9:=Tryz.sizeOf9
 v9:=Tryz.zeroValue9
 t22:=Tryz.underlying165
 a22:=Tryz.isAgg165
 z22:=Tryz.sizeOf165
 v22:=Tryz.zeroValue165
 t25:=Tryz.underlying205
 a25:=Tryz.isAgg205
 z25:=Tryz.sizeOf205
 v25:=Tryz.zeroValue205
 t39:=Tryz.underlying230
 a39:=Tryz.isAgg230
 z39:=Tryz.sizeOf230
 v39:=Tryz.zeroValue230
 t45:=Tryz.underlying259
 a45:=Tryz.isAgg259
 z45:=Tryz.sizeOf259
 v45:=Tryz.zeroValue259
 t46:=Tryz.underlying260
 a46:=Tryz.isAgg260
 z46:=Tryz.sizeOf260
 v46:=Tryz.zeroValue260
 t50:=Tryz.underlying172
 a50:=Tryz.isAgg172
 z50:=Tryz.sizeOf172
 v50:=Tryz.zeroValue172
 t53:=Tryz.underlying266
 a53:=Tryz.isAgg266
 z53:=Tryz.sizeOf266
 v53:=Tryz.zeroValue266
 t55:=Tryz.underlying268
 a55:=Tryz.isAgg268
 z55:=Tryz.sizeOf268
 v55:=Tryz.zeroValue268
 t66:=Tryz.underlying294
 a66:=Tryz.isAgg294
 z66:=Tryz.sizeOf294
 v66:=Tryz.zeroValue294
 t70:=Tryz.underlying298
 a70:=Tryz.isAgg298
 z70:=Tryz.sizeOf298
 v70:=Tryz.zeroValue298
 t76:=Tryz.underlying313
 a76:=Tryz.isAgg313
 z76:=Tryz.sizeOf313
 v76:=Tryz.zeroValue313
 t77:=Tryz.underlying314
 a77:=Tryz.isAgg314
 z77:=Tryz.sizeOf314
 v77:=Tryz.zeroValue314 }
end Go.Proofs
namespace Go.Proofs.YtdfadihhfppjaaaGreatDoor
open Go.RowKit
open Go.Sort Go.Shelf
theorem Ll (x y:BA) (u v:Value) (Z:x.size<=maxLen) (hy:y.size<=maxLen) (hu:hZ u) (hv:hZ v) (W:World):Calls Tryz.prog 125 #[.agg #[.string x,u],.agg #[.string y,v]] W λe w'=>e= .returned (.int .i64 (dN x y))/\Ex W w':=by
 have r1:∀(s:BA) (z:Value),s.size<=maxLen->hZ z->Rel (λ_=>True) W (.agg [.lit (.string s),.lit z]) (.agg #[.string s,z]):=λs z h1 h2=>by
  simp only[Rel]
  exact⟨[.string s,z],rfl,.lit _ h1,.lit _ h2,trivial⟩
 have ha:bd (λ_=>True) W [.agg [.lit (.string x),.lit u],.agg [.lit (.string y),.lit v]] [.agg #[.string x,u],.agg #[.string y,v]]:=aq (r1 x u Z hu) (aq (r1 y v hy hv) aP)
 obtain⟨g1,g2⟩:=rR (N:=10) (M:=10) yz rfl ha
 refine(callsIn_wide (n:=5)).1 (callsIn_of_wp Tryz.func125 rfl trivial ?_ rfl)
 suffices h:Tr 5 Tryz.prog (St All (λ_=>True) W 10 (jh 0 [.agg [.lit (.string x),.lit u],.agg [.lit (.string y),.lit v]]) (Ex W)) _ _ from h _ _ ⟨rfl,g1,Keeps.refl _ _,DR W,g2⟩
 refine aL (sy (.ptr [.lit (.string x),.lit u]) (λh=>xZ rfl (h.get 0 rfl) trivial h.x) ?_)
 refine sy (.ptr [.lit (.string y),.lit v]) (λh=>xZ rfl (h.get 2 rfl) trivial h.x) ?_
 refine sy (.int 0) (λh=>gO rfl (Rel.aG _) h.x) ?_
 refine aA [1,2] [_,_] rfl (nx (aL ?_))
 refine sy (.ptr [.lit (.string x),.lit u]) (λh=>ca Ec rfl (h.get 1 rfl) h.x) ?_
 refine sy (.str x) (λh=>bU fd rfl (h.get 0 rfl) h.x) ?_
 refine sy (.ptr [.lit (.string y),.lit v]) (λh=>ca Ec rfl (h.get 2 rfl) h.x) ?_
 refine sy (.str y) (λh=>bU fd rfl (h.get 0 rfl) h.x) ?_
 refine sq (.int (dN x y)) rfl rfl (lb rfl) (λa w h=>ya (args:=[.tmp 6,.tmp 8]) (vs:=[.string x,.string y]) (cO Tryz.func126) rfl (by rw[List.map_cons,List.map_cons,List.map_nil,(h.get 2 rfl).lit,(h.get 0 rfl).lit]) (yM _ _ _) True.intro h.x) ?_
 refine sy (.int (dN x y)) (λh=>gO rfl (h.get 0 rfl) h.x) ?_
 refine aA [0] [_] rfl (aZ λa w h=>⟨h.defs,a.tmps.getD 4 undef,by simp[results,Tryz.results125,Sem.run_pure],?_,h.x⟩)
 rw[show a.tmps.getD 4 undef= .int .i64 (dN x y)from(h.get 0 rfl).lit]
abbrev nb:Type:= {p:Bd×Value // p.1.var.size<=maxLen/\hZ p.2/\p.2.oneCell'=true}
instance instInhBdV:Inhabited nb:=⟨⟨(⟨⟨#[]⟩,[]⟩,.slice none 0 0),aI,True.intro,rfl⟩⟩
def gU (p:nb):List Value:=[.string p.1.1.var,p.1.2]
def sN (p q:nb):Int:=dN p.1.1.var q.1.1.var
theorem wN (p q:nb):ltOf sN p q=Op.bytesLess p.1.1.var.toList q.1.1.var.toList:=by
 unfold ltOf sN
 by_cases h:Op.bytesLess p.1.1.var.toList q.1.1.var.toList=true
 · rw[decide_eq_true (pH.2 h),h]
 · rw[decide_eq_false (λh2=>h (pH.1 h2))]
   simpa using h
theorem Vq:Go.Sort.SWO (ltOf sN) where
 irrefl x:=by rw[wN];exact pB _
 trans x y z h1 h2:=by rw[wN]at*;exact pC _ _ _ h1 h2
 ntrans x y z h1 h2:=by
  rw[wN]at*
  cases h3:Op.bytesLess x.1.1.var.toList z.1.1.var.toList with
  | false=>rfl
  | true=>
   cases h4:Op.bytesLess y.1.1.var.toList x.1.1.var.toList with
   | true=>rw[pC _ _ _ h4 h3]at h2;cases h2
   | false=>rw[q8 _ _ h1 h4,h2]at h3;cases h3
theorem Lb (blk off size:Nat) (w:World):CmpLays Tryz.prog 125 #[] gU 2 sN blk off size w:=λm os dk _ x y=>by
 have:=Ll x.1.1.var y.1.1.var x.1.2 y.1.2 x.2.1 y.2.1 x.2.2.1 y.2.2.1 (sortWorldK gU 2 w blk off m dk os)
 rw[Array.append_empty]
 exact this
theorem CN {S:Nat->Prop} {w:World}:∀ {ps:List Bd} {us:List Value},bD S w (ps.map ff).flatten us->∃ zs:List nb,zs.map (·.1.1)=ps/\us=zs.flatMap gU/\∀ z∈zs,Rd S w (ai z.1.1.ac) z.1.2
 | [],us,h=>by
  have:=h.length
  simp at this
  exact⟨[],rfl,by simpa using this,by simp⟩
 | p::ps,us,h=>by
  match us,h with
  | u1::u2::us,⟨h1,h2,h3⟩=>
   obtain⟨zs,e1,e2,e3⟩:=CN (ps:=ps) h3
   have ok1:p.var.size<=maxLen:=by cases h1 with | lit _ hv=>exact hv
   have A3:hZ u2:=by obtain⟨ad,cap,e,_,_⟩:=h2.form;rw[e];exact True.intro
   refine⟨⟨(p,u2),ok1,A3,h2.one⟩::zs,by rw[List.map_cons,e1],by rw[h1.aG,e2];rfl,λz hz=>?_⟩
   rcases mem_cons.1 hz with rfl | hz
   · exact h2
   · exact e3 z hz
theorem CO {S:Nat->Prop} {w:World}:∀ {zs:List nb},(∀ z∈zs,Rd S w (ai z.1.1.ac) z.1.2)->bD S w ((zs.map (·.1.1)).map ff).flatten (zs.flatMap gU)
 | [],_=>trivial
 | z::zs,h=>⟨.lit _ z.2.1,h z yz,CO λq hq=>h q (by simp[hq])⟩
theorem Sf {J:WP} (V:aS J) (v:Value) (ps:List Bd) (hn:ps.length<=140737488355328):eX (ι:= {qs:List Bd // qs.Perm ps/\po qs}) Tryz.prog J 124 [] [.lit v,.fn 125 []] [OB.row v 182 2 (ps.map ff)] (λ_=>.bJ []) (λi=>[OB.row v 182 2 (i.1.map ff)]):=by
 intro S w0 R w vs hS hJ0 hH hk Z ha
 simp only[bd]at ha
 obtain⟨u,_,rfl,h1,u2,_,rfl,h2,rfl⟩:=ha
 obtain rfl:=h1.lit
 obtain rfl:u2= .func (.func 125) #[] #[]:=by
  simp only[Rel,bd]at h2
  obtain⟨_,rfl,rfl⟩:=h2
  rfl
 have hi:=Z.2.1 (OB.row u 182 2 (ps.map ff)) yz
 obtain⟨us,⟨ku,hrow⟩,hrd,h3⟩:=hi
 rcases hrow with⟨rfl,hz⟩ | ⟨g,cap,cur,rfl,hb,hg,en,df,iB,ht⟩
 · have Ag:ps=[]:=by simpa using hz
   subst Ag
   refine(AnyF.slices_SortFunc_none Tryz.sortB none 0 _ w).mono ?_
   rintro e w' ⟨rfl,rfl⟩
   exact⟨⟨[],.refl _,.nil⟩,_,rfl,by simp only[Rel,bd];exact⟨[],rfl,rfl⟩,hk,Z⟩
 · obtain⟨zs,lr,rJ,bv⟩:=CN hrd
   have hlen:(ps.map ff).length=ps.length:=length_map _
   rw[hlen]at en ht ku
   obtain⟨d,hd⟩:∃ d:Array nb,d.toList=zs:=⟨zs.toArray,by simp⟩
   have lV:d.size=ps.length:=by rw[<-lr,<-hd];simp
   have hkB:∀ x:nb,(gU x).length=2:=λ_=>rfl
   have fa:∀ e:Array nb,(flatK gU 2 e).toList=e.toList.flatMap gU:=λe=>D8 hkB oz e
   have lX:g<w.heap.size:=(Array.getElem?_eq_some_iff.1 hg).1
   have wi:∀ j,w.frozen? ⟨g,j,none⟩=false:=λj=>by simp[World.frozen?,hg]
   have hH:HoldsK gU 2 w g 0 d:=λj hj=>by
    refine⟨?_,wi _⟩
    have zW:j<ps.length*2:=by rw[size_flatK,lV]at hj;exact hj
    have e1:cur.toList[j]?=some ((flatK gU 2 d)[j]!):=by
     have e2:(cur.toList.take (ps.length*2))[j]?=cur.toList[j]?:=by rw[List.getElem?_take,if_pos zW]
     rw[<-e2,ht,rJ,<-hd,<-fa d,Array.getElem?_toList,Array.getElem?_eq_getElem hj,getElem!_pos _ j hj]
    rw[Nat.zero_add]
    simp only[World.cell?,hg]
    simpa using e1
   have hcall:=AnyQ.slices_SortFunc Tryz.sortB 2 Tryz.isAgg182 Tryz.sizeOf182 gU hkB (λx v hv=>by
    simp only[gU,mem_cons,List.not_mem_nil,or_false]at hv
    rcases hv with rfl | rfl
    · rfl
    · exact x.2.2.2) sN Vq 125 #[] g 0 cap d w (enters_of Tryz.func125 (by kernel_rfl) rfl) (Lb g 0 d.size w) hH lX oz
   rw[lV]at hcall
   rw[hlen]
   refine hcall.mono ?_
   rintro e w' ⟨rfl,d',n,os,hperm,Aj,rfl⟩
   have nJ:d'.size=ps.length:=by rw[hperm.1,lV]
   have ke:d'.toList.Perm d.toList:=by
    have h9:=hperm.2.2
    rw[show d'.extract 0 ps.length=d' by rw[<-nJ];exact Array.extract_size,show d.extract 0 ps.length=d by rw[<-lV];exact Array.extract_size]at h9
    exact h9
   have wr:(d'.toList.map (·.1.1)).Perm ps:=by
    rw[<-lr,<-hd]
    exact ke.map _
   have An:po (d'.toList.map (·.1.1)):=by
    unfold po
    rw[List.pairwise_map,List.pairwise_iff_getElem]
    intro i j hi hj gH
    have h9:=Aj i j aI gH (by rw[<-nJ];simpa using hj)
    rw[wN,getElem!_pos _ j (by simpa using hj),getElem!_pos _ i (by simpa using hi)]at h9
    rw[pH]
    simpa using h9
   have hheap:(sortWorldK gU 2 w g 0 n d' os).heap[g]?=some (.cells (putCells id 0 (flatK gU 2 d') cur) 182):=by
    show(grow (putRow id (Sort.ahead w n) g 0 (flatK gU 2 d')) os).heap[g]?=_
    rw[heap_grow_old _ _ (by simpa [Sort.ahead]using lX)]
    show((Sort.ahead w n).heap.modify g _)[g]?=_
    rw[Array.getElem?_modify,if_pos rfl]
    show(w.heap[g]?).map _=_
    rw[hg]
    rfl
   have hkk:Keeps (λk=>k≠g) w (sortWorldK gU 2 w g 0 n d' os):=by
    refine⟨?_,?_,?_,?_,?_⟩
    · simp[sortWorldK,putRowK,grow,putRow,mapBlock,Sort.ahead]
    · simp[sortWorldK,putRowK,grow,putRow,mapBlock,Sort.ahead]
    · simp[sortWorldK,putRowK,grow,putRow,mapBlock,Sort.ahead]
    · simp[sortWorldK,putRowK,grow,putRow,mapBlock,Sort.ahead]
    · intro k hk hne
      show(grow (putRow id (Sort.ahead w n) g 0 (flatK gU 2 d')) os).heap[k]?=_
      rw[heap_grow_old _ _ (by simpa [Sort.ahead]using hk)]
      show((Sort.ahead w n).heap.modify g _)[k]?=_
      rw[Array.getElem?_modify,if_neg (λe=>hne e.symm)]
      rfl
   have pT:(flatK gU 2 d').size=ps.length*2:=by rw[size_flatK,nJ]
   have hk0:Keeps All w0 (sortWorldK gU 2 w g 0 n d' os):=hk.xU hkk λk hk0 e=>by subst e;omega
   have hok':∀ z∈d'.toList,Rd (SO S ([OB.row (.slice (some ⟨g,0,none⟩) ps.length cap) 182 2 ((d'.toList.map (·.1.1)).map ff)]++R)) (sortWorldK gU 2 w g 0 n d' os) (ai z.1.1.ac) z.1.2:=λz hz=>
    (bv z (by rw[<-hd];exact ke.mem_iff.1 hz)).move hkk λk _ hs=>⟨λe=>by
     refine hs.2 _ (mem_cons_self) ?_
     rw[e];rfl,hs.1,λp hp=>by
     rcases mem_cons.1 hp with rfl | hp
     · exact λe=>hs.2 _ (mem_cons_self) e
     · exact hs.2 p (mem_cons_of_mem _ hp)⟩
   have hinv:(OB.row (.slice (some ⟨g,0,none⟩) ps.length cap) 182 2 ((d'.toList.map (·.1.1)).map ff)).inv w0.heap.size (SO S ([OB.row (.slice (some ⟨g,0,none⟩) ps.length cap) 182 2 ((d'.toList.map (·.1.1)).map ff)]++R)) (sortWorldK gU 2 w g 0 n d' os):=by
    have hl2:((d'.toList.map (·.1.1)).map ff).length=ps.length:=by simp[nJ]
    refine⟨d'.toList.flatMap gU,⟨?_,.inr ⟨g,cap,putCells id 0 (flatK gU 2 d') cur,by rw[hl2],hb,hheap,by rw[hl2];exact en,df,by simpa [putCells]using iB,?_⟩⟩,CO hok',λr hr=>by obtain⟨p,_,rfl⟩:=mem_map.1 hr;rfl⟩
    · rw[hl2,<-fa d',Array.length_toList,pT]
    · rw[hl2,<-fa d',<-pT]
      exact Iz cur _ (by rw[pT,iB];exact Nat.mul_le_mul_right _ en)
   refine⟨⟨d'.toList.map (·.1.1),wr,An⟩,_,rfl,by simp only[Rel,bd];exact⟨[],rfl,rfl⟩,hk0,?_⟩
   have hx1:=Z
   rw[hlen]at hx1
   have:=uK (o':=OB.row (.slice (some ⟨g,0,none⟩) ps.length cap) 182 2 ((d'.toList.map (·.1.1)).map ff)) hx1 (V _ _ hk0 hJ0) (hkk.sub λk _ hk=>λe=>hk (by show(OB.row (.slice (some ⟨g,0,none⟩) ps.length cap) 182 2 (ps.map ff)).blk k;rw[e];rfl)) (λk hk=>.inl hk) hinv
   exact this.1
end Go.Proofs.YtdfadihhfppjaaaGreatDoor
namespace Go.Proofs.YtdfadihhfppjaaaGreatDoor
open Go.Proofs.Tryz (prog)
open Go.RowKit
theorem VR:prog.underlying 158=some (.map 9 22):=by kernel_rfl
theorem Ei:c9 prog 92 0 0:=fO
theorem Nn:c9 prog 92 1 3:=fO
theorem Bf {J:WP} (V:aS J) (mb:Nat) (Mb:BM) (d7:(Mb.map Prod.fst).Nodup) (E3:∀ q'∈Mb.map (·.1),q'.size<=9223372036854775807) (tG:Mb.length<=100000):eX (ι:=Unit) prog J 96 [] [.lit (.map (some mb))] [OB.map aB cC mb Mb] (λ_=>.rd (fj (bK Mb))) (λ_=>[OB.map aB cC mb Mb]):=by
 refine i7 Tryz.func96 λS w0 R hS hJ0 hH=>?_
 refine gQ (B:=So J S w0 22 (OB.map aB cC mb Mb::R) [(0,.lit (.map (some mb)))]) ?_ λa w h=>h
 refine ak tb V [0] [_] [_] ?_
 refine ak tb V [0,1000] [_] U2 ?_
 refine af (aL (ao 1 tb Y (Iq (Kd:=aB) (f:=cC) (L:=Mb) VR V hJ0 Y Y Y (lb Y) (λa w h=>(h.get 0 Y)) λb1=>?_)))
 refine aA [0,3] U2 Y (nx (ax (tw (iK 182 2 V) ?_)))
 refine lpo (ι:=Value×(List Bd)×(List BA)) (λ(_,out,vis)=>(out=vis.map (λs=>(⟨s,(aw Mb s).getD default⟩:Bd)))/\(vis.Nodup)/\(∀ q'∈vis,q'∈Mb.map (·.1))) (λ(v,out,vis)=>(OB.row v 182 2 (out.map ff)::OB.iter b1 aB cC mb Mb vis::R)) (λ(v,_,_)=>[(3,.lit v)]) (λ(_,_,vis)=>Mb.length-vis.length) [0,1] [_] ((.slice none 0 0),([]:List Bd),([]:List BA)) ⟨Y,by simp,λq' h=>by simp at h⟩ ?_
 rintro⟨v,out,vis⟩ ⟨aQ,ah,bp⟩
 refine aL (kw bQ (Io (Kd:=aB) (f:=cC) (L:=Mb) (vis:=vis) (λk' hk'=>E3 k' hk') V hJ0 Y Y Y (lb Y) (λa w h=>(h.get 0 Y)) λz2 zL mJ=>?_))
 refine sy (.bool z2.1) (λh=>gi Y (h.get 0 Y) Y h.x) ?_
 refine aA [0,2,3] U3 Y (nx (cI 0 (λhb1=>?_) λhb1=>?_))
 ·
  have e5:=FQ ah bp
  have e6:out.length=vis.length:=by rw[aQ,length_map]
  refine tw (ji (congrArg (λz'=>OB.iter b1 aB cC mb Mb (z')) (show(if z2.1 then vis++[z2.2]else vis)=(vis++[z2.2])from by rw[hb1];rfl))) (aj (nx (ax (au tb V [1,2,1002,1003,1004] [.bJ [.str z2.2,.rd (ai ((aw Mb z2.2).getD default))],_,_,_,_] [0] U5 Y ⟨λ_ _ _ Z hl _=>Ho (Kd:=aB) (f:=cC) (L:=Mb) (k:=z2.2) Y (aH Z (mo 0 Y)) (E3 z2.2 (by have:=(mJ hb1).2;rw[lx]at this;simpa using this)) (hl.env 1 7 _ Y Y) Z,U⟩ ?_))))
  refine ln 2 λ_=>?_
  refine cG (ao 3 tb Y (sq (.agg (ff (⟨z2.2,((aw Mb z2.2).getD default)⟩:Bd))) Y Y (lb Y) (λa _ h=>gd (us:=[a.eval (.tmp 14),a.eval (.tmp 15)]) yy Y yz (bX (h.get 1 Y) (bX (h.get 0 Y) cE)) Y h.x) ?_))
  refine sy (.rd (fj ([(⟨z2.2,((aw Mb z2.2).getD default)⟩:Bd)]))) (λh=>mY pO Ce dz Y Y (h.get 0 Y) (aK hS _ h.keep h.x _ aV) (jo V h.x)) ?_
  refine kw bQ (fP (f:=ff) (m:=4) (s:=13) out ([(⟨z2.2,((aw Mb z2.2).getD default)⟩:Bd)]) (λ_=>Y) yp V hJ0 Y Y Y (lb Y) Y Y (λa w h=>(h.get 0 Y)) (by simp;omega) (by simp;omega) λv3=>?_)
  refine ao 1 tb Y (aA [0,2,7] U3 Y ?_)
  exact bq (v3,out++([(⟨z2.2,((aw Mb z2.2).getD default)⟩:Bd)]),vis++[z2.2]) [2,0] ⟨by rw[aQ,List.map_append];rfl,by rw[List.nodup_append];exact⟨ah,by simp,λx Z y hy e=>by rw[List.mem_singleton.1 hy]at e;subst e;exact(mJ hb1).1 Z⟩,λq' hq'=>by rcases List.mem_append.1 hq' with h | h;exact bp q' h;rw[List.mem_singleton.1 h];have:=(mJ hb1).2;rw[lx]at this;simpa using this⟩ (hm:=(show Mb.length-(vis++[z2.2]).length<Mb.length-vis.length from Qm ah bp (mJ hb1)))
 ·
  have e5:=FQ ah bp
  have e6:out.length=vis.length:=by rw[aQ,length_map]
  have e7:=Qn d7 ah bp (zL hb1)
  refine tw (ji (congrArg (λz'=>OB.iter b1 aB cC mb Mb (z')) (show(if z2.1 then vis++[z2.2]else vis)=vis from by rw[hb1];rfl))) (aW (nx (aL ?_)))
  refine ao 1 tb Y (kw bQ ?_)
  refine iI (O:=[OB.row v 182 2 (out.map ff)]) (R:=(OB.iter b1 aB cC mb Mb vis::R)) (Sf V v out oz) (cO Tryz.func124) Y Y Y (lb Y) hS hJ0 b9 (λa w h=>(aq (h.get 0 Y) (aq (pc 125) aP))) λz4=>?_
  refine aA [4] [_] Y (nx (ak tb V [1001] U2 [_] ?_))
  refine tw (λh=>dV hS h (m:=0) (s:=2) Y) (tw It ?_)
  exact aZ (λa w h=>dt  (m:=0) () Y h Y (congrArg (λz=>AV.rd (fj z)) (show z4.1=(bK Mb)from Qs d7 (z4.2.1.trans (aQ▸e7)) z4.2.2)))
theorem GS {J:WP} (V:aS J) (d:Db) (i:Nat) (ss:List Stp) (ts:List (List BA)) (M:Nat) (gf:Fr) (al:List Int) (step:Nat) (fa:∀ h∈gf.aa,h.be=true->h.ac.length=2) (hi:i<d.ab.length) (jT:∀ t∈ts,1<=t.length/\t.length<=2000) (kT:∀ j,j<al.length->0<=G al j/\G al j< (ts.length:Int)) (lX:al.length=gf.aa.length) (hst:step<ts.length) (wk:gf.aa.length<=2000) (hsz:∀ h∈gf.aa,∀ s∈h.ac,s.size<=60) (p8:(G d.ab i).wide.length*32<=140737488351232):Fn prog J 68 [.ptr (jC d i ss ts M),.agg (aY gf),.rd (bS al),.int (step:Nat)] (.bool (fy (⟨d,i,ss,ts,[]⟩:Jb) gf al step)):=by
 refine fE Tryz.func68 λS w0 hS hJ0=>?_
 refine tw cc (ln 2 λcx=>?_)
 have het:∀ t∈(a8 ts al),1<=t.length/\t.length<=2000:=zd jT kT
 have tA:(a8 ts al).length=gf.aa.length:=by rw[re];exact lX
 have rB:=zK (hs:=gf.aa) (es:=(a8 ts al)) (p:=λt=>t.length<=2000) (λt ht=>by have:=het t ht;rw[length_drop];omega) tA
 have E0:∀ k,k<=gf.aa.length->∀ q'∈(d6 gf.aa (a8 ts al) k).map (·.1),q'.size<=9223372036854775807:=λk hk q' hq'=>by obtain⟨x,Z,rfl⟩:=mem_map.1 hq';obtain⟨h,hh,hf,e⟩:=(rB k hk x Z).2;have h8:=fa h hh hf;have h9:=hsz h hh (G h.ac 1) (aC oz);rw[e];omega
 refine au tb V [0,2,3,1000] [.ptr (aY gf),_] [0] U4 Y ⟨cW hS V,U⟩ ?_
 refine aL (qD aB cC V Y Y Y (lb Y) λm1=>?_)
 refine ao 1 tb (env':=[(9,_),(21,_),(0,_),(2,_),(3,_),(5,_)]) Y (aA [0,2,3,4,5] U5 Y ?_)
 refine nx (af (au tb V (r5 [1001,1002,1003]) [_,_,.int (gf.aa.length:Nat),_] [2] U8 Y ⟨aD cT,U⟩ ?_))
 refine ln 5 λ_=>?_
 refine ax (lpo (ι:=Nat×BM) (λ(k,Mb)=>(k<=gf.aa.length)/\(Mb=d6 gf.aa (a8 ts al) k)/\(∀ j,j<k->fc gf.aa (a8 ts al) 0 j=true)) (λ(_,Mb)=>[OB.map aB cC m1 Mb]) (λ(k,_)=>[(25,.int (k:Nat))]) (λ(k,_)=>gf.aa.length-k) (r8 []) U7 (0,([]:List (BA×List BA))) ⟨aI,Y,λj hj=>by omega⟩ ?_)
 rintro⟨k,Mb⟩ ⟨aQ,ah,bp⟩
 refine ak tb V (r8 [1000]) [_] U9 ?_
 refine cI 8 ?_ ?_<;>intro hb1<;>try simp at hb1
 ·
  have e0:G (a8 ts al) k=(G ts (G al k).toNat):=sY oz
  have e1:=kT k oz
  refine aj (nx (af (ax (aL (ao 1 tb (env':=[(27,_),(9,_),(0,_),(2,_),(3,_),(5,_),(23,_),(24,_),(25,_),(26,_)]) Y (sy (.ptr (aN (G gf.aa k))) (λh=>cb (i:=(k:Int)) cD Y (h.get 6 Y) (h.get 8 Y) bM (cq (xs:=gf.aa) (k:=k) az) Y h.x) ?_))))))
  refine ao 1 tb (env':=[(29,_),(28,_),(27,_),(9,_),(0,_),(2,_),(3,_),(5,_),(23,_),(24,_),(25,_),(26,_)]) Y (cz kK V Y Y Y (lb Y) λb2=>?_)
  refine ao 1 tb (env':=[(10,_),(11,_),(29,_),(28,_),(27,_),(9,_),(0,_),(2,_),(3,_),(5,_),(23,_),(24,_),(25,_),(26,_)]) Y (ck (b:=b2) (off:=0) (es:=U3) (news:=U3) V hJ0 jn Y Y Y (lb Y) Y (λa w h=>⟨(h.get 1 Y),(h.get 2 Y)⟩) ?_)
  refine kw (λh=>fg hS h (m:=1) (s:=11) Y) (aA [0,1,5,6,7,8,9,10,11,12] fw Y ?_)
  refine nx (af (ak tb V (ma [1002]) U3 lJ ?_))
  refine cj 10 ?_ ?_<;>intro hb2<;>try simp at hb2
  ·
   refine aW (nx (aT tb V [2,3,4,5,6,7,8,1001] [.int (k+1:Nat),_] [0] U8 Y ⟨aM,U⟩ ?_))
   exact bq (k+1,Mb) (r8 []) ⟨oz,by first | (rw[d6,if_neg (by simp[hb2]),<-ah];done) | (rw[d6,if_pos hb2,<-ah,e0]),cF bp (by first | (simp[fc,hb2];done) | (simp only[fc,Nat.zero_add,e0];simpa [hb2]using aE))⟩
  ·
   have e3:(G gf.aa k).ac.length=2:=fa _ (aC oz) hb2
   have e4:=jT _ (aC (xs:=ts) (k:=(G al k).toNat) oz)
   refine aj (nx (au tb V [0,2,3,4,5,6,7,8,9,1003,1009,1010] (V6 [.ptr [lI (G al k)],_,.ptr [ai (G ts (G al k).toNat)],_,_]) [6,8] oo Y ⟨bn dc,wD eC,U⟩ ?_))
   refine ln 9 λ_=>?_
   refine ln 10 λ_=>?_
   refine af (au tb V (r9 [11,1004,1007]) [_,.ptr [lS (G (G ts (G al k).toNat) 0)],_,_,_,.ptr [lS (G ((G gf.aa k).ac) 0)],_,_] [1,5] oo Y ⟨bn (k:=0) bx,bn (k:=0) bx,U⟩ ?_)
   refine ln 10 λ_=>?_
   refine cj 11 ?_ ?_<;>intro aE
   ·
    have e5:fc gf.aa (a8 ts al) 0 k=false:=by simp only[fc,Nat.zero_add,e0,Bool.or_eq_false_iff,Bool.not_eq_false',decide_eq_false_iff_not];exact⟨by simpa using hb2,by simpa using aE⟩
    have eU:fy (⟨d,i,ss,ts,[]⟩:Jb) gf al step=false:=NX (j:=(⟨d,i,ss,ts,[]⟩:Jb)) oz e5
    refine ak tb V [1000] [_] [_] ?_
    exact bL 0 (hE:=eB (by first | (rw[eU];done) | (rw[eU,e6])))
   ·
    refine aj (nx (λa w h=>iq (γ:=Unit) (λix'=>([.lit (.map (some m1)),.ptr [ai ((G gf.aa k).ac)],.rd (ai ((G gf.aa k).ac)),.ptr [lS (G ((G gf.aa k).ac) 1)],.str (G ((G gf.aa k).ac) 1),.rd (ai (G ts (G al k).toNat)),.rd (ai ((G ts (G al k).toNat).drop 1)),.any]:List AV).getD ix' .any) (λ_=>true) [(9,λ_=>.lit (.map (some m1))),(0,λ_=>.ptr (jC d i ss ts M)),(2,λ_=>.rd (bS al)),(3,λ_=>.int (step:Nat)),(5,λ_=>.ptr (aY gf)),(23,λ_=>.rd (bW gf.aa)),(24,λ_=>.int (gf.aa.length:Nat)),(25,λ_=>.int (k:Nat))] (λj' _=>match j' with | 0=>[OB.map aB cC m1 Mb] | _=>[OB.map aB cC m1 (cl Mb (G ((G gf.aa k).ac) 1) ((G ts (G al k).toNat).drop 1))]) (λ_ _=>undef) [7] 0 () (λ_=>Y) h V cP Y Y Y Y Y Y hsb ⟨oX Y λZ hl=>b8 Y (hl.env 1 9 _ Y Y) Z,oX Y λZ hl=>ca lO Y (hl.env 0 11 _ Y Y) Z,oX Y λZ hl=>bU ia Y (hl.D 1 52 Y Y) Z,?_,oX Y λZ hl=>bU fd Y (hl.D 3 54 Y Y) Z,oX Y λZ hl=>b8 Y (hl.env 9 12 _ Y Y) Z,?_,bB Y,U⟩ ⟨?pN,U⟩ ⟨.old 1 9 _,.old 2 0 _,.old 3 2 _,.old 4 3 _,.old 5 5 _,.old 6 23 _,.old 7 24 _,.old 8 25 _,U⟩ ?AU))
    exact oX Y λZ hl=>cb (i:=((1:Nat):Int)) bx Y (hl.D 2 53 Y Y) (Rel.aG (.int .i64 1)) bM (cq (xs:=(G gf.aa k).ac) (k:=1) az) Y Z
    exact oX Y λZ hl=>iH (ys:=(G ts (G al k).toNat).drop 1) (lo:=1) (hi:=(G ts (G al k).toNat).length) (by rw[take_length]) bx (λ_=>Y) Y (hl.D 5 56 Y Y) (Rel.aG (.int .i64 1)) Y az az Z
    case pN=>exact⟨_,Y,Y,Y,Y,λg _ w hk Z hl _=>bC (pJ (f:=cC) rO V hJ0 (G ((G gf.aa k).ac) 1) ((G ts (G al k).toNat).drop 1) (.inl Y) hk Z (hl.D 0 51 Y Y) (hl.D 4 55 Y Y) (hl.D 6 57 Y Y)) λv w' ⟨_,hp⟩=>⟨g,Y,λ_ _=>rfl,λe=>(by cases e),hp⟩⟩
    clear a w h
    intro _
    dsimp only[List.map]
    refine nx (aT tb V (r7 [1001]) [.int (k+1:Nat),_] [0] U8 Y ⟨aM,U⟩ ?_)
    exact bq (k+1,cl Mb (G ((G gf.aa k).ac) 1) ((G ts (G al k).toNat).drop 1)) (r8 []) ⟨oz,by first | (rw[d6,if_neg (by simp[hb2]),<-ah];done) | (rw[d6,if_pos hb2,<-ah,e0]),cF bp (by first | (simp[fc,hb2];done) | (simp only[fc,Nat.zero_add,e0];simpa [hb2]using aE))⟩
 ·
  have e6:Mb=d6 gf.aa (a8 ts al) gf.aa.length:=by rw[ah,show k=gf.aa.length by omega]
  refine aW (nx (af (au tb V (r5 [1001,1002,1003]) [_,_,.int (gf.aa.length:Nat),_] [2] U8 Y ⟨aD cT,U⟩ ?_)))
  refine ax (lpo (ι:=Nat) (λk=>(k<=gf.aa.length)/\(∀ j,j<k->l1 gf.aa (d6 gf.aa (a8 ts al) gf.aa.length) (a8 ts al) j=true)) (λ_=>[OB.map aB cC m1 Mb]) (λk=>[(62,.int (k:Nat))]) (λk=>gf.aa.length-k) (r8 []) U7 0 ⟨aI,λj hj=>by omega⟩ ?_)
  rintro k ⟨fx,bi⟩
  refine ak tb V (r8 [1000]) [_] U9 ?_
  refine cI 8 ?_ ?_<;>intro bh<;>try simp at bh
  ·
   have e0:G (a8 ts al) k=(G ts (G al k).toNat):=sY oz
   have e1:=kT k oz
   refine aj (nx (af (ax (aL (ao 1 tb (env':=[(64,_),(9,_),(0,_),(2,_),(3,_),(5,_),(60,_),(61,_),(62,_),(63,_)]) Y (sy (.ptr (aN (G gf.aa k))) (λh=>cb (i:=(k:Int)) cD Y (h.get 6 Y) (h.get 8 Y) bM (cq (xs:=gf.aa) (k:=k) az) Y h.x) ?_))))))
   refine ao 1 tb (env':=[(66,_),(65,_),(64,_),(9,_),(0,_),(2,_),(3,_),(5,_),(60,_),(61,_),(62,_),(63,_)]) Y (cz kK V Y Y Y (lb Y) λb3=>?_)
   refine ao 1 tb (env':=[(13,_),(14,_),(66,_),(65,_),(64,_),(9,_),(0,_),(2,_),(3,_),(5,_),(60,_),(61,_),(62,_),(63,_)]) Y (ck (b:=b3) (off:=0) (es:=U3) (news:=U3) V hJ0 jn Y Y Y (lb Y) Y (λa w h=>⟨(h.get 1 Y),(h.get 2 Y)⟩) ?_)
   refine kw (λh=>fg hS h (m:=1) (s:=14) Y) (aA [0,1,5,6,7,8,9,10,11,12] fw Y ?_)
   refine nx (au tb V [0,2,3,4,5,6,7,8,9,1003,1007,1013,1018] (qU [.ptr [lI (G al k)],_,.ptr [ai (G ts (G al k).toNat)],_,.bJ [.bool ((ce gf.aa Mb ((G gf.aa k).ac) (G ts (G al k).toNat)).1),.bool ((ce gf.aa Mb ((G gf.aa k).ac) (G ts (G al k).toNat)).2)],_,_,_,_,_]) [10,12,14] [_,_,_,_,_,_,_,_,_,_,_,_,_] Y ⟨bn dc,wD eC,λ_ _ hk Z hl _=>dE (Bb V m1 Mb gf ((G gf.aa k).ac) (G ts (G al k).toNat) (by exact fa)) (cO Tryz.func94) Y (aK hS _ hk Z) (Z.1) (dC (aH Z (mo 0 Y)) b9) (aq (hl.D 0 68 Y Y) (aq (hl.D 1 69 Y Y) (aq (hl.D 3 71 Y Y) (aq (hl.D 13 81 Y Y) aP)))) (jo V Z),U⟩ ?_)
   refine ln 9 λ_=>?_
   refine ln 10 λ_=>?_
   refine ln 11 λ_=>?_
   refine ak tb V [1,2,3,4,5,6,7,8,1006] U7 U9 ?_
   refine cj 8 ?_ ?_<;>intro bV
   ·
    have e7:l1 gf.aa (d6 gf.aa (a8 ts al) gf.aa.length) (a8 ts al) k=false:=by simp only[l1,e0];rw[<-e6];cases h9:(G gf.aa k).be<;>simp_all
    have eU:fy (⟨d,i,ss,ts,[]⟩:Jb) gf al step=false:=NW (j:=(⟨d,i,ss,ts,[]⟩:Jb)) oz e7
    refine ak tb V [1000] [_] [_] ?_
    exact bL 0 (hE:=eB (by first | (rw[eU];done) | (rw[eU,e6])))
   ·
    refine aj (nx (aT tb V (r7 [1001]) [.int (k+1:Nat),_] [0] U8 Y ⟨aM,U⟩ ?_))
    exact bq (k+1) (r8 []) ⟨oz,cF bi (by simp only[l1,e0];rw[<-e6];cases h9:(G gf.aa k).be<;>simp_all)⟩
  ·
   refine aW (nx (af (au tb V [0,1,4,1003,1007,1010,1015] (V9 [.ptr [ai (G ts step)],_,.bJ [.bool ((ce gf.aa Mb gf.ac (G ts step)).1),.bool ((ce gf.aa Mb gf.ac (G ts step)).2)],_,_,_,_,_]) [9,11] U7 Y ⟨bn eC,λ_ _ hk Z hl _=>dE (Bb V m1 Mb gf gf.ac (G ts step) (by exact fa)) (cO Tryz.func94) Y (aK hS _ hk Z) (Z.1) (dC (aH Z (mo 0 Y)) b9) (aq (hl.D 0 94 Y Y) (aq (hl.D 1 95 Y Y) (aq (hl.D 3 97 Y Y) (aq (hl.D 10 104 Y Y) aP)))) (jo V Z),U⟩ ?_)))
   refine ln 3 λ_=>?_
   refine ln 4 λ_=>?_
   refine ln 5 λ_=>?_
   refine ak tb V [0,1,2,1001] U2 U4 ?_
   refine cj 3 ?_ ?_<;>intro eM<;>try simp at eM
   ·
    have eU:fy (⟨d,i,ss,ts,[]⟩:Jb) gf al step=false:=NV (j:=(⟨d,i,ss,ts,[]⟩:Jb)) (by show(ce gf.aa (d6 gf.aa (a8 ts al) gf.aa.length) gf.ac (G ts step)).1=false;rw[<-e6];exact eM)
    refine ak tb V [1000] [_] [_] ?_
    exact bL 0 (hE:=eB (by first | (rw[eU];done) | (rw[eU,e6])))
   ·
    have eU:fy (⟨d,i,ss,ts,[]⟩:Jb) gf al step= !eL (bK (d6 gf.aa (a8 ts al) gf.aa.length)) gf.apart d.vars (G d.ab i).wide:=NY (j:=(⟨d,i,ss,ts,[]⟩:Jb)) (λq hq=>bp q oz) (λq hq=>bi q oz) (by show(ce gf.aa (d6 gf.aa (a8 ts al) gf.aa.length) gf.ac (G ts step)).1=true;rw[<-e6];exact eM)
    refine aj (nx (af (λa w h=>k6 [] (γ:=Value×Nat) (λix'=>([.lit (.map (some m1)),.rd (fj (bK Mb)),.ptr [bI gf.apart,ai gf.ac,bW gf.bA,bI gf.wide,ai gf.proof],.rd (bI gf.apart),.ptr (jC d i ss ts M),.ptr (jC d i ss ts M),.ptr (jC d i ss ts M),.ptr [ai d.vars,dU d.ab,lI (i:Int),br ss,ct ts,lI (((dr ss):Nat):Int),.lit (.map (some M))],.rd (ai d.vars),.ptr (jC d i ss ts M),.ptr (jC d i ss ts M),.ptr (jC d i ss ts M),.ptr [dU d.ab,lI (i:Int),br ss,ct ts,lI (((dr ss):Nat):Int),.lit (.map (some M))],.rd (dU d.ab),.ptr (jC d i ss ts M),.ptr (jC d i ss ts M),.ptr [lI (i:Int),br ss,ct ts,lI (((dr ss):Nat):Int),.lit (.map (some M))],.int (i:Nat),.ptr (aY (G d.ab i)),.ptr [bI ((G d.ab i).wide),ai ((G d.ab i).proof)],.rd (bI ((G d.ab i).wide)),.bJ [.agg (aR (fB (bK Mb) gf.apart d.vars ((G d.ab i).wide))),.bool (eL (bK Mb) gf.apart d.vars ((G d.ab i).wide))],.bJ [.agg (aR (fB (bK Mb) gf.apart d.vars ((G d.ab i).wide))),.bool (eL (bK Mb) gf.apart d.vars ((G d.ab i).wide))],.agg (aR (fB (bK Mb) gf.apart d.vars ((G d.ab i).wide))),.bool (eL (bK Mb) gf.apart d.vars ((G d.ab i).wide)),.any,.any,.bool (eL (bK Mb) gf.apart d.vars ((G d.ab i).wide))]:List AV).getD ix' .any) (λ_=>true) [(20,λ_=>.bool (eL (bK Mb) gf.apart d.vars ((G d.ab i).wide)))] (λ(b:List Bool) (g:Value×Nat)=>(bif b.getD 2 false then [OB.var g.2 (aR (fB (bK Mb) gf.apart d.vars ((G d.ab i).wide)))]else(bif b.getD 1 false then [OB.var g.2 [lS (⟨#[]⟩:BA),lS (⟨#[]⟩:BA)]]else []))++([OB.map aB cC m1 Mb]++([]))) (λk' g=>match k' with | 0=>g.1 | 1=>(.pointer (some ⟨g.2,0,none⟩)) | _=>undef) [1,25,26] (undef,0) (λ_=>Y) h V cP Y Y Y Y (λb g p hp=>(mem_append_right _ (mem_append_right _ hp))) ⟨oX Y λZ hl=>b8 Y (hl.env 0 9 _ Y Y) Z,bB Y,oX Y λZ hl=>ca zt Y (hl.env 2 5 _ Y Y) Z,oX Y λZ hl=>bU rX Y (hl.D 2 113 Y Y) Z,oX Y λZ hl=>b8 Y (hl.env 1 0 _ Y Y) Z,oX Y λZ hl=>kC Y (hl.D 4 115 Y Y) Z,oX Y λZ hl=>ca Ei Y (hl.D 5 116 Y Y) Z,oX Y λZ hl=>ca zp Y (hl.D 6 117 Y Y) Z,oX Y λZ hl=>bU ia Y (hl.D 7 118 Y Y) Z,oX Y λZ hl=>b8 Y (hl.env 1 0 _ Y Y) Z,oX Y λZ hl=>kC Y (hl.D 9 120 Y Y) Z,oX Y λZ hl=>ca Ei Y (hl.D 10 121 Y Y) Z,oX Y λZ hl=>ca pR Y (hl.D 11 122 Y Y) Z,oX Y λZ hl=>bU qk Y (hl.D 12 123 Y Y) Z,oX Y λZ hl=>b8 Y (hl.env 1 0 _ Y Y) Z,oX Y λZ hl=>kC Y (hl.D 14 125 Y Y) Z,oX Y λZ hl=>ca Nn Y (hl.D 15 126 Y Y) Z,oX Y λZ hl=>bU fY Y (hl.D 16 127 Y Y) Z,?_,oX Y λZ hl=>ca zu Y (hl.D 18 129 Y Y) Z,oX Y λZ hl=>bU rX Y (hl.D 19 130 Y Y) Z,?_,oX Y λZ hl=>b8 Y (hl.D 21 132 Y Y) Z,oX Y λZ hl=>gi Y (hl.D 22 110 Y Y) Y Z,oX Y λZ hl=>gi Y (hl.D 22 110 Y Y) Y Z,bB Y,bB Y,oX Y λZ hl=>gO Y (hl.D 24 134 Y Y) Z,U⟩ ⟨?LZ,?L0,?L2,U⟩ ⟨.new 27 20 _,U⟩ ?Xq)))
    exact oX Y λZ hl=>cb (i:=(i:Int)) fK Y (hl.D 13 124 Y Y) (hl.D 17 128 Y Y) bM (cq (xs:=d.ab) (k:=i) az) Y Z
    exact oY Y λhk Z hl=>cQ (Gz V (bK Mb) gf.apart d.vars ((G d.ab i).wide) (by rw[e6];exact FS (p:=λt=>t.length<=2000) λq hq=>(rB _ aV q hq).1) (by exact p8)) (cO Tryz.func95) Y (aK hS _ hk Z) (Z.1) (aq (hl.D 1 112 Y Y) (aq (hl.D 3 114 Y Y) (aq (hl.D 8 119 Y Y) (aq (hl.D 20 131 Y Y) aP)))) (jo V Z)
    case LZ=>exact ew [[false,false,false],[false,true,false]] yq Y Y Y Y ⟨λg _ w hk Z hl hs=>bC (pI (O:=[OB.map aB cC m1 Mb]) (R:=[]) (Bf V m1 Mb (by rw[e6];exact v8 _) (by rw[e6];exact E0 _ aV) (by have:=zJ (hs:=gf.aa) (es:=(a8 ts al)) gf.aa.length;rw[e6];omega)) (cO Tryz.func96) Y hS hJ0 b9 hk Z (aq (hl.D 0 111 Y Y) aP)) λv w' ⟨i,hp,hv⟩=>⟨(v,g.2),dY,λ_=>rfl,hv,hp⟩,λg _ w hk Z hl hs=>bC (pI (O:=[OB.map aB cC m1 Mb]) (R:=[OB.var g.2 [lS (⟨#[]⟩:BA),lS (⟨#[]⟩:BA)]]) (Bf V m1 Mb (by rw[e6];exact v8 _) (by rw[e6];exact E0 _ aV) (by have:=zJ (hs:=gf.aa) (es:=(a8 ts al)) gf.aa.length;rw[e6];omega)) (cO Tryz.func96) Y hS hJ0 b9 hk (fI (eE (A:=[OB.var g.2 [lS (⟨#[]⟩:BA),lS (⟨#[]⟩:BA)]])) Z) (HX (eE (A:=[OB.var g.2 [lS (⟨#[]⟩:BA),lS (⟨#[]⟩:BA)]])) (aq (hl.D 0 111 Y Y) aP))) λv w' ⟨i,hp,hv⟩=>⟨(v,g.2),dY,λ_=>rfl,(hv.sub λ_ _ hs=>hs.perm (eE (A:=[OB.var g.2 [lS (⟨#[]⟩:BA),lS (⟨#[]⟩:BA)]])).symm),kF (eE (A:=[OB.var g.2 [lS (⟨#[]⟩:BA),lS (⟨#[]⟩:BA)]])).symm (eE (A:=[OB.var g.2 [lS (⟨#[]⟩:BA),lS (⟨#[]⟩:BA)]])).symm hp⟩,U⟩
    case L0=>exact ew [[false,false,false],[true,false,false]] yq Y Y Y Y ⟨λg _ w hk Z _ _=>bC (gq na V Y hk Z) λv w' ⟨b',hv,hp⟩=>⟨(g.1,b'),dY,λ_=>hv,True.intro,hp⟩,λg _ w hk Z _ _=>bC (gq na V rfl hk Z) λv w' ⟨b',hv,hp⟩=>⟨(g.1,b'),dY,λ_=>hv,True.intro,hp⟩,U⟩
    case L2=>exact ew [[true,true,false]] yq Y Y Y Y ⟨λg a w hk Z hl hs=>(by obtain⟨eJ,hv2,ed⟩:=jm (hl.D 23 133 Y Y);exact bC (ii (S':=S) (off:=0) (news:=U2) (es:=U2) (us:=eJ) V hJ0 jZ Y hk Z (kj (hs 1 25 _ 19 Y Y Y Y)) (by rw[hv2];rfl) ed (lb Y) Y) λv w' hp=>⟨g,λ_ _=>rfl,λe=>(by cases e),True.intro,hp⟩),U⟩
    clear a w h
    rintro⟨x4,b5⟩
    dsimp only[List.map]
    refine kw cR (nx (ak tb V [1002] U3 [_] ?_))
    exact bL 0 (hE:=eB (by first | (rw[eU];done) | (rw[eU,e6])))
end Go.Proofs.YtdfadihhfppjaaaGreatDoor
namespace Go.Proofs.YtdfadihhfppjaaaGreatDoor
open Go.RowKit
section
variable {n:Rn} {P:Program} {l:List Oper} {Q:Exit->Act->WP}
variable {N:Nat} {J:WP} {S:Nat->Prop} {O:List OB} {w0:World} {env:List (Nat×AV)} {am:Nat->AV} {conds:Nat->Bool} {T:Array Value} {γ:Type}
theorem RInv.wanted {K S1 S:Nat->Prop} {X:WP} {b:Nat->Bool} {a:Act} {w:World} (h:RInv K S1 S w0 N env X l am conds T b a w) (hN:i5 l N=true) {i:Nat} {o:Oper} (hd:∀ j∈cm o,b j=true) (hg:lF l am conds i o) (hc:conds i=true):Region.wanted o (yielded l.toArray a.tmps)=true:=by
 unfold Region.wanted
 unfold lF at hg
 split
 · rfl
 · rename_i j pol kV
   rw[kV]at hg
   obtain⟨g,p,d,hj,ke,cL,lU,tz⟩:=hg
   rw[hc]at lU
   have tu:conds j=true/\(g==pol)=true:=by simpa using lU.symm
   have oJ:j∈cm o:=by simpa using tz
   have hrel:=h.new j p d hj ke (hd j oJ) tu.1
   rw[cL]at hrel
   have ei:=hrel.lit
   have hlt:d<a.tmps.size:=by rw[h.size];exact ij hN hj ke
   have dv:a.tmps[d]?=some (.bool g):=by
    rw[Array.getD_eq_getD_getElem?,Array.getElem?_eq_getElem hlt]at ei
    rw[Array.getElem?_eq_getElem hlt];simpa using ei
   have tD:g=pol:=by simpa using tu.2
   simp only[yielded,List.getElem?_toArray,hj,Option.bind_some,ke,dv,tD]
   simp
def Cn {μ:Type} (pv:μ->Value) (O3:μ->List OB) (n:Rn) (P:Program) (J:WP) (S:Nat->Prop) (w0:World) (env:List (Nat×AV)) (l:List Oper) (am:Nat->AV) (conds:Nat->Bool) (ci:(Nat->Bool)->γ->List OB) (sv:Nat->γ->Value) (ch:List Nat) (k i:Nat):Prop:=
 ∃ o,l[i]?=some o/\lF l am conds i o/\conds i=true/\
  ∀ D g a w,D k=false->(∀ k' i',ch[k']?=some i'->under l l.length i i'=true->D k'=true)->(∀ k1 k2 i1 i2,ch[k1]?=some i1->ch[k2]?=some i2->D k1=true->under l l.length i1 i2=true->D k2=true)->
   Keeps All w0 w->XO J S w0.heap.size (ci D g) w->Look (SO S (ci D g)) w env l am conds i a->(∀(k' i':Nat) (o':Oper) (d:Nat),D k'=true->ch[k']?=some i'->l[i']?=some o'->o'.dst=some d->a.eval (.tmp d)=sv k' g)->
   nc n P o a w (λv w'=>∃ g',(∀ k',D k'=true->sv k' g'=sv k' g)/\(o.dst.isSome=true->v=sv k g')/\Rel (SO S (ci (gy D k) g')) w' (am i) v/\db J S w0 (ci D g) w (ci (gy D k) g') w') (λc w'=>∃ q,c=eP (pv q)/\db J S w0 (ci D g) w (O3 q) w')
theorem T3 {μ:Type} (pv:μ->Value) (O3:μ->List OB) (Or:List OB) {id:Nat} {draw:Bool} {a:Act} {w:World} (am:Nat->AV) (conds:Nat->Bool) (env':List (Nat×(γ->AV))) (ci:(Nat->Bool)->γ->List OB) (sv:Nat->γ->Value) (ch:List Nat) (g0:γ) (h0:∀ g,ci (λ_=>false) g=O)
 (h:So J S w0 N O env a w) (V:aS J) (hm:P.follows .mixedOrders=true) (hu:jH l=true) (hN:i5 l N=true) (hback:lf l=true) (d7:qi ch=true)
 (hsub:∀ D g p,p∈Or->p∈ci D g) (ob:la (nh n P J S Or w0 env l am conds ch) 0 l) (dZ:mg (Cn pv O3 n P J S w0 env l am conds ci sv ch) 0 ch) (hf:k9 env l am conds sv ch env')
 (nW:∀ q a w,So J S w0 N (O3 q) [] a w->Q (.panic (eP (pv q))) a w)
 (hq:∀ g a w,So J S w0 N (ci (λk=>decide (k<ch.length)) g) (env'.map λp=>(p.1,p.2 g)) a w->Q .normal a w):(Code.region id l.toArray draw).wpIn n.F n.d P Q a w:=by
 have start:∀ w',Keeps All w w'->uN J S w0 N env l am conds a.tmps ci sv ch (λ_=>false) g0 (λ_=>false) a w':=λw' hk=>
  ⟨by
   rw[h0]
   exact⟨h.defs,h.size,h.keep.trans hk,fi V _ _ hk h.x,λ_ _=>rfl,λ_ _ _ _ _ e _=>(by cases e),λ_ _ _ _ _ e _=>(by cases e),λ_ _ _ e=>(by cases e),λ_ h=>h,λp hp=>⟨(h.env p hp).1,(h.env p hp).2.on hk⟩⟩,
   λ_ _ _=>rfl,λ_ _=>rfl,λ_ _ _ _ hk=>by cases hk⟩
 have oL:∀(k k' i:Nat),ch[k]?=some i->ch[k']?=some i->k=k':=λk k' i h1 h2=>by
  have g1:=all_eq_true.1 d7 (i,k) (by rw[List.mem_zipIdx_iff_getElem?];simpa using h1)
  have g2:=all_eq_true.1 g1 (i,k') (by rw[List.mem_zipIdx_iff_getElem?];simpa using h2)
  simpa using g2
 refine xk (Pn:=λc a' w'=>∃ q,c=eP (pv q)/\So J S w0 N (O3 q) [] a' w') (I:=λb a' w'=>∃ D g,uN J S w0 N env l am conds a.tmps ci sv ch D g b a' w') (λc a' w' ⟨q,hc,hs⟩=>hc▸nW q a' w' hs) hm hback ?_ ?_ ⟨_,g0,start w (Keeps.refl _ _)⟩ ⟨_,g0,start _ (Keeps.refl _ _).drew⟩
 · rintro Q hP b a1 w1 i o rest hi hb hd ⟨D,g,hg⟩ hK
   by_cases gI:∃ k:Nat,ch[k]?=some i
   · obtain⟨k,hk⟩:=gI
     obtain⟨o',ho',kV,hc,ga⟩:=dZ.get k i hk
     rw[hi]at ho';cases ho'
     simp only[Nat.zero_add]at ga
     refine wpListIn_step λK' hKr=>?_
     rw[if_pos (hg.inv.wanted hN hd kV hc)]
     refine ga D g a1 w1 (by rw[<-hg.done k i hk];exact hb) (λk' i' hk' l0=>?_) (λk1 k2 i1 i2 h1 h2 hD l0=>?_) hg.inv.keep hg.inv.x (hg.inv.look hi hb hd) (λk' i' o' d hk' hi' hl' hd'=>hg.slot k' i' o' d hk' hi' hl' hd') K' Q (λu w2 ⟨g',e2,e3,e4,hs⟩=>?_) (λc w2 ⟨q,hc,hs⟩=>hP c a1 w2 ⟨q,hc,hg.inv.defs,hg.inv.size,hs.1,hs.2.1,λp hp=>by cases hp⟩)
     · rw[<-hg.done k' i' hk']
       exact qJ hg.inv.closed _ i _ o hi hd l0
     · rw[<-hg.done k2 i2 h2]
       rw[<-hg.done k1 i1 h1]at hD
       cases hl:l[i1]? with
       | none=>
        have:∀ f,under l f i1 i2=false:=λf=>by cases f<;>simp[under,hl]
        rw[this]at l0;cases l0
       | some p=>exact qJ hg.inv.closed _ _ _ p hl (hg.inv.closed _ p hl hD) l0
     refine hKr _ _ (hK _ _ ⟨gy D k,g',hg.inv.BS hu hN hi hd u hs.1 hs.2.2 hs.2.1 hc e4,λk' i' hk'=>?_,λk' hk'=>?_,λk' i' o' d hk' hi' hl' hd'=>?_⟩)
     · by_cases e:i'=i
       · subst e
         have:=oL k' k i' hk' hk
         subst this
         simp[cK,gy]
       · simp only[cK,if_neg e]
         rw[hg.done k' i' hk']
         have:k'≠k:=λe'=>by subst e';rw[hk]at hk';cases hk';exact e rfl
         simp[gy,this]
     · have kW:k<ch.length:=(List.getElem?_eq_some_iff.1 hk).1
       have:k'≠k:=by omega
       simp[gy,this,hg.out k' hk']
     · by_cases e:k'=k
       · subst e
         rw[hk]at hi';cases hi'
         rw[hi]at hl';cases hl'
         rw[hd',k3 _ _ _ (by rw[hg.inv.size];exact ij hN hi hd')]
         exact e3 (by simp[hd'])
       · have hne:i'≠i:=λe'=>e (by subst e';exact oL k' k i' hi' hk)
         have hk'':D k'=true:=by simpa [gy,e]using hk'
         rw[jk _ _ _ _ (λe'=>hne (kp hu hl' hi hd' e'))]
         rw[hg.slot k' i' o' d hk'' hi' hl' hd',e2 k' hk'']
   · have rF:ch.contains i=false:=by
      simp only[List.contains_eq_mem,decide_eq_false_iff_not]
      intro kd
      obtain⟨k,hk,he⟩:=List.getElem_of_mem kd
      exact gI ⟨k,by rw[List.getElem?_eq_getElem hk,he]⟩
     have oM:=rT l 0 ob i o hi
     rw[Nat.zero_add]at oM
     refine hg.inv.sT hu hN hi hb hd (oM rF _ (hsub D g)) λa' w' h' hsl=>hK _ _ ⟨D,g,h',λk' i' hk'=>?_,hg.out,λk' i' o' d hk' hi' hl' hd'=>?_⟩
     · have:i'≠i:=λe=>gI ⟨k',e▸hk'⟩
       simp only[cK,if_neg this]
       exact hg.done k' i' hk'
     · have hne:i'≠i:=λe=>gI ⟨k',e▸hi'⟩
       rw[hsl d (λe'=>hne (kp hu hl' hi hd' e'))]
       exact hg.slot k' i' o' d hk' hi' hl' hd'
 · rintro a1 w1 ⟨D,g,hg⟩
   have nG:∀ k,k<ch.length->D k=true:=λk hk=>by
    have dv:ch[k]?=some (ch[k]'hk):=List.getElem?_eq_getElem _
    obtain⟨o',ho',_⟩:=dZ.get k _ dv
    have hb:=hg.done k _ dv
    have hlt2:ch[k]<l.length:=(List.getElem?_eq_some_iff.1 ho').1
    simpa [hlt2]using hb.symm
   have hD:D=λk=>decide (k<ch.length):=by
    funext k
    by_cases hk:k<ch.length
    · rw[nG k hk];simp[hk]
    · rw[hg.out k oz];simp[hk]
   subst hD
   refine hq g a1 w1 ⟨hg.inv.defs,hg.inv.size,hg.inv.keep,hg.inv.x,λp hp=>?_⟩
   obtain⟨q,hq',rfl⟩:=mem_map.1 hp
   cases hf.mem q hq' with
   | old m s av he hn=>
    have h1:=hg.inv.env (s,av) (List.mem_of_getElem? he)
    refine⟨h1.1,?_⟩
    show Rel _ w1 av (a1.tmps.getD s undef)
    rw[hg.inv.old s λi o hi ho=>by
     have:=all_eq_true.1 hn o (List.mem_of_getElem? hi)
     simp[ho]at this]
    exact h1.2
   | new i s av hs hc he=>
    cases hi:l[i]? with
    | none=>rw[hi]at hs;cases hs
    | some o=>
     rw[hi]at hs
     have hs':o.dst=some s:=hs
     have hlt:i<l.length:=(List.getElem?_eq_some_iff.1 hi).1
     refine⟨ij hN hi hs',?_⟩
     have hr:=hg.inv.new i o s hi hs' (by simpa using hlt) hc
     rw[he]at hr
     exact hr
   | dZ k i s f hk hs hf ho=>
    cases hi:l[i]? with
    | none=>rw[hi]at hs;cases hs
    | some o=>
     rw[hi]at hs
     have hs':o.dst=some s:=hs
     refine⟨ij hN hi hs',?_⟩
     have hr:=hg.slot k i o s (by simpa using(List.getElem?_eq_some_iff.1 hk).1) hk hi hs'
     simp only
     rw[hr,hf]
     exact Rel.aG _ (ho g)
theorem DJ {o:Oper} {a:Act} {w:World} {p p':Value->WP} {f f':List PanicEntry->WP} (h:nc n P o a w p f) (h1:∀ v w',p v w'->p' v w') (h2:∀ c w',f c w'->f' c w'):nc n P o a w p' f':=λK Q hK hF=>h K Q (λv w' hp=>hK v w' (h1 v w' hp)) λc w' hf=>hF c w' (h2 c w' hf)
def Co {μ:Type} (pv:μ->Value) (O3:μ->List OB) (n:Rn) (P:Program) (J:WP) (S:Nat->Prop) (w0:World) (env:List (Nat×AV)) (l:List Oper) (am:Nat->AV) (conds:Nat->Bool) (F:List Bool->γ->List OB) (sv:Nat->γ->Value) (ch:List Nat) (k i:Nat):Prop:=
 Cn pv O3 n P J S w0 env l am conds (λD g=>F ((List.range ch.length).map D) g) (λk' g=>if k'<ch.length then sv k' g else undef) ch k i
theorem za {μ:Type} {pv:μ->Value} {O3:μ->List OB} {F:List Bool->γ->List OB} {sv:Nat->γ->Value} {ch:List Nat} {k i:Nat} {o:Oper} (cs:List (List Bool)) (iB:vz l ch k=cs) (p4:ch[k]?=some i) (ho:l[i]?=some o) (hg:lF l am conds i o) (hc:conds i=true)
 (core:uM (λb=>∀ g a w,Keeps All w0 w->XO J S w0.heap.size (F b g) w->Look (SO S (F b g)) w env l am conds i a->(∀(k' i':Nat) (o':Oper) (d:Nat),b.getD k' false=true->ch[k']?=some i'->l[i']?=some o'->o'.dst=some d->a.eval (.tmp d)=sv k' g)->
  nc n P o a w (λv w'=>∃ g',(∀ k',b.getD k' false=true->sv k' g'=sv k' g)/\(o.dst.isSome=true->v=sv k g')/\Rel (SO S (F (b.set k true) g')) w' (am i) v/\db J S w0 (F b g) w (F (b.set k true) g') w') (λc w'=>∃ q,c=eP (pv q)/\db J S w0 (F b g) w (O3 q) w')) cs):
 Co pv O3 n P J S w0 env l am conds F sv ch k i:=by
 refine⟨o,ho,hg,hc,λD g a w hD hpre cY hk Z hl hs=>?_⟩
 have kW:k<ch.length:=(List.getElem?_eq_some_iff.1 p4).1
 have tE:ch[k]=i:=(List.getElem?_eq_some_iff.1 p4).2
 have kd:(List.range ch.length).map D∈cs:=by
  rw[<-iB,vz,List.mem_filter]
  refine⟨yA D _,?_⟩
  simp only[rv,Bool.and_eq_true,all_eq_true]
  refine⟨by simp[hD],λp hp q hq=>?_⟩
  obtain⟨tJ,hp2⟩:=mem_zipIdx' hp
  obtain⟨hq1,hq2⟩:=mem_zipIdx' hq
  by_cases hu:under l l.length p.1 q.1=true
  · have e1:ch[p.2]?=some p.1:=by rw[List.getElem?_eq_getElem tJ,hp2]
    have e2:ch[q.2]?=some q.1:=by rw[List.getElem?_eq_getElem hq1,hq2]
    rw[hu]
    simp only[Bool.not_true,Bool.false_or,Bool.and_eq_true,Bool.or_eq_true,bne_iff_ne,ne_eq,hq1,decide_true,Bool.true_and,tJ]
    refine⟨?_,?_⟩
    · by_cases e:p.2=k
      · right
        rw[e,p4]at e1
        cases e1
        exact hpre q.2 q.1 e2 hu
      · exact .inl e
    · cases hd:D p.2 with
      | false=>exact .inl rfl
      | true=>exact .inr (cY p.2 q.2 p.1 q.1 e1 e2 hd hu)
  · simp[hu]
 have hset:(List.range ch.length).map (gy D k)=((List.range ch.length).map D).set k true:=by
  apply ext_getElem?
  intro j
  rw[List.getElem?_set]
  by_cases hj:j<ch.length
  · by_cases e:k=j
    · subst e;simp[hj,gy]
    · simp[hj,e,gy,Ne.symm (show k≠j from e)]
  · by_cases e:k=j
    · omega
    · simp[hj,e]
 have:=yo core kd g a w hk Z hl λk' i' o' d hb h1 h2 h3=>by
  rw[rv]at hb
  simp only[Bool.and_eq_true,decide_eq_true_eq]at hb
  have:=hs k' i' o' d hb.2 h1 h2 h3
  have e:(if k'<ch.length then sv k' g else undef)=sv k' g:=if_pos hb.1
  rw[<-e];exact this
 refine DJ this (λv w' ⟨g',e1,e2,e3,e4⟩=>⟨g',λk' hk'=>?_,λh=>by
  have e:(if k<ch.length then sv k g' else undef)=sv k g':=if_pos kW
  show v=if k<ch.length then sv k g' else undef
  rw[e];exact e2 h,?_,?_⟩) (λc w' h=>h)
 · by_cases hlt:k'<ch.length
   · show(if k'<ch.length then sv k' g' else undef)=if k'<ch.length then sv k' g else undef
     rw[if_pos hlt,if_pos hlt]
     exact e1 k' (by rw[rv];simp[hlt,hk'])
   · show(if k'<ch.length then sv k' g' else undef)=if k'<ch.length then sv k' g else undef
     rw[if_neg hlt,if_neg hlt]
 · show Rel (SO S (F ((List.range ch.length).map (gy D k)) g')) w' (am i) v
   rw[hset];exact e3
 · show db J S w0 (F ((List.range ch.length).map D) g) w (F ((List.range ch.length).map (gy D k)) g') w'
   rw[hset];exact e4
theorem HT {μ:Type} (pv:μ->Value) (O3:μ->List OB) (Or:List OB) {id:Nat} {draw:Bool} {a:Act} {w:World} (am:Nat->AV) (conds:Nat->Bool) (env':List (Nat×(γ->AV))) (F:List Bool->γ->List OB) (sv:Nat->γ->Value) (ch:List Nat) (g0:γ) (h0:∀ g,F (ch.map λ_=>false) g=O)
 (h:So J S w0 N O env a w) (V:aS J) (hm:P.follows .mixedOrders=true) (hu:jH l=true) (hN:i5 l N=true) (hback:lf l=true) (d7:qi ch=true)
 (hsub:∀ b g p,p∈Or->p∈F b g) (ob:la (nh n P J S Or w0 env l am conds ch) 0 l) (dZ:mg (Co pv O3 n P J S w0 env l am conds F sv ch) 0 ch) (hf:k9 env l am conds (λk' g=>if k'<ch.length then sv k' g else undef) ch env')
 (nW:∀ q a w,So J S w0 N (O3 q) [] a w->Q (.panic (eP (pv q))) a w)
 (hq:∀ g a w,So J S w0 N (F (ch.map λ_=>true) g) (env'.map λp=>(p.1,p.2 g)) a w->Q .normal a w):(Code.region id l.toArray draw).wpIn n.F n.d P Q a w:=by
 refine T3 pv O3 Or am conds env' (λD g=>F ((List.range ch.length).map D) g) (λk' g=>if k'<ch.length then sv k' g else undef) ch g0 (λg=>?_) h V hm hu hN hback d7 (λD g p hp=>hsub _ g p hp) ob dZ hf nW λg a w h=>hq g a w ?_
 · rw[<-h0 g]
   congr 1
   apply ext_getElem?
   intro j
   by_cases hj:j<ch.length<;>simp[hj]
 · have e:(List.range ch.length).map (λk=>decide (k<ch.length))=ch.map λ_=>true:=by
    apply ext_getElem?
    intro j
    by_cases hj:j<ch.length<;>simp[hj]
   rw[<-e]
   exact h
end
theorem HL {S S':Nat->Prop} {w:World}:∀ {xs:List Int} {us:List Value},bD S w (xs.map bT).flatten us->bD S' w (xs.map bT).flatten us
 | [],[],_=>trivial
 | [],_::_,h=>h.elim
 | x::xs,[],h=>h.elim
 | x::xs,u::us,⟨h1,h2⟩=>⟨by cases h1 with | lit _ hv=>exact .lit _ hv,HL (xs:=xs) h2⟩
section
variable {n:Rn} {P:Program} {J:WP} {S:Nat->Prop} {O:List OB} {w0 w:World} {o:Oper} {a:Act} {f:FuncId} {args:List Operand} {ts:Array TypeId} {am:List AV}
theorem Ht {b:Bool} (hF:Fn P J f am (.bool b)) (h1:dL P f) (hop:o.op= .call { callee:=.value (.func f),args:=args.toArray,argTypes:=ts }) (hS:∀ b,w0.heap.size<=b->S b) (V:aS J) (hk:Keeps All w0 w) (Z:XO J S w0.heap.size O w) (ha:bd S w am (args.map a.eval)):
 Does n P o a w (bE (SO S O) (XO J S w0.heap.size O) (.bool b) w):=
 bC (cQ (X:=XO J S w0.heap.size O) hF h1 hop (λk hk'=>hS k (Nat.le_trans hk.size hk')) Z.1 ha λw' hk'=>fi V _ _ hk' Z) λv w' ⟨e1,e2,e3⟩=>⟨by rw[e1.lit];exact Rel.aG _,e2,e3⟩
theorem Tt {e:TypeId} {xs:List Int} (hF:eX (ι:=Value) P J f [] am [] (λi=>.lit i) (λi=>[OB.row i e 1 (xs.map bT)])) (h1:dL P f) (hop:o.op= .call { callee:=.value (.func f),args:=args.toArray,argTypes:=ts }) (hS:∀ b,w0.heap.size<=b->S b) (V:aS J) (hk:Keeps All w0 w) (Z:XO J S w0.heap.size O w) (ha:bd S w am (args.map a.eval)):
 Does n P o a w (bE (SO S O) (XO J S w0.heap.size O) (.rd (bS xs)) w):=by
 refine xe h1 hop ?_
 have hS':∀ b,w.heap.size<=b->S b:=λb hb=>hS b (Nat.le_trans hk.size hb)
 have:=hF S w [] w _ hS' Z.1 b9 (Keeps.refl _ _) (yb Z.1) (ha.sub λk _ hk=>⟨hk,λq hq=>(by cases hq)⟩)
 rw[List.map_toArray]
 refine Calls.mono this ?_
 rintro e' w' ⟨i,v,he,hv,hk',hx'⟩
 have hi:=hx'.2.1 (OB.row i e 1 (xs.map bT)) yz
 obtain rfl:=hv.lit
 refine⟨_,he,?_,hk',fi V _ _ hk' Z⟩
 obtain⟨us,g1,g2,g3⟩:=hi
 exact qx (lo:=w.heap.size) (λb hb=>aK hS w hk Z b ((OB.row v e 1 (xs.map bT)).lt ⟨us,g1,g2,g3⟩ b hb).1) ⟨us,g1,HL g2,g3⟩
end
section
variable {N:Nat} {J:WP} {S:Nat->Prop} {w0 w:World} {env:List (Nat×AV)} {a:Act} {O:List OB} {o0 o1 o2 o3 o4 o5 o6 o7 o8 o9:OB}
theorem cp (h:So J S w0 N (o0::o1::o2::o3::o4::o5::o6::o7::o8::O) env a w):So J S w0 N (o8::o0::o1::o2::o3::o4::o5::o6::o7::O) env a w:=oc (eE (A:=[o0,o1,o2,o3,o4,o5,o6,o7])) h
end
section
variable {n:Rn} {P:Program} {J:WP} {S:Nat->Prop} {O R:List OB} {w0 w:World} {o:Oper} {a:Act}
theorem Lz {κ μ σ:Type} (A:List OB) {l:Nat} {xs:List Operand} {callee:Operand} {ts:Array TypeId} {bu:List AV} {I':κ->List OB} {pv:μ->Value} {O3:μ->List OB} {O4:σ->List OB} (hr:n.r=none) (hop:o.op= .call { callee:=.value callee,args:=xs.toArray,argTypes:=ts })
 (hk0:Keeps All w0 w) (Z:XO J S w0.heap.size (A++(O++R)) w) (hc:a.eval callee= .func (.yield l) #[] #[]) (hv:bd (SO S (A++(O++R))) w bu (xs.map a.eval))
 (hY:∀(m:Nat) (R':List OB) (w1:World) (vs:List Value),Keeps All w0 w1->XO J S w0.heap.size (O++R') w1->bd (SO S (O++R')) w1 bu vs->YieldAt Fence.wide m P l vs.toArray w1 (uv J S w0 I' pv O3 O4 R')):
 nc n P o a w (λv w'=>∃ g:κ ⊕ σ,v= .bool g.isLeft/\db J S w0 (A++(O++R)) w (A++g.elim (λz=>I' z++R) λs=>O4 s++R) w') (λc w'=>∃ q,c=eP (pv q)/\db J S w0 (A++(O++R)) w (O3 q++(A++R)) w'):=by
 intro K Q hK hF
 obtain⟨nd,nr⟩:=n
 subst hr
 have hp:=uj A O R
 have hx1:=fI hp Z
 have O7:=HX hp hv
 let B:AV->Value->Prop:=λav v=>Rel (SO S (O++(A++R))) w av v
 have hx2:=uL (B:=B) hx1 λ_ _ h=>h
 obtain⟨fn,tmps,assign,body,hy,hR⟩:=hY (nd-1) (OB.was B::(A++R)) w (xs.map a.eval) hk0 hx2 (O7.sub λk _ hs=>qC.2 hs)
 have hrun:(execOp a.eval o).run P w= .ok (.round l fn tmps assign body) w:=by
  simp only[execOp,hop,resolve,hc,Deferred.ofValue,Sem.run_bind,Sem.run_pure,Result.andThen_ok,invoke]
  simpa using hy
 have back:∀ {O':List OB} {w':World},Keeps All w0 w'->XO J S w0.heap.size (O'++OB.was B::(A++R)) w'->db J S w0 (A++(O++R)) w (O'++(A++R)) w':=λhk' hx'=>by
  obtain⟨g1,g2⟩:=qN hx'
  exact kF hp.symm (.refl _) ⟨hk',g1,g2⟩
 refine⟨λ_ _=>trivial,?_⟩
 show o.uponIn _ nd P a K Q ((o.semAt none a.eval).run P w)
 rw[Oper.semAt_none,hrun]
 refine⟨λh=>by simp[Rn.F,Fence.wide]at h,RoundIn.mono hR λe w' he=>?_⟩
 rcases he with⟨rfl,k,hk',hx'⟩ | ⟨rfl,s,hk',hx'⟩ | ⟨q,rfl,hk',hx'⟩
 · exact hK _ _ ⟨.inl k,rfl,kF (.refl _) (uj _ _ _) (back hk' hx')⟩
 · exact hK _ _ ⟨.inr s,rfl,kF (.refl _) (uj _ _ _) (back hk' hx')⟩
 · exact hF _ _ ⟨q,rfl,back hk' hx'⟩
end
section
variable {κ:Type} [DecidableEq κ] {Kd:ie κ} {α:Type}
theorem F5 {k:κ}:∀ {L:List (κ×α)},(L.findIdx? λp=>decide (k=p.1))=none->gM L k=L
 | [],_=>rfl
 | p::L,h=>by
  rw[List.findIdx?_cons]at h
  by_cases hk:k=p.1
  · simp[hk]at h
  · rw[decide_eq_false hk]at h
    rw[gM,if_neg hk,F5 (by simpa using h)]
theorem F6 {k:κ}:∀ {L:List (κ×α)} {n:Nat},(L.findIdx? λp=>decide (k=p.1))=some n->gM L k=L.eraseIdx n
 | [],_,h=>by simp at h
 | p::L,n,h=>by
  rw[List.findIdx?_cons]at h
  by_cases hk:k=p.1
  · rw[decide_eq_true hk]at h
    obtain rfl:0=n:=by simpa using h
    rw[gM,if_pos hk];rfl
  · rw[decide_eq_false hk]at h
    cases hf:L.findIdx? λp=>decide (k=p.1)with
    | none=>rw[hf]at h;simp at h
    | some m=>
     rw[hf]at h
     obtain rfl:m+1=n:=by simpa using h
     rw[gM,if_neg hk,F6 hf];rfl
omit [DecidableEq κ]in
theorem sZ {β γ:Type} (f:β->γ):∀(l:List β) (n:Nat),(l.eraseIdx n).map f=(l.map f).eraseIdx n
 | [],_=>rfl
 | _::_,0=>rfl
 | x::l,n+1=>by simp only[List.eraseIdx_cons_succ,List.map_cons,sZ f l n]
theorem gn.del {S:Nat->Prop} {w:World} {f:α->AV} (k:κ):∀ {L:List (κ×α)} {Lv:List (κ×Value)},gn S w f L Lv->gn S w f (gM L k) (gM Lv k)
 | [],[],_=>trivial
 | [],_::_,h=>h.elim
 | _::_,[],h=>h.elim
 | p::L,q::Lv,h=>by
  obtain⟨h1,h2,h3⟩:=h
  unfold gM
  rw[h1]
  split
  · exact h3
  · exact⟨h1,h2,gn.del k h3⟩
theorem Uo {P:Program} {T K E u:TypeId} (r:TypeId) (hT:P.underlying T=some (.map K E)) (hK:P.underlying K=some Kd.kind) (k:κ) {w:World} {M:Nat} {Lv:List (κ×Value)} (h:IsMap Kd w M Lv):
 ∃ w',(Builtin.delete_ #[T,u] r #[.map (some M),Kd.kv k]).run P w= .ok (.tuple #[]) w'/\IsMap Kd w' M (gM Lv k)/\Keeps (· ≠M) w w':=by
 obtain⟨es,clock,hm,hn,hd,hb,hc⟩:=h
 have hlt:M<w.heap.size:=(Array.getElem?_eq_some_iff.1 hm).1
 have hg:(getObj M).run P w= .ok (.map es clock) w:=by simp[getObj,Sem.run,hm]
 have hf:=BB (w:=w) hK k es.toList _ hn
 have dW:=Kd.pD P K es.isEmpty k w hK
 have e0:(#[T,u]:Array TypeId)[0]?=some T:=rfl
 have e1:(#[.map (some M),Kd.kv k]:Array Value)[0]?=some (.map (some M)):=rfl
 have e2:(#[.map (some M),Kd.kv k]:Array Value)[1]?=some (Kd.kv k):=rfl
 cases hi:Lv.findIdx? λp=>decide (k=p.1)with
 | none=>
  rw[hi]at hf
  refine⟨{ w with heap:=w.heap.setIfInBounds M (.map es clock) },?_,?_,(Keeps.refl _ _).putObj (λ_ hn=>hn rfl) _⟩
  · unfold Builtin.delete_
    simp only[e0,e1,e2,Sem.run_bind,run_underlying hT,Result.andThen_ok,hg,dW,hf,Sem.run_pure]
    simp[setObj,Sem.run,hm]
  · rw[F5 hi]
    exact⟨_,_,Array.getElem?_setIfInBounds_self_of_lt hlt,hn,hd,hb,hc⟩
 | some n=>
  rw[hi]at hf
  have mP:(es.eraseIdxIfInBounds n).toList=es.toList.eraseIdx n:=by simp
  refine⟨{ w with heap:=w.heap.setIfInBounds M (.map (es.eraseIdxIfInBounds n) clock) },?_,?_,(Keeps.refl _ _).putObj (λ_ hn=>hn rfl) _⟩
  · unfold Builtin.delete_
    simp only[e0,e1,e2,Sem.run_bind,run_underlying hT,Result.andThen_ok,hg,dW,hf,Sem.run_pure]
    simp[setObj,Sem.run,hm]
  · rw[F6 hi]
    refine⟨_,_,Array.getElem?_setIfInBounds_self_of_lt hlt,?_,?_,?_,?_⟩
    · rw[mP]
      unfold gm at hn ⊢
      rw[sZ,hn,sZ]
    · rw[sZ]
      exact hd.sublist (List.eraseIdx_sublist _ _)
    · rw[mP,sZ]
      exact hb.sublist (List.eraseIdx_sublist _ _)
    · intro e ET
      rw[mP]at ET
      exact hc e (List.mem_of_mem_eraseIdx ET)
end
section
variable {κ:Type} [DecidableEq κ] {Kd:ie κ} {α:Type} {f:α->AV} {L:List (κ×α)} {n:Rn} {N:Nat} {P:Program} {J:WP} {S S':Nat->Prop} {O:List OB} {w0:World} {env:List (Nat×AV)} {Q:Exit->Act->WP} {M:Nat} {t K E:TypeId} {o:Oper} {x y:Operand}
theorem DA {u:TypeId} {a:Act} {w:World} (hT:j1 P t K E Kd.kind) (V:aS J) (hJ0:J w0) (k:κ) (hop:o.op= .call { callee:=.builtin .delete,args:= #[x,y],argTypes:= #[t,u] }) (hk0:Keeps All w0 w) (Z:XO J S w0.heap.size (OB.map Kd f M L::O) w)
 (g1:Rel S' w (.lit (.map (some M))) (a.eval x)) (g2:Rel S' w (.lit (Kd.kv k)) (a.eval y)):Does n P o a w λv w'=>v= .tuple #[]/\db J S w0 (OB.map Kd f M L::O) w (OB.map Kd f M (gM L k)::O) w':=by
 obtain⟨h0,Lv,hm,hr⟩:=Z.2.1 (OB.map Kd f M L) yz
 obtain⟨w',hrun,hm',hk⟩:=Uo (P:=P) (u:=u) o.type hT.1 hT.2 k hm
 have hk':Keeps (λb=>¬ (OB.map Kd f M L).blk b) w w':=hk.sub λb _ hb=>hb
 have hsub:∀ b,b<w.heap.size->SO S (OB.map Kd f M L::O) b->(¬ (OB.map Kd f M L).blk b)/\SO S (OB.map Kd f M (gM L k)::O) b:=λb _ hs=>⟨hs.2 (OB.map Kd f M L) yz,hs.1,λp hp=>by
  rcases mem_cons.1 hp with rfl | hp
  · exact hs.2 (OB.map Kd f M L) yz
  · exact hs.2 p (mem_cons_of_mem _ hp)⟩
 refine eh (v:=.tuple #[]) (w':=w') ?_ ⟨rfl,pg (o':=OB.map Kd f M (gM L k)) V hJ0 hk0 Z hk' (λb hb=>.inl hb) ⟨h0,_,hm',(hr.move hk' hsub).del k⟩⟩
 simp[execOp,hop,resolve,invoke,builtin,g1.lit,g2.lit,hrun,Result.andThen]
end
end Go.Proofs.YtdfadihhfppjaaaGreatDoor
namespace Go.Proofs.YtdfadihhfppjaaaGreatDoor
structure lH (j:Jb) (g:Fr) (step:Nat):Prop where
 fl:∀ h∈g.aa,h.be=true->h.ac.length=2
 tx:∀ h∈g.aa,1<=h.ac.length/\∀ s∈h.ac,s.size<=60
 ts:∀ t∈j.ts,(1<=t.length/\t.length<=2000)/\∀ s∈t,s.size<=60
 st:step<j.ts.length
 m1:∀ s z,aw j.M s=some z->0<=z/\z< (j.ts.length:Int)
 m2:∀ i,i<j.ts.length->(aw j.M (cn (G j.ts i))).isSome=true
 gh:g.aa.length<=2000
 hi:j.i<j.d.ab.length
 wd:(G j.d.ab j.i).wide.length*32<=140737488351232
structure fJ (hs:List Hy) (M:BM):Prop where
 nd:(M.map Prod.fst).Nodup
 ky:∀ q∈M,∃ h∈hs,h.be=true/\q.1=G h.ac 1
 vl:∀ q∈M,q.2.length<=2000/\∀ s∈q.2,s.size<=60
section
variable {hs:List Hy} {M:BM} {k:BA} {v:List BA}
theorem JY:fJ hs []:=⟨by simp,by simp,by simp⟩
theorem Gc:∀ {M:BM},(cl M k v).map Prod.fst=if k∈M.map Prod.fst then M.map Prod.fst else M.map Prod.fst++[k]
 | []=>by simp[cl]
 | p::M=>by
  rw[cl]
  by_cases h:k=p.1
  · rw[if_pos h,if_pos (by simp[h])];rfl
  · rw[if_neg h,List.map_cons,Gc (M:=M),List.map_cons]
    by_cases h2:k∈M.map Prod.fst
    · rw[if_pos h2,if_pos (mem_cons_of_mem _ h2)]
    · rw[if_neg h2,if_neg (by simp only[mem_cons,not_or];exact⟨h,h2⟩)];rfl
theorem wR:∀ {M:BM},(gM M k).Sublist M
 | []=>.slnil
 | p::M=>by
  rw[gM];split
  · exact List.sublist_cons_self _ _
  · exact wR.cons_cons _
theorem fJ.put (h:fJ hs M) {y:Hy} (hy:y∈hs) (hf:y.be=true) (hv:v.length<=2000/\∀ s∈v,s.size<=60):fJ hs (cl M (G y.ac 1) v):=by
 refine⟨?_,λq hq=>?_,λq hq=>?_⟩
 · rw[Gc]
   split
   · exact h.nd
   · rename_i h2
     rw[List.nodup_append]
     exact⟨h.nd,by simp,λx Z z hz e=>by rw[List.mem_singleton.1 hz]at e;subst e;exact h2 Z⟩
 · rcases AQ hq with hq | ⟨e,_⟩
   · exact h.ky q hq
   · exact⟨y,hy,hf,e⟩
 · rcases AQ hq with hq | ⟨_,e⟩
   · exact h.vl q hq
   · rw[e];exact hv
theorem fJ.del (h:fJ hs M):fJ hs (gM M k):=
 ⟨h.nd.sublist (wR.map _),λq hq=>h.ky q (wR.subset hq),λq hq=>h.vl q (wR.subset hq)⟩
theorem fJ.len (h:fJ hs M):M.length<=hs.length:=by
 have:=nV (ys:=hs.map λy=>G y.ac 1) h.nd λx Z=>by
  obtain⟨q,hq,rfl⟩:=mem_map.1 Z
  obtain⟨y,hy,_,e⟩:=h.ky q hq
  rw[e];exact List.mem_map_of_mem (f:=λy:Hy=>G y.ac 1) hy
 simpa using this
theorem fJ.key (h:fJ hs M) (ht:∀ y∈hs,y.be=true->y.ac.length=2) (hz:∀ y∈hs,∀ s∈y.ac,s.size<=60):∀ q∈M.map (·.1),q.size<=9223372036854775807:=λq hq=>by
 obtain⟨x,Z,rfl⟩:=mem_map.1 hq
 obtain⟨y,hy,hf,e⟩:=h.ky x Z
 have h2:=ht y hy hf
 have h1:=hz y hy (G y.ac 1) (aC oz)
 show x.1.size<=_
 rw[e];omega
theorem fJ.FR (h:fJ hs M):∀ b∈bK M,b.ac.length<=2000/\∀ s∈b.ac,s.size<=60:=FS (p:=λt=>t.length<=2000/\∀ s∈t,s.size<=60) h.vl
end
section
variable {j:Jb} {g:Fr} {step k a n:Nat} {M:BM} {al:List Int}
theorem BZ (hT:lH j g step):∀(hs:List Hy),(∀ h∈hs,h∈g.aa)->∀(M:BM) (al:List Int),fJ g.aa M->fJ g.aa (jp j g step hs M al).2
 | [],_,M,al,h=>by
  rw[jp];split<;>exact h
 | y::hs,hm,M,al,h=>by
  rw[jp]
  split
  · have hy:y∈g.aa:=hm y mem_cons_self
    have key:∀(l:List Nat) (q:List (List Int)×BM),(∀ t∈l,ly j y t=true->t<j.ts.length)->fJ g.aa q.2->fJ g.aa (l.foldl (jY (jp j g step hs) j y al) q).2:=by
     intro l
     induction l with
     | nil=>intro q _ hq;exact hq
     | cons t l ih=>
      intro q hl hq
      rw[List.foldl_cons]
      refine ih _ (λt' ht'=>hl t' (mem_cons_of_mem _ ht')) ?_
      unfold jY
      split
      · rename_i ho
        have hlt:=hl t mem_cons_self ho
        have h1:=hT.ts _ (aC hlt)
        have h2:((G j.ts t).drop 1).length<=2000/\∀ s∈(G j.ts t).drop 1,s.size<=60:=⟨by rw[length_drop];omega,λs hs=>h1.2 s (mem_of_mem_drop hs)⟩
        cases hf:y.be with
        | true=>exact(BZ hT hs (λh hh=>hm h (mem_cons_of_mem _ hh)) _ _ (hq.put hy hf h2)).del
        | false=>exact BZ hT hs (λh hh=>hm h (mem_cons_of_mem _ hh)) _ _ hq
      · exact hq
    refine key _ _ (λt _ ho=>?_) h
    unfold ly at ho
    simp only[Bool.and_eq_true,decide_eq_true_eq]at ho
    have:=(hT.m1 _ _ ho.1).2
    omega
  · exact h
theorem IH (hT:lH j g step) (h:fJ g.aa M):fJ g.aa (ek j g step k M al).2:=BZ hT _ (λ_ hh=>mem_of_mem_drop hh) M al h
theorem VF (ho:ly j (G g.aa k) (a+n)=true):fh j g step k M al a (n+1)=
 ((fh j g step k M al a n).1++(ek j g step (k+1) (if(G g.aa k).be then cl (fh j g step k M al a n).2 (G (G g.aa k).ac 1) ((G j.ts (a+n)).drop 1)else(fh j g step k M al a n).2) (al++[((a+n:Nat):Int)])).1,
  if(G g.aa k).be then gM (ek j g step (k+1) (if(G g.aa k).be then cl (fh j g step k M al a n).2 (G (G g.aa k).ac 1) ((G j.ts (a+n)).drop 1)else(fh j g step k M al a n).2) (al++[((a+n:Nat):Int)])).2 (G (G g.aa k).ac 1)
  else(ek j g step (k+1) (if(G g.aa k).be then cl (fh j g step k M al a n).2 (G (G g.aa k).ac 1) ((G j.ts (a+n)).drop 1)else(fh j g step k M al a n).2) (al++[((a+n:Nat):Int)])).2):=by
 rw[uC,jY,if_pos ho]
theorem Gm (hT:lH j g step) {t:Nat} (ht:t<j.ts.length) {y:Hy}:ly j y t= !(!decide ((aw j.M (cn (G j.ts t))).getD default=(t:Int))|| !decide (G (G j.ts t) 0=G y.ac 0)):=by
 obtain⟨z,hz⟩:=Option.isSome_iff_exists.1 (hT.m2 t ht)
 unfold ly
 rw[hz]
 simp only[Option.getD_some,Option.some.injEq,Bool.not_or,Bool.not_not]
variable {hs:List Hy} {h:Hy}
theorem BK (hf:h.be=true):iY j hs step h M=(0,step):=if_neg λe=>by simp[hf]at e
theorem BL (hb:pA hs M h.ac=false):iY j hs step h M=(0,step):=if_neg λe=>by simp[hb]at e
theorem uy (hf:h.be=false) (hb:pA hs M h.ac=true) (hn:((!decide ((if b7 (ay (bK M)) h.ac 2000 then(0:Int)else 15)=0)|| !(aw j.M (cn (if b7 (ay (bK M)) h.ac 2000 then bz (ay (bK M)) h.ac else []))).isSome)||decide ((step:Int)<=(aw j.M (cn (if b7 (ay (bK M)) h.ac 2000 then bz (ay (bK M)) h.ac else []))).getD default))=true):iY j hs step h M=(0,0):=by
 rw[iY,if_pos ⟨hf,hb⟩]
 cases hl:b7 (ay (bK M)) h.ac 2000 with
 | false=>simp
 | true=>
  rw[hl]at hn
  simp only[if_true]at hn ⊢
  cases hm:aw j.M (cn (bz (ay (bK M)) h.ac))with
  | none=>rfl
  | some z=>
   rw[hm]at hn
   simp only[Option.isSome_some,Option.getD_some,decide_true,Bool.not_true,Bool.or_self,Bool.false_or,decide_eq_true_eq]at hn
   exact if_neg oz
theorem UR (hT:lH j g step) (hf:h.be=false) (hb:pA hs M h.ac=true) (hn:((!decide ((if b7 (ay (bK M)) h.ac 2000 then(0:Int)else 15)=0)|| !(aw j.M (cn (if b7 (ay (bK M)) h.ac 2000 then bz (ay (bK M)) h.ac else []))).isSome)||decide ((step:Int)<=(aw j.M (cn (if b7 (ay (bK M)) h.ac 2000 then bz (ay (bK M)) h.ac else []))).getD default))=false):
 0<=(aw j.M (cn (if b7 (ay (bK M)) h.ac 2000 then bz (ay (bK M)) h.ac else []))).getD default/\(aw j.M (cn (if b7 (ay (bK M)) h.ac 2000 then bz (ay (bK M)) h.ac else []))).getD default< (step:Int)/\
 iY j hs step h M=(((aw j.M (cn (if b7 (ay (bK M)) h.ac 2000 then bz (ay (bK M)) h.ac else []))).getD default).toNat,((aw j.M (cn (if b7 (ay (bK M)) h.ac 2000 then bz (ay (bK M)) h.ac else []))).getD default).toNat+1):=by
 rw[iY,if_pos (c:=h.be=false/\pA hs M h.ac=true) ⟨hf,hb⟩]
 cases hl:b7 (ay (bK M)) h.ac 2000 with
 | false=>rw[hl]at hn;simp at hn
 | true=>
  rw[hl]at hn
  simp only[if_true]at hn ⊢
  cases hm:aw j.M (cn (bz (ay (bK M)) h.ac))with
  | none=>rw[hm]at hn;simp at hn
  | some z=>
   rw[hm]at hn
   simp only[Option.isSome_some,Option.getD_some,decide_true,Bool.not_true,Bool.or_self,Bool.false_or,decide_eq_false_iff_not]at hn
   have h0:=(hT.m1 _ _ hm).1
   refine⟨h0,by simp only[Option.getD_some];omega,?_⟩
   simp only[Option.getD_some]
   exact if_pos (show z< (step:Int) by omega)
theorem uY (hT:lH j g step) (h:fJ g.aa M) {y:Hy} (hy:y∈g.aa):(if b7 (ay (bK M)) y.ac 2000 then bz (ay (bK M)) y.ac else []).length<=2000/\∀ s∈(if b7 (ay (bK M)) y.ac 2000 then bz (ay (bK M)) y.ac else []),s.size<=60:=by
 cases hl:b7 (ay (bK M)) y.ac 2000 with
 | false=>simp
 | true=>
  simp only[if_true]
  refine⟨by simpa [b7]using hl,CC (p:=λs=>s.size<=60) (λb hb s hs=>(h.FR b hb).2 s hs) (hT.tx y hy).2⟩
end
section
variable {j:Jb} {g:Fr} {step k a n b:Nat} {M M2 M3:BM} {al yn:List Int} {pre xc:List (List Int)}
theorem IK (hT:lH j g step) (hk:k<g.aa.length) (h:fJ g.aa M):∀ n,fJ g.aa (fh j g step k M al a n).2
 | 0=>h
 | n+1=>by
  have ih:=IK hT hk h n
  rw[uC]
  unfold jY
  split
  · rename_i ho
    have hlt:a+n<j.ts.length:=by
     unfold ly at ho
     simp only[Bool.and_eq_true,decide_eq_true_eq]at ho
     have:=(hT.m1 _ _ ho.1).2
     omega
    have h1:=hT.ts _ (aC hlt)
    have h2:((G j.ts (a+n)).drop 1).length<=2000/\∀ s∈(G j.ts (a+n)).drop 1,s.size<=60:=⟨by rw[length_drop];omega,λs hs=>h1.2 s (mem_of_mem_drop hs)⟩
    cases hf:(G g.aa k).be with
    | true=>exact(IH hT (ih.put (aC hk) hf h2)).del
    | false=>exact IH hT ih
  · exact ih
theorem Th (hT:lH j g step) (hk:k<g.aa.length) (ha:a<j.ts.length) (h:fJ g.aa M):fJ g.aa (if(G g.aa k).be then cl M (G (G g.aa k).ac 1) ((G j.ts a).drop 1)else M):=by
 have h1:=hT.ts _ (aC ha)
 have h2:((G j.ts a).drop 1).length<=2000/\∀ s∈(G j.ts a).drop 1,s.size<=60:=⟨by rw[length_drop];omega,λs hs=>h1.2 s (mem_of_mem_drop hs)⟩
 cases hf:(G g.aa k).be with
 | true=>exact h.put (aC hk) hf h2
 | false=>exact h
theorem uG (h:(ce g.aa M g.ac (G j.ts step)).1=false):pre=pre++(ek j g step k M al).1/\M=(ek j g step k M al).2:=by rw[VL h];simp
theorem uE (h:(ce g.aa M g.ac (G j.ts step)).1=true) (hk:k=g.aa.length) (hg:fy j g al step=false):pre=pre++(ek j g step k M al).1/\M=(ek j g step k M al).2:=by rw[IQ h hk,hg];simp
theorem sm (h:(ce g.aa M g.ac (G j.ts step)).1=true) (hk:k=g.aa.length) (hg:fy j g al step=true):pre++[al]=pre++(ek j g step k M al).1/\M=(ek j g step k M al).2:=by rw[IQ h hk,hg];simp
theorem uF (h:(ce g.aa M g.ac (G j.ts step)).1=true) (hk:k<g.aa.length) (hs:iY j g.aa step (G g.aa k) M=(0,0)):pre=pre++(ek j g step k M al).1/\M=(ek j g step k M al).2:=by rw[B3 h hk,hs];simp[B0]
theorem uD (h:(ce g.aa M g.ac (G j.ts step)).1=true) (hk:k<g.aa.length) (hs:iY j g.aa step (G g.aa k) M=(a,b)) (hn:a+n=b) (h1:xc=pre++(fh j g step k M al a n).1) (h2:M2=(fh j g step k M al a n).2):xc=pre++(ek j g step k M al).1/\M2=(ek j g step k M al).2:=by
 rw[B3 h hk,hs]
 have:b-a=n:=by omega
 simp only[this]
 exact⟨h1,h2⟩
theorem VN {xs:List (List Int)} (h:(ce g.aa M g.ac (G j.ts step)).1=true) (hk:k<g.aa.length) (hs:iY j g.aa step (G g.aa k) M=(a,b)) (hp:pre++(ek j g step k M al).1<+:xs):pre++(fh j g step k M al a (b-a)).1<+:xs:=by
 rw[B3 h hk,hs]at hp;exact hp
theorem od {z1:List (List Int)} {zM:BM} (h1:xc=pre++(fh j g step k M al a n).1) (h2:M2=(fh j g step k M al a n).2) (h3:M3=if(G g.aa k).be then cl M2 (G (G g.aa k).ac 1) ((G j.ts (a+n)).drop 1)else M2) (h4:yn=al) (ho:ly j (G g.aa k) (a+n)=true)
 (ez:z1=xc++(ek j g step (k+1) M3 (yn++[((a+n:Nat):Int)])).1/\zM=(ek j g step (k+1) M3 (yn++[((a+n:Nat):Int)])).2):
 z1=pre++(fh j g step k M al a (n+1)).1/\(if(G g.aa k).be then gM zM (G (G g.aa k).ac 1)else zM)=(fh j g step k M al a (n+1)).2:=by
 rw[VF ho,<-h2,<-h3,<-h4]
 exact⟨by rw[ez.1,h1,h4,List.append_assoc],by rw[ez.2]⟩
theorem IB {x:Int} (h:al.length=k):(al++[x]).take k=al:=by rw[<-h];simp
end
end Go.Proofs.YtdfadihhfppjaaaGreatDoor
