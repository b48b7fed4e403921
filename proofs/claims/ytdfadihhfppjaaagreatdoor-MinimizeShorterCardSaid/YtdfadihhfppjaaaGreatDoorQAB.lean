/-
  CONTRACTS of the program: what is needed of a proof.
  THE ENGINE: an element of an own row that names another own row; a job is built; stores into own rows in drawn regions.
  CONTRACTS of the program: what is kept of a proof; its size; keys; what a change makes of it.
  THE ENGINE: a region whose effects come in any order that the text leaves open: all the ways in which some are done are reckoned.
  CONTRACTS of the program: whether a change is good; bindings.
  DERIVED: the shelf's contracts at this dump, in plain words.
  CONTRACT of the library: substitutions are sorted.
  CONTRACTS of the program: a binding's substitutions; whether an assertion gives a formula.
  THE ENGINE: as EngRx, where effects may be guarded, and may end by a panic.
  THE ENGINE: a call of yield as an effect of a drawn region.
  THE ENGINE: keys that are struck from a map.
  MINIMIZE (plain): what the search for candidates keeps, as the walk wants it.
-/
import Derived.Test.YtdfadihhfppjaaaGreatDoorQAA
set_option maxHeartbeats 8000000
set_option maxRecDepth 100000
namespace Go.Proofs.YtdfadihhfppjaaaGreatDoor
open Go.Proofs.Tryz (prog)
open Go.RowKit
theorem Zc5:prog.underlying 122=some (.slice 4):=by kernel_rfl
theorem Zxr:Zi prog 89:=Zm Tryz.func89 Y Y
theorem Zrq:Zup prog 88 2:=⟨(#[.string ⟨#[]⟩,.slice none 0 0]),Y,by kernel_rfl⟩
theorem Zt8:Zi prog 115:=Zm Tryz.func115 Y Y
section
variable {J:WP} (hJ:Stab J)
include hJ
theorem Zpl (xs:List Stp) (hxl:xs.length≤1000000):Zrd prog J 115 [] [.ptr [Yv xs]] (fun x9=>[.int (x9.1:Nat),.agg (spC x9.2)]) (ZfD xs) (none):=by
 refine ZbC (N:=19) Tryz.func115 Y Y (lb Y) fun S w0 R l κ μ σ I pv O3 O4 k0 hS hJ0 hH hY=>?_
 refine YS (B:=So J S w0 19 (I ([]) k0++R) [(0,.rd (.lit (.func (.yield l) #[] #[]))),(1,.ptr [Yv xs])]) ?_ fun a w h=>h
 refine Zf (YU tb hJ [0,1,1000,1003] [_,.int (xs.length:Nat),.int ((xs.length:Int)-(1:Int)),_] [1,2] U4 Y ⟨Ym ZN,Zu2,U⟩ ?_)
 refine kw (sa 3 Y (congrArg AV.int (show(xs.length:Int)-(1:Int)=(xs.length:Int)-1-((0:Nat):Int)from by simp))) (nx (ln 2 fun hl1=>?_))
 refine Zd (lpo (ι:=Nat×(List (Nat×Stp))×κ) (fun(k,pre,_)=>(k≤xs.length)∧(pre=(ZfD xs).take k)) (fun(_,pre,kk)=>(I pre kk++R)) (fun(k,_,_)=>[(3,.int ((xs.length:Int)-1-(k:Int)))]) (fun(k,_,_)=>xs.length-k) [0,1,3] U2 (0,[],k0) ⟨nzl,Y⟩ ?_)
 rintro⟨k,pre,kk⟩ ⟨f1_1,f1_2⟩
 refine Zf (qso tb hJ [0,1,2,1001] U2 U4 ?_)
 refine cj 3 (fun hb1=>?_) fun hb1=>?_
 try simp at hb1
 refine tw (sa 2 Y (show(.int ((xs.length:Int)-1-(k:Int)):AV)= .int (xs.length-1-k:Nat)from congrArg AV.int oz)) (Zb (nx (Zf (Zd (tsq ?_)))))
 refine snK 4 tb Y (sy (.ptr (spC (ge xs (xs.length-1-k)))) (fun h=>ZM (i:=((xs.length-1-k:Nat):Int)) Z1 Y (h.get 1 Y) (h.get 0 Y) nnn (ZT (xs:=xs) (k:=xs.length-1-k) sfz) Y h.x) ?_)
 refine snK 1 tb Y (ZdN (O:=I pre kk) (R:=R) (xs:=U2) (avl:=[.int ((xs.length-1-k,(ge xs (xs.length-1-k))).1:Nat),.agg (spC ((xs.length-1-k,(ge xs (xs.length-1-k))).2))]) Y Y Y Y (lb Y) (fun a w h=>(h.get 5 Y).lit) (fun a w h=>Za (h.get 4 Y) (Za (h.get 0 Y) Zc)) (fun m' R' w1 vs hk hx hv=>hY m' R' pre (xs.length-1-k,(ge xs (xs.length-1-k))) kk w1 vs (by rw[f1_2];exact Zvd oz) hk hx hv) (fun q=>ZpU q) (fun s1=>?_) (fun z2=>?_))
 refine snK 1 tb Y (seK [0,8,9,10] U4 Y ?_)
 refine nx (cj 0 (fun hb2=>?_) fun hb2=>?_)
 try simp at hb2
 exact Zs (fun a w h=>ZiK s1 Y h)
 exact False.elim (by simp at hb2)
 refine snK 1 tb Y (seK [0,8,9,10] U4 Y ?_)
 refine nx (cj 0 (fun hb2=>?_) fun hb2=>?_)
 exact False.elim (by simp at hb2)
 try simp at hb2
 refine Zb (nx (YU tb hJ [1,2,1002] [_,.int (((xs.length-1-k:Nat):Int)-(1:Int)),_] [1] U3 Y ⟨Zu2,U⟩ ?_))
 exact kw (sa 2 Y (congrArg AV.int (show((xs.length-1-k:Nat):Int)-(1:Int)=(xs.length:Int)-1-((k+1:Nat):Int)from by omega))) (Xk ((k+1),(pre++[(xs.length-1-k,(ge xs (xs.length-1-k)))]),z2) [0,1,2] ⟨oz,by rw[f1_2];exact ZkF oz⟩)
 try simp at hb1
 exact Zu (fun a w h=>ZiL (Y) (by rw[f1_2,show k=xs.length by omega];exact Zve) kk Y h)
theorem Zsk (xs:List Stp)  :Fn prog J 89 [.rd (Yv xs)] (.fn 115 [.ptr [Yv xs]]):=by
 refine fE Tryz.func89 fun S w0 hS hJ0=>?_
 clear hJ0
 refine ln 0 fun hl1=>?_
 refine hqs tb hJ [1000] [.ptr [Yv xs],_] [0] [_] Y ⟨fun _ _ hk hx hl _=>ZaM Y (hl.env 0 0 _ Y Y) (hS _ hk.size) (js hJ hx),U⟩ ?_
 refine hqs tb hJ [1001] [.fn 115 [.ptr [Yv xs]],_] [0] [_] Y ⟨fun _ _ _ hx hl _=>YR (caps:=[(.tmp 1)]) Y (Za (hl.env 0 1 _ Y Y) Zc) hx,U⟩ ?_
 exact tRn 0 (hE:=Y)
theorem Zpk (xs:List (List BA)) (hxl:xs.length≤1000000):Zrd prog J 90 [] [.ptr [Yc xs]] (fun x9=>[.int (x9.1:Nat),.rd (Zg x9.2)]) (ZfD xs) (none):=by
 refine ZbC (N:=19) Tryz.func90 Y Y (lb Y) fun S w0 R l κ μ σ I pv O3 O4 k0 hS hJ0 hH hY=>?_
 refine YS (B:=So J S w0 19 (I ([]) k0++R) [(0,.rd (.lit (.func (.yield l) #[] #[]))),(1,.ptr [Yc xs])]) ?_ fun a w h=>h
 refine Zf (YU tb hJ [0,1,1000,1003] [_,.int (xs.length:Nat),.int ((xs.length:Int)-(1:Int)),_] [1,2] U4 Y ⟨Ym ZfL,Zu2,U⟩ ?_)
 refine kw (sa 3 Y (congrArg AV.int (show(xs.length:Int)-(1:Int)=(xs.length:Int)-1-((0:Nat):Int)from by simp))) (nx (ln 2 fun hl1=>?_))
 refine Zd (lpo (ι:=Nat×(List (Nat×(List BA)))×κ) (fun(k,pre,_)=>(k≤xs.length)∧(pre=(ZfD xs).take k)) (fun(_,pre,kk)=>(I pre kk++R)) (fun(k,_,_)=>[(3,.int ((xs.length:Int)-1-(k:Int)))]) (fun(k,_,_)=>xs.length-k) [0,1,3] U2 (0,[],k0) ⟨nzl,Y⟩ ?_)
 rintro⟨k,pre,kk⟩ ⟨f1_1,f1_2⟩
 refine Zf (qso tb hJ [0,1,2,1001] U2 U4 ?_)
 refine cj 3 (fun hb1=>?_) fun hb1=>?_
 try simp at hb1
 refine tw (sa 2 Y (show(.int ((xs.length:Int)-1-(k:Int)):AV)= .int (xs.length-1-k:Nat)from congrArg AV.int oz)) (Zb (nx (Zf (Zd (tsq ?_)))))
 refine snK 4 tb Y (sy (.ptr [Zg (ge xs (xs.length-1-k))]) (fun h=>ZM (i:=((xs.length-1-k:Nat):Int)) Z8 Y (h.get 1 Y) (h.get 0 Y) nnn (ZT (xs:=xs) (k:=xs.length-1-k) sfz) Y h.x) ?_)
 refine snK 1 tb Y (ZdN (O:=I pre kk) (R:=R) (xs:=U2) (avl:=[.int ((xs.length-1-k,(ge xs (xs.length-1-k))).1:Nat),.rd (Zg ((xs.length-1-k,(ge xs (xs.length-1-k))).2))]) Y Y Y Y (lb Y) (fun a w h=>(h.get 5 Y).lit) (fun a w h=>Za (h.get 4 Y) (Za (h.get 0 Y) Zc)) (fun m' R' w1 vs hk hx hv=>hY m' R' pre (xs.length-1-k,(ge xs (xs.length-1-k))) kk w1 vs (by rw[f1_2];exact Zvd oz) hk hx hv) (fun q=>ZpU q) (fun s1=>?_) (fun z2=>?_))
 refine snK 1 tb Y (seK [0,2,8,9,10] U5 Y ?_)
 refine nx (ln 1 fun hl2=>?_)
 refine cj 0 (fun hb2=>?_) fun hb2=>?_
 try simp at hb2
 exact Zs (fun a w h=>ZiK s1 Y h)
 exact False.elim (by simp at hb2)
 refine snK 1 tb Y (seK [0,2,8,9,10] U5 Y ?_)
 refine nx (ln 1 fun hl3=>?_)
 refine cj 0 (fun hb2=>?_) fun hb2=>?_
 exact False.elim (by simp at hb2)
 try simp at hb2
 refine Zb (nx (YU tb hJ [2,3,1002] [_,.int (((xs.length-1-k:Nat):Int)-(1:Int)),_] [1] U3 Y ⟨Zu2,U⟩ ?_))
 exact kw (sa 2 Y (congrArg AV.int (show((xs.length-1-k:Nat):Int)-(1:Int)=(xs.length:Int)-1-((k+1:Nat):Int)from by omega))) (Xk ((k+1),(pre++[(xs.length-1-k,(ge xs (xs.length-1-k)))]),z2) [0,1,2] ⟨oz,by rw[f1_2];exact ZkF oz⟩)
 try simp at hb1
 exact Zu (fun a w h=>ZiL (Y) (by rw[f1_2,show k=xs.length by omega];exact Zve) kk Y h)
theorem Zsj (xs:List (List BA))  :Fn prog J 63 [.rd (Yc xs)] (.fn 90 [.ptr [Yc xs]]):=by
 refine fE Tryz.func63 fun S w0 hS hJ0=>?_
 clear hJ0
 refine ln 0 fun hl1=>?_
 refine hqs tb hJ [1000] [.ptr [Yc xs],_] [0] [_] Y ⟨fun _ _ hk hx hl _=>ZaM Y (hl.env 0 0 _ Y Y) (hS _ hk.size) (js hJ hx),U⟩ ?_
 refine hqs tb hJ [1001] [.fn 90 [.ptr [Yc xs]],_] [0] [_] Y ⟨fun _ _ _ hx hl _=>YR (caps:=[(.tmp 1)]) Y (Za (hl.env 0 1 _ Y Y) Zc) hx,U⟩ ?_
 exact tRn 0 (hE:=Y)
theorem Zlw (ss:List Stp) (hok:Okay ss):Fn prog J 62 [.agg (pfC ss)] (.rd (Zgt (Y8 ss))):=by
 refine ZcP (N:=38) Tryz.func62 Y Y (lb Y) fun S w0 hS hJ0=>?_
 refine atw Z4 ?_
 have hl0:=hok.1
 have hl1:=hok.2.1
 refine Xr (m:=5) ?_
 refine YU tb hJ [1000] [.ptr (pfC ss),_] [0] [_] Y ⟨iBo hS hJ,U⟩ ?_
 refine ZdV ?_
 refine Xr (m:=5) ?_
 refine ZO (snK 2 tb Y (sy (.int (ss.length:Nat)) (fun h=>Qw ZN Y (h.get 0 Y) h.x) ?_))
 refine ZbJ (f:=Qg) (k:=ss.length) false ZeR Y hJ Y Y Y (lb Y) (fun a w h=>⟨(h.get 0 Y),(h.get 0 Y)⟩) sfz sfz fun v1=>?_
 refine Zv ZfK hJ Y Y Y (lb Y) fun b2=>?_
 refine Z6 (b:=b2) (off:=0) (es:=[_]) hJ hJ0 ZfT Y Y Y (lb Y) Y (fun a w h=>⟨(h.get 0 Y),(h.get 1 Y)⟩) ?_
 refine seK [0,3,5] U3 Y (ZdV ?_)
 refine lnA 1 fun hl1=>?_
 refine Xr (m:=5) ?_
 refine ZO (sq (.lit v1) Y Y (lb Y) (fun _ _ h=>Zo Zch Y (Ze h.x (mo 0 Y)) (h.get 0 Y) Y h.x) ?_)
 refine sy (.lit v1) (fun h=>Zo Zch Y (Ze h.x (mo 0 Y)) (h.get 1 Y) Y h.x) ?_
 refine sy (.int ((List.replicate ss.length false).length:Nat)) (fun h=>ZcC (by rw[List.length_map]) Zc5 Y (Ze h.x (mo 1 Y)) (h.get 0 Y) h.x) ?_
 refine sy (.int ((List.replicate ss.length false).length-1:Nat)) (fun h=>ZfY (i:=(List.replicate ss.length false).length) (j:=1) Y (h.get 0 Y) (Rel.of_lit (.int .i64 1)) sfz sfz h.x) ?_
 refine sy (.lit (YG v1 (((List.replicate ss.length false).length-1)*1))) (fun h=>ZU (i:=(((List.replicate ss.length false).length-1:Nat):Int)) XI Y (Ze h.x (mo 1 Y)) (h.get 3 Y) (h.get 0 Y) nnn (by rw[List.length_map];exact Int.ofNat_lt.2 sfz) h.x) ?_
 refine kw pm1 (Qv (i:=(List.replicate ss.length false).length-1) hJ hJ0 ZbK Y Y Y (by rw[List.length_map];exact sfz) (fun a w h=>⟨(h.get 0 Y),(Rel.of_lit (.bool true))⟩) ?_)
 rw[show((List.replicate ss.length false).map Qg).set ((List.replicate ss.length false).length-1) [lB true]=((List.replicate ss.length false).set ((List.replicate ss.length false).length-1) true).map Qg from List.map_set.symm]
 refine seK [5,7] U2 Y (ZdV ?_)
 refine Zrc ?_
 refine Xr (m:=5) ?_
 refine YU tb hJ [0,1002] [_,_,.fn 115 [.ptr [Yv ss]]] [2] U2 Y ⟨iFo hS hJ (Zsk hJ ss) Zxr,U⟩ ?_
 refine ZdV ?_
 refine Zfr ?_
 refine atw (fun h=>XC (p:=(((List.replicate ss.length false).set ((List.replicate ss.length false).length-1) true)=Qp ss ([]:List (Nat×Stp)).length)) (by rw[List.length_replicate];rfl) h) ?_
 refine Zlm (m:=5) (κ:=Value×(List Bool)) (μ:=Empty) (σ:=Empty) (Zpl hJ ss oz) Zt8 hJ hS hJ0 Zq (fun pre (wv,ys)=>[OB.fct (ys=Qp ss pre.length),OB.row wv 4 1 (ys.map Qg),OB.var b2 [.lit wv]]) (fun q':Empty=>undef) (fun q'=>[]) (fun s'=>[]) (v1,(List.replicate ss.length false).set ((List.replicate ss.length false).length-1) true) (fun x9=>[(5,.ptr (spC x9.2)),(3,.at b2 0),(4,.int (x9.1:Nat))]) (lb Y) (lb Y) Tryz.func62 ?_ ?_ ?_ ?_ ?_ ?_ ?_
 · exact fun a w h=>Zew (h.get 1 Y)
 rintro m9 l9 R' pre x9 ⟨wv,ys⟩ K9 hK9
 refine qso tb hJ [0,2,1000] [_] U3 ?_
 refine ZO (Qk (cs:=spC x9.2) Zrq Y Y Y (lb Y) Y Y Y dz (m:=0) Y Y (fun a w h=>Zk hS _ h.keep h.x _ nlr) (fun a w h w' hk'=>Yw hJ _ _ hk' h.x) ?_)
 exact seK [0,2,3] U3 Y (hK9)
 rintro m9 l9 R' pre x9 ⟨wv,ys⟩ hpre
 refine ZhV fun hF=>?_
 have r1_:ys=Qp ss pre.length:=hF
 obtain⟨h1_,h2_,h3_⟩:=bw_at hpre
 have h4_:ys.length=ss.length:=by rw[r1_,ZcJ]
 refine Zd (ZF tb hJ [0,1,1003] [.lit wv,_,.lit (YG wv (x9.1*1)),.bool (ge ys x9.1)] [0,2,3] U3 Y ⟨fun _ _ _ hx hl _=>Zo Zch Y (Ze hx (mo 1 Y)) (hl.env 1 3 _ Y Y) Y hx,fun _ _ _ hx hl _=>ZU (i:=(x9.1:Int)) XI Y (Ze hx (mo 0 Y)) (hl.D 0 22 Y Y) (hl.D 1 23 Y Y) nnn (by rw[List.length_map];exact Int.ofNat_lt.2 sfz) hx,fun _ _ _ hx hl _=>X6 (i:=x9.1) Zsp Y (Ze hx (mo 0 Y)) (hl.D 2 24 Y Y) (Qc (xs:=ys) (k:=x9.1) sfz) hx,U⟩ ?_)
 refine cj 2 (fun hb1=>?_) fun hb1=>?_
 try simp at hb1
 refine ZF tb hJ [1,1001,1002,1003] [_,_,.int (x9.2.args.length:Nat),_] [2] U4 Y ⟨Ym YL,U⟩ ?_
 refine ln 1 fun hl2=>?_
 refine Zd (lpo (ι:=Nat×(List Bool)×Value) (fun(q,zs,_)=>(q≤x9.2.args.length)∧(zs=Zdg ys (x9.2.args.take q))) (fun(_,zs,wu)=>(OB.row wu 4 1 (zs.map Qg)::OB.var b2 [.lit wu]::R')) (fun(q,_,_)=>[(29,.int (q:Nat))]) (fun(q,_,_)=>x9.2.args.length-q) [0,1,2,3] U3 (0,ys,wv) ⟨nzl,Y⟩ ?_)
 rintro⟨q,zs,wu⟩ ⟨f1_1,f1_2⟩
 refine qso tb hJ [0,1,2,3,1000] [_] U5 ?_
 refine cjS 4 (fun hb2=>?_) fun hb2=>?_
 try simp at hb2
 have e4:=Za9 hok (k:=x9.1) (j:=q) oz (by rw[←h3_];omega)
 rw[←h3_]at e4
 have e5:zs.length=ss.length:=by rw[f1_2,ZeQ,h4_]
 refine Zb (nx (Zf (Zd (ZF tb hJ [0,1,2,3,1002] [.ptr [lI (ge x9.2.args q)],_,_] [0] U5 Y ⟨iIx Zw,U⟩ ?_))))
 refine ZO (sq (.lit wu) Y Y (lb Y) (fun _ _ h=>Zo Zch Y (Ze h.x (mo 1 Y)) (h.get 0 Y) Y h.x) ?_)
 refine snK 1 tb Y (sy (.lit (YG wu (((ge x9.2.args q).toNat)*1))) (fun h=>ZU (i:=(ge x9.2.args q)) XI Y (Ze h.x (mo 0 Y)) (h.get 1 Y) (h.get 0 Y) sfz (by rw[List.length_map];exact sfz) h.x) ?_)
 refine Qv (i:=(ge x9.2.args q).toNat) hJ hJ0 ZbK Y Y Y (by rw[List.length_map];exact sfz) (fun a w h=>⟨(h.get 0 Y),(Rel.of_lit (.bool true))⟩) ?_
 rw[show(zs.map Qg).set ((ge x9.2.args q).toNat) [lB true]=(zs.set ((ge x9.2.args q).toNat) true).map Qg from List.map_set.symm]
 refine seK [3,4,5,6] U4 Y (nx (YU tb hJ [0,1,2,1001] [.int (q+1:Nat),_] [0] U4 Y ⟨YT,U⟩ ?_))
 exact Xk (q+1,zs.set ((ge x9.2.args q).toNat) true,wu) [0,1,2,3] ⟨oz,by rw[f1_2];exact Zwy oz⟩
 try simp at hb2
 exact Zu (kw (fun h=>XC (p:=(zs=Qp ss (pre++[x9]).length)) (by first | (rw[f1_2,h3_,ZuY hb1 (by rw[←h3_];omega),ZgY r1_ h1_ h2_];done) | (rw[←ZgY r1_ h1_ h2_,ms_no hb1])) h) (fun a w h=>⟨(wu,zs),h.keep,h.x⟩))
 try simp at hb1
 exact Zb (kw (fun h=>XC (p:=(ys=Qp ss (pre++[x9]).length)) (by first | (rw[f1_2,h3_,ZuY hb1 (by rw[←h3_];omega),ZgY r1_ h1_ h2_];done) | (rw[←ZgY r1_ h1_ h2_,ms_no hb1])) h) (fun a w h=>⟨(wv,ys),h.keep,h.x⟩))
 rintro hfl ⟨wv,ys⟩ D
 refine kw pm1 (ZhY fun hF=>?_)
 have r1_:ys=Qp ss (ZfD ss).length:=hF
 refine Zwt (m:=5) ?_
 refine Zgo ?_
 refine Zb8 ?_
 refine sy (.lit wv) (fun h=>Zo Zch Y (Ze h.x (mo 2 Y)) (h.get 0 Y) Y h.x) ?_
 refine snK 1 tb Y (seK [0] [_] Y ?_)
 refine nxD ?_
 refine Zqs ?_
 refine outD hJ hJ0 ?_
 exact kw (fun h=>Ya hS h (m:=0) (s:=2) Y) (rtno (m:=0) Y Y (congrArg (fun z=>AV.rd (Zgt z)) (show ys=(Y8 ss)from by rw[r1_,Zja];rfl)))
 · exact fun s=>s.elim
 · exact fun v h=>by cases h
 · exact fun q=>q.elim
end
end Go.Proofs.YtdfadihhfppjaaaGreatDoor
namespace Go.Proofs.YtdfadihhfppjaaaGreatDoor
open Go.RowKit
theorem ZgF {α:Type} {f:α→List CD} {xs:List α} {k:Nat} {r:List CD} (h:k<xs.length):((xs.map f).set k r)[k]?=some r:=by
 rw[List.getElem?_set_self];simpa using h
theorem Zqg {k i j:Nat} {r:List CD} {c:CD} {rows:List (List CD)} (hlen:∀ q∈rows,q.length=k) (hrow:rows[i]?=some r) (hj:j<r.length):(rows.set i (r.set j c)).flatten=rows.flatten.set (i*k+j) c:=by
 have hl:i<rows.length:=(List.getElem?_eq_some_iff.1 hrow).1
 have hge:rows[i]=r:=(List.getElem?_eq_some_iff.1 hrow).2
 have hrk:r.length=k:=hlen r (hge▸List.getElem_mem hl)
 have hd:rows.flatten.drop (i*k)=r++rows.flatten.drop (i*k+k):=by
  rw[QB rows i hlen,List.drop_eq_getElem_cons hl,hge,List.flatten_cons,show i*k+k=(i+1)*k by rw[Nat.add_mul];omega,QB rows (i+1) hlen]
 have hp:i*k+j<rows.flatten.length:=by
  have h1:=congrArg List.length hd
  rw[List.length_drop,List.length_append]at h1
  omega
 have hd2:rows.flatten.drop (i*k+j+1)=r.drop (j+1)++rows.flatten.drop (i*k+k):=by
  rw[show i*k+j+1=i*k+(j+1) by omega,←List.drop_drop,hd,List.drop_append_of_le_length oz]
 have hd3:rows.flatten.take (i*k+j)=rows.flatten.take (i*k)++r.take j:=by
  rw[List.take_add,hd,List.take_append_of_le_length oz]
 rw[Zhc rows i (r.set j c) hlen hl,List.set_eq_take_append_cons_drop (i:=i*k+j),if_pos hp,hd3,hd2,List.set_eq_take_append_cons_drop (i:=j),if_pos hj]
 simp
section
variable {N:Nat} {J:WP} {S:Nat→Prop} {O:List OB} {w0:World} {env:List (Nat×AV)} {a:Act} {w:World} {v:Value} {e k:Nat} {rows rows':List (List CD)}
theorem Zla {q:Nat} (h:SO S (OB.row v e k rows::O) q):SO S (OB.row v e k rows'::O) q:=⟨h.1,fun p hp=>by
 rcases List.mem_cons.1 hp with rfl | hp
 · exact h.2 (OB.row v e k rows) yz
 · exact h.2 p (by simp[hp])⟩
theorem Zcu {va:Value} {e2 k2:Nat} {rows2:List (List CD)} {r:List CD} {i j:Nat} (hS:∀ b,w0.heap.size≤b→S b) (hrow:rows[i]?=some r) (hj:r[j]?=some (.lit va)) (hc:rows'=rows.set i (r.set j (.sl rows2))) (h:So J S w0 N (OB.row va e2 k2 rows2::OB.row v e k rows::O) env a w):
 So J S w0 N (OB.row v e k rows'::O) env a w:=by
 have h':=Zz h
 have hrd:=ZfW (v:=va) (e:=e2) (size:=k2) (rows:=rows2) (ZcR hS h) (OB.sub (h.x.2.1 (OB.row va e2 k2 rows2) yz) fun k _ hk=>hk.drop)
 refine⟨h'.defs,h'.size,h'.keep,⟨h'.x.1,fun p hp=>?_,?_⟩,fun p hp=>⟨(h'.env p hp).1,(h'.env p hp).2.sub fun _ _ hk=>Zla hk⟩⟩
 · rcases List.mem_cons.1 hp with rfl | hp
   · obtain⟨us,h1,h2,h3⟩:=h'.x.2.1 (OB.row v e k rows) yz
     have hjl:j<r.length:=(List.getElem?_eq_some_iff.1 hj).1
     have hrl:r.length=k:=h3 r (List.mem_of_getElem? hrow)
     have hfl:rows.flatten[i*k+j]?=some (.lit va):=Zw3 h3 hrow hj
     refine⟨us,by rw[hc,List.length_set];exact h1,?_,fun q hq=>?_⟩
     · rw[hc,Zqg h3 hrow hjl]
       refine RdL.of_get (by rw[List.length_set];exact h2.length) fun p c u g1 g2=>?_
       rw[List.getElem?_set]at g1
       split at g1
       · rename_i hij
         subst hij
         split at g1
         · cases g1
           obtain rfl:=(h2.get hfl g2).of_lit
           simp only[Rel]at hrd
           exact hrd.sub fun _ _ hk=>Zla hk
         · cases g1
       · exact(h2.get g1 g2).sub fun _ _ hk=>Zla hk
     · rw[hc]at hq
       rcases List.mem_or_eq_of_mem_set hq with hq | rfl
       · exact h3 q hq
       · rw[List.length_set];exact hrl
   · exact OB.sub (h'.x.2.1 p (List.mem_cons_of_mem _ hp)) fun _ _ hk=>Zla hk
 · have:=List.pairwise_cons.1 h'.x.2.2
   exact List.pairwise_cons.2 ⟨fun p hp k h1 h2=>this.1 p hp k h1 h2,this.2⟩
end
section
variable {n:Rn} {P:Program} {J X:WP} {S S':Nat→Prop} {O:List OB} {w0 w:World} {o:Oper} {a:Act} {x y:Operand} {t e:TypeId} {v:Value} {k i:Nat}
theorem Zks {α:Type} {f:α→List CD} {xs:List α} (u:α) (hJ:Stab J) (hJ0:J w0) (hs:Xf P t k) (hop:o.op= .store t x y) (hk0:Keeps All w0 w) (hx:XO J S w0.heap.size (OB.row v e k (xs.map f)::O) w) (h1:Rel S' w (.lit (YG v (i*k))) (a.eval x))
 (h2:Rel (SO S (OB.row v e k (xs.map f)::O)) w (.agg (f u)) (a.eval y)) (hl:i<xs.length) (hn:(f u).length=k):
 Does n P o a w fun _ w'=>Zag J S w0 (OB.row v e k (xs.map f)::O) w (OB.row v e k ((xs.set i u).map f)::O) w':=by
 simp only[Rel]at h2
 obtain⟨us,hv,hr⟩:=h2
 rw[List.map_set]
 exact Zl (ZbT hJ hJ0 hs hop hk0 hx h1 (by rw[hv];rfl) hr (by rw[List.length_map];exact hl) hn) fun _ _ ⟨_,h⟩=>h
def ZmH (P:Program) (t:TypeId):Prop:=∀(u:Value) (w:World),(Instr.field t (.agg #[u]) 0).run P w= .ok u w
theorem Znb {c:CD} (ht:ZmH P t) (hop:o.op= .field t x 0) (h:Rel S w (.agg [c]) (a.eval x)) (hx:X w):Does n P o a w (YC S X (.rd c) w):=by
 simp only[Rel]at h
 obtain⟨us,e,hr⟩:=h
 match us,e,hr with
 | [u0],e,hr=>
  refine Zr (v:=u0) ?_ (by simp only[Rel];exact hr.1) hx
  rw[execOp,hop]
  simp only[e,Sem.run_bind,ht u0 w]
  rfl
def Zvk (P:Program) (t:TypeId):Prop:=∀(x1 x2 x3 p:Value) (i z:Int) (ad:Option Addr) (k c m:Nat),P.built t [(0,.agg #[x1,x2,x3]),(1,.int .i64 i),(2,.agg #[p]),(3,.slice ad k c),(4,.int .i64 z),(5,.map (some m))]=
 some #[x1,x2,x3,.int .i64 i,p,.slice ad k c,.int .i64 z,.map (some m)]
abbrev jbC (d:Db) (i:Int) (ss:List Stp) (ts:List (List BA)) (z:Int) (m:Nat):List CD:=dbC d++[.lit (.int .i64 i),Yv ss,Yc ts,.lit (.int .i64 z),.lit (.map (some m))]
theorem Zlr {x0 x1 x2 x3 x4 x5:Operand} {d:Db} {i z:Int} {ss:List Stp} {ts:List (List BA)} {m:Nat} (ht:Zvk P t) (hop:o.op= .build t #[(0,x0),(1,x1),(2,x2),(3,x3),(4,x4),(5,x5)]) (h0:Rel S w (.agg (dbC d)) (a.eval x0)) (h1:Rel S w (.int i) (a.eval x1)) (h2:Rel S w (.agg (pfC ss)) (a.eval x2))
 (h3:Rel S w (.rd (Yc ts)) (a.eval x3)) (h4:Rel S w (.int z) (a.eval x4)) (h5:a.eval x5= .map (some m)) (hx:X w):Does n P o a w (YC S X (.agg (jbC d i ss ts z m)) w):=by
 simp only[Rel]at h0 h2 h3
 obtain⟨us,hv,hr⟩:=h0
 obtain⟨ps,hp,hq⟩:=h2
 obtain⟨ad,cap,e3,_,_⟩:=h3.form
 match us,hr,ps,hq with
 | [u1,u2,u3],hr,[p1],hq=>
  refine Zr (v:=.agg (([u1,u2,u3]:List Value)++[Value.int .i64 i,p1,a.eval x3,.int .i64 z,.map (some m)]).toArray) ?_ (by simp only[Rel];exact⟨_,rfl,hr.append (ds:=[_,_,_,_,_]) ⟨.lit _ True.intro,hq.1,h3,.lit _ True.intro,.lit _ True.intro,trivial⟩⟩) hx
  have hrun:=run_build (P:=P) w t #[(0,a.eval x0),(1,a.eval x1),(2,a.eval x2),(3,a.eval x3),(4,a.eval x4),(5,a.eval x5)] #[u1,u2,u3,.int .i64 i,p1,a.eval x3,.int .i64 z,.map (some m)] (by rw[hv,hp,h1.lit,e3,h4.lit,h5];exact ht u1 u2 u3 p1 i z ad _ cap m)
  rw[execOp,hop]
  simp only[List.map_toArray,List.map_cons,List.map_nil,Sem.run_bind,hrun]
  rfl
end
end Go.Proofs.YtdfadihhfppjaaaGreatDoor
set_option maxHeartbeats 8000000
set_option maxRecDepth 100000
namespace Go.Proofs.YtdfadihhfppjaaaGreatDoor
open Go.Proofs.Tryz (prog)
open Go.RowKit
theorem XS:ZdG prog 28 [.sl []]:=⟨(.agg #[.slice none 0 0]),fun w=>by kernel_rfl,fun S w=>(show RdL S w [.sl []] [.slice none 0 0]from⟨.nil _ _ nzl,U⟩)⟩
theorem Zn9:ZdG prog 28 [.lit (.slice none 0 0)]:=⟨(.agg #[.slice none 0 0]),fun w=>by kernel_rfl,fun S w=>(show RdL S w [.lit (.slice none 0 0)] [.slice none 0 0]from⟨.lit _ True.intro,U⟩)⟩
theorem ZqS:Zi prog 62:=Zm Tryz.func62 Y Y
theorem Zjb:ZdH prog 88 [.string ⟨#[]⟩,.slice none 0 0]:=⟨fun i=>(#[(0,1),(1,1)]:Array (Nat×Nat))[i]?,fun j hj=>by rcases j with _ | _ | j<;>first | rfl | (simp at hj;omega) | simp at hj,fun parts=>by kernel_rfl⟩
theorem Zea:Zc3 prog 3:=⟨.int .i64 0,fun w=>by kernel_rfl⟩
theorem Zhx:Zjz prog 29 3 1 8:=Zvi (.int .i64 0) V V Y dz (fun w=>by kernel_rfl)
theorem ZaK:Xf prog 29 1:=zO
theorem Zvl:Zc3 prog 88:=⟨.agg #[.string ⟨#[]⟩,.slice none 0 0],fun w=>by kernel_rfl⟩
theorem Zjp:Zjz prog 26 88 2 40:=Zvi (.agg #[.string ⟨#[]⟩,.slice none 0 0]) V V Y dz (fun w=>by kernel_rfl)
theorem Zh2:Xf prog 26 1:=zO
theorem Yt:Xf prog 28 1:=zO
theorem Zxp:Zi prog 91:=Zm Tryz.func91 Y Y
theorem ZqW:Zi prog 40:=Zm Tryz.func40 Y Y
theorem Zdp:Zb9 prog 28 1:=⟨#[.slice none 0 0],Y,fun i=>(#[(0,1)]:Array (Nat×Nat))[i]?,fun j hj=>by rcases j with _ | j<;>first | rfl | omega,fun parts=>by kernel_rfl⟩
theorem ZnD:ZW prog 37 1 1:=fO
theorem ZnC:ZW prog 37 2 2:=fO
theorem Zdo:ZW prog 37 3 3:=fO
theorem Zhn:Zi prog 35:=Zm Tryz.func35 Y Y
theorem ZbV:Zb9 prog 88 2:=⟨#[.string ⟨#[]⟩,.slice none 0 0],Y,fun i=>(#[(0,1),(1,1)]:Array (Nat×Nat))[i]?,fun j hj=>by rcases j with _ | _ | j<;>first | rfl | omega,fun parts=>by kernel_rfl⟩
theorem ZkB:Zi prog 51:=Zm Tryz.func51 Y Y
section
variable {J:WP} (hJ:Stab J)
include hJ
theorem Zwd (m:List Bool)  :Fn prog J 61 [.rd (Zgt m)] (.int (Zfg m:Nat)):=by
 refine fE Tryz.func61 fun S w0 hS hJ0=>?_
 clear hJ0
 refine ln 0 fun hl1=>?_
 refine qs tb hJ [0] [_] [_] ?_
 refine qs tb hJ [0,1000] [_] U2 ?_
 refine Zf (hqs tb hJ [1,1000,1001,1002] [_,.int (m.length:Nat),_] [1] U4 Y ⟨Ym Zc5,U⟩ ?_)
 refine Zd (lp (ι:=Nat×Nat) (fun(k,n)=>(k≤m.length)∧(n=Zfg (m.take k))) (fun(k,n)=>[(8,.int (k:Nat)),(3,.int (n:Nat))]) (fun(k,_)=>m.length-k) [1,2,3,0] U2 (0,0) ⟨nzl,Y⟩ ?_)
 rintro⟨k,n⟩ ⟨f1_1,f1_2⟩
 refine qs tb hJ [0,1,2,3,1000] [_] U5 ?_
 refine cjS 4 (fun hb1=>?_) fun hb1=>?_
 ·
  try simp at hb1
  have e1:n≤k:=by rw[f1_2];exact Nat.le_trans (Zqy _) (by rw[List.length_take];omega)
  refine Zb (nx (Zf (Zd (hqs tb hJ [0,1,2,3,1002] [.ptr [lB (ge m k)],_,_] [0] U5 Y ⟨iIx XI,U⟩ ?_))))
  refine qs tb hJ [0,1,2,3,1000] [_] U5 ?_
  refine cj 4 (fun hb2=>?_) fun hb2=>?_
  ·
   try simp at hb2
   refine hqp tb hJ [0,1,2,1002] [_,.int (n+1:Nat),_] [1] U4 Y ⟨YT,U⟩ ?_
   refine nx (hqp tb hJ [0,1,3,1001] [.int (k+1:Nat),_] [0] U4 Y ⟨YT,U⟩ ?_)
   exact lpE (k+1,n+1) [0,1,3,2] ⟨oz,by rw[Zku oz,←f1_2];simp[hb2]⟩
  ·
   try simp at hb2
   refine Zb (nx (hqp tb hJ [0,1,3,1001] [.int (k+1:Nat),_] [0] U4 Y ⟨YT,U⟩ ?_))
   exact lpE (k+1,n) [0,1,3,2] ⟨oz,by rw[Zku oz,←f1_2];simp[hb2]⟩
 ·
  try simp at hb1
  refine Zu (nx (qs tb hJ [1001] U2 [_] ?_))
  exact tRn 0 (hE:=eI (by rw[f1_2,cn_all oz]))
theorem ZgM (ss:List Stp) (hok:Okay ss):Fn prog J 51 [.agg (pfC ss)] (.agg (pfC (Qd ss))):=by
 refine fE Tryz.func51 fun S w0 hS hJ0=>?_
 refine tw Z4 ?_
 have hl0:=hok.1
 have hl1:=hok.2.1
 have hnl:=XU ss
 refine tsq (sy (.ptr (pfC ss)) (fun h=>Q1 Y (h.get 0 Y) (Zk hS _ h.keep h.x _ nlr) (jo hJ h.x)) ?_)
 refine Zv XS hJ Y Y Y (lb Y) fun b1=>?_
 refine seK [0,1] U2 Y (nx (tsq ?_))
 refine snK 2 tb Y (sy (.int (ss.length:Nat)) (fun h=>Qw ZN Y (h.get 0 Y) h.x) ?_)
 refine ZbJ (f:=Xe) (k:=ss.length) (0:Int) Zf9 Y hJ Y Y Y (lb Y) (fun a w h=>⟨(h.get 0 Y),(h.get 0 Y)⟩) sfz sfz fun v2=>?_
 refine snK 1 tb Y (seK [0,3,5,6] U4 Y ?_)
 refine nx (ln 1 fun hl1=>?_)
 refine tsq (Zv Zn9 hJ Y Y Y (lb Y) fun b3=>?_)
 refine seK [0,1,3,4] U4 Y (nx (Zf (tw (Yd 88 2 hJ) ?_)))
 refine ZF tb hJ [0,1,2,3,1001,1002,1003] [_,.rd (Zgt (Y8 ss)),.int ((Y8 ss).length:Nat),_] [1,2] U7 Y ⟨iFo hS hJ (Zlw hJ ss (by exact hok)) ZqS,Ym Zc5,U⟩ ?_
 refine ln 4 fun hl2=>?_
 refine Zd (lpo (ι:=Nat×(List Stp)×Value×(List Int)×Value) (fun(k,out,_,to,_)=>(k≤ss.length)∧(X7 ss (Y8 ss) k=(to,out))) (fun(_,out,wt,to,wo)=>[OB.row wo 88 2 (out.map spC),OB.var b3 [.lit wo],OB.row wt 3 1 (to.map Xe),OB.var b1 [Yv ([]:List Stp)]]) (fun(k,_,wt,_,_)=>[(17,.int (k:Nat)),(3,.lit wt)]) (fun(k,_,_,_,_)=>(Y8 ss).length-k) [0,2,3,4,5,6,1] U5 (0,[],v2,List.replicate ss.length (0:Int),(.slice none 0 0)) ⟨nzl,Y⟩ ?_)
 rintro⟨k,out,wt,to,wo⟩ ⟨f1_1,f1_2⟩
 refine qso tb hJ (r7 [1000]) [_] U8 ?_
 refine cjS 7 (fun hb1=>?_) fun hb1=>?_
 ·
  try simp at hb1
  have e2:to.length=ss.length∧out.length≤k:=by have h9:=Zo3 ss (Y8 ss) k;rwa [f1_2]at h9
  refine Zb (nx (Zf (Zd (ZF tb hJ (r7 [1003,1004]) [_,.ptr [lB (ge (Y8 ss) k)],_,_,_] [1] U9 Y ⟨iIx XI,U⟩ ?_))))
  refine Zf (qso tb hJ (r8 [1001]) U2 U9 ?_)
  refine cj 8 (fun hb2=>?_) fun hb2=>?_
  ·
   try simp at hb2
   refine Zu (nx (YU tb hJ (r5 [6,1001]) [.int (k+1:Nat),_] [0] U7 Y ⟨YT,U⟩ ?_))
   exact Xk (k+1,out,wt,to,wo) (r5 [6,5]) ⟨oz,by first | (rw[ZrW hb2];exact f1_2) | (rw[Zic hb2,f1_2,f2_2,show q=(ge ss k).args.length by omega,List.take_length])⟩
  ·
   try simp at hb2
   refine Zb (nx (tsq (snK 2 tb Y (sy (.at b3 0) (fun h=>Zx YF Y (h.get 2 Y) h.x) ?_))))
   refine sy (.lit wo) (fun h=>Zo ZaO Y (Ze h.x (mo 1 Y)) (h.get 0 Y) Y h.x) ?_
   refine sy (.int (out.length:Nat)) (fun h=>ZcC (by rw[List.length_map]) ZN Y (Ze h.x (mo 0 Y)) (h.get 0 Y) h.x) ?_
   refine sy (.lit (YG wt (k*1))) (fun h=>ZU (i:=(k:Int)) Zw Y (Ze h.x (mo 2 Y)) (h.get 4 Y) (h.get 3 Y) nnn (by rw[List.length_map];exact Int.ofNat_lt.2 sfz) h.x) ?_
   refine kw pm2 (Qv (i:=k) hJ hJ0 QM Y Y Y (by rw[List.length_map];exact sfz) (fun a w h=>⟨(h.get 0 Y),(h.get 1 Y)⟩) ?_)
   rw[show(to.map Xe).set k [lI (out.length:Int)]=(to.set k (out.length:Int)).map Xe from List.map_set.symm]
   refine seK [6,7,8,9,10,11,12,13] U8 Y (nx (tsq ?_))
   refine snK 3 tb Y (sy (.ptr (spC (ge ss k))) (fun h=>ZM (i:=(k:Int)) Z1 Y (h.get 1 Y) (h.get 0 Y) nnn (ZT (xs:=ss) (k:=k) sfz) Y h.x) ?_)
   refine snK 2 tb Y (sq (.agg [lS ((ge ss k).label),.lit (.slice none 0 0)]) Y Y (lb Y) (fun a _ h=>Y7 (ps:=[(0,a.eval (.tmp 35))]) (us:=[a.eval (.tmp 35),.slice none 0 0]) Zjb Y yz (ZnM (lb Y) (Rel.oneC (h.get 0 Y)) Zjr) Y (Zt (h.get 0 Y) (X1 (.lit _ True.intro) Z0)) h.x) ?_)
   refine Zv X4 hJ Y Y Y (lb Y) fun b4=>?_
   refine Zn (b:=b4) (off:=0) (es:=U2) (news:=U2) hJ hJ0 Qa Y Y Y (lb Y) Y (fun a w h=>⟨(h.get 0 Y),(h.get 1 Y)⟩) ?_
   refine seK [0,8,9,10,11,12,13,14,15] U9 Y (nx (Zf (tw (Yd 3 1 hJ) ?_)))
   refine ZF tb hJ (r8 [1005,1006,1007]) (V3 [.ptr (spC (ge ss k)),_,_,.int (((ge ss k).args).length:Nat),_]) [3,6] U11 Y ⟨iIx Z1,Ym YL,U⟩ ?_
   refine ln 8 fun hl3=>?_
   refine Zd (lpo (ι:=Nat×(List Int)×Value) (fun(q,nums,_)=>(q≤(ge ss k).args.length)∧(nums=ZgL (to.set k (out.length:Int)) ((ge ss k).args.take q))) (fun(_,nums,wa)=>[OB.row wa 3 1 (nums.map Xe),OB.var b4 [lS ((ge ss k).label),.lit wa],OB.row wt 3 1 ((to.set k (out.length:Int)).map Xe),OB.row wo 88 2 (out.map spC),OB.var b3 [.lit wo],OB.var b1 [Yv ([]:List Stp)]]) (fun(q,_,_)=>[(44,.int (q:Nat))]) (fun(q,_,_)=>(ge ss k).args.length-q) (r11 []) U10 (0,[],(.slice none 0 0)) ⟨nzl,Y⟩ ?_)
   rintro⟨q,nums,wa⟩ ⟨f2_1,f2_2⟩
   refine qso tb hJ (r11 [1000]) [_] U12 ?_
   refine cjS 11 (fun hb3=>?_) fun hb3=>?_
   ·
    try simp at hb3
    have e4:=Za9 hok (k:=k) (j:=q) oz oz
    have e5:nums.length=q:=by rw[f2_2,ZgL,List.length_map,List.length_take];omega
    have e6:=ZgW hok (show k<ss.length by omega)
    refine Zb (nx (Zf (Zd (ZF tb hJ (r11 [1002]) [.ptr [lI (ge ((ge ss k).args) q)],_,_] [0] U12 Y ⟨iIx Zw,U⟩ ?_))))
    refine tw pm1 (tw pm1 ?_)
    refine fun a w h=>Zbt [OB.var b4 [lS ((ge ss k).label),.lit wa],OB.row wt 3 1 ((to.set k (out.length:Int)).map Xe),OB.row wo 88 2 (out.map spC),OB.var b3 [.lit wo],OB.var b1 [Yv ([]:List Stp)]] (γ:=Value) (fun ix'=>([.at b4 1,.lit wa,.lit wt,.int (ge ((ge ss k).args) q),.lit (YG wt (((ge ((ge ss k).args) q).toNat)*1)),.int (ge (to.set k (out.length:Int)) ((ge ((ge ss k).args) q).toNat)),.rd (Z3 ([(ge (to.set k (out.length:Int)) ((ge ((ge ss k).args) q).toNat))])),.any,.at b4 1,.any]:List AV).getD ix' .any) (fun _=>true) [(7,fun _=>.at b4 0),(4,fun _=>.at b3 0),(2,fun _=>.at b1 0),(1,fun _=>.ptr (pfC ss)),(15,fun _=>.rd (Zgt (Y8 ss))),(16,fun _=>.int ((Y8 ss).length:Nat)),(17,fun _=>.int (k:Nat)),(3,fun _=>.lit wt),(42,fun _=>.rd (Z3 ((ge ss k).args))),(43,fun _=>.int (((ge ss k).args).length:Nat)),(44,fun _=>.int (q:Nat))] (fun j' g=>match j' with | 0=>[OB.row wa 3 1 (nums.map Xe),OB.var b4 [lS ((ge ss k).label),.lit wa],OB.row wt 3 1 ((to.set k (out.length:Int)).map Xe),OB.row wo 88 2 (out.map spC),OB.var b3 [.lit wo],OB.var b1 [Yv ([]:List Stp)]] | 1=>[OB.row g 3 1 ((nums++([(ge (to.set k (out.length:Int)) ((ge ((ge ss k).args) q).toNat))])).map Xe),OB.var b4 [lS ((ge ss k).label),.lit wa],OB.row wt 3 1 ((to.set k (out.length:Int)).map Xe),OB.row wo 88 2 (out.map spC),OB.var b3 [.lit wo],OB.var b1 [Yv ([]:List Stp)]] | _=>[OB.row g 3 1 ((nums++([(ge (to.set k (out.length:Int)) ((ge ((ge ss k).args) q).toNat))])).map Xe),OB.var b4 [lS ((ge ss k).label),.lit g],OB.row wt 3 1 ((to.set k (out.length:Int)).map Xe),OB.row wo 88 2 (out.map spC),OB.var b3 [.lit wo],OB.var b1 [Yv ([]:List Stp)]]) (fun k' g=>match k' with | 0=>g | _=>undef) [7,9] 1 (.slice none 0 0) (fun _=>Y) h hJ Yo Y Y Y Y Y Y hsb ⟨?_,?_,?_,?_,?_,?_,?_,?_,?_,?_,U⟩ ⟨?e12_1_0,?e12_1_1,U⟩ ⟨.old 0 7 _,.old 1 4 _,.old 2 2 _,.old 3 1 _,.old 4 15 _,.old 5 16 _,.old 6 17 _,.old 7 3 _,.old 8 42 _,.old 9 43 _,.old 10 44 _,U⟩ ?n12_1
    exact oX Y fun hx hl=>Zx Qq Y (hl.env 0 7 _ Y Y) hx
    exact fun _ O' hO'=>⟨Y,fun _ _ _ hx hl _=>Zo Q3 Y (Ze hx (hO' _ (mo 0 Y))) (hl.D 0 48 Y Y) Y hx⟩
    exact oX Y fun hx hl=>ZV Y (hl.env 7 3 _ Y Y) hx
    exact oX Y fun hx hl=>ZV Y (hl.env 11 9 _ Y Y) hx
    exact fun _ O' hO'=>⟨Y,fun _ _ _ hx hl _=>ZU (i:=(ge ((ge ss k).args) q)) Zw Y (Ze hx (hO' _ (mo 1 Y))) (hl.D 2 50 Y Y) (hl.D 3 51 Y Y) sfz (by rw[List.length_map];exact sfz) hx⟩
    exact fun _ O' hO'=>⟨Y,fun _ _ _ hx hl _=>X6 (i:=(ge ((ge ss k).args) q).toNat) Q2 Y (Ze hx (hO' _ (mo 1 Y))) (hl.D 4 52 Y Y) (Qc (xs:=to.set k (out.length:Int)) (k:=(ge ((ge ss k).args) q).toNat) sfz) hx⟩
    exact oY Y fun hk hx hl=>YI Zw Zea Y (hl.D 5 53 Y Y) (Zk hS _ hk hx _ nlr) (jo hJ hx)
    exact Zh Y
    exact oX Y fun hx hl=>Zx Qq Y (hl.env 0 7 _ Y Y) hx
    exact Zh Y
    case e12_1_0=>exact⟨_,Y,Y,Y,Y,fun _ _ w hk hx hl _=>Zl (ZbU (f:=Xe) nums ([(ge (to.set k (out.length:Int)) ((ge ((ge ss k).args) q).toNat))]) (fun _=>rfl) Zhx hJ hJ0 Y hk hx (hl.D 1 49 Y Y).lit (hl.D 6 54 Y Y) (by simp;omega) (by simp;omega)) fun v w' hp=>⟨v,Y,fun k' hk'=>absurd hk' (Nat.not_lt_zero _),fun _=>rfl,hp⟩⟩
    case e12_1_1=>exact⟨_,Y,Y,Y,Y,fun g _ w hk hx hl hs=>Zl (Ztb (off:=1) (cs:=[lS ((ge ss k).label),.lit wa]) (es:=[lS ((ge ss k).label),.lit g]) (c:=.lit g) hJ hJ0 ZaK Y hk hx (hl.D 8 56 Y Y) (by rw[(hs 0 7 _ 55 oz Y Y Y)];exact Rel.of_lit _ (Zbr (hx.2.1 _ (mo 0 Y)))) (lb Y) Y) fun v w' hp=>⟨g,Y,fun _ _=>rfl,fun e=>(by cases e),hp⟩⟩
    clear a w h
    intro v5
    dsimp only[List.map]
    refine nx (ln 8 fun hl4=>?_)
    refine YU tb hJ (r10 [1001]) [.int (q+1:Nat),_] [0] U11 Y ⟨YT,U⟩ ?_
    exact Xk (q+1,nums++([(ge (to.set k (out.length:Int)) ((ge ((ge ss k).args) q).toNat))]),v5) (r11 []) ⟨oz,by rw[f2_2];exact Zv5 oz⟩
   ·
    try simp at hb3
    refine Zu (nx (tw pm1 (tw pm1 ?_)))
    refine tw (fun h=>Xn (j:=1) (cs':=[lS ((ge ss k).label),Z3 nums]) hS Y Y h) (ZO (sq (.at b3 0) Y Y (lb Y) (fun _ _ h=>Zx YF Y (h.get 1 Y) h.x) ?_))
    refine sy (.lit wo) (fun h=>Zo ZaO Y (Ze h.x (mo 3 Y)) (h.get 0 Y) Y h.x) ?_
    refine sy (.agg (spC (⟨(ge ss k).label,nums⟩:Stp))) (fun h=>Yb (ds:=[lS ((ge ss k).label),Z3 nums]) Zc2 Y (Ze h.x (mo 0 Y)) (h.get 2 Y) Y Y h.x) ?_
    refine sy (.rd (Yv ([(⟨(ge ss k).label,nums⟩:Stp)]))) (fun h=>ZcD Z1 Zvl dz Y Y (h.get 0 Y) (Zk hS _ h.keep h.x _ nlr) (jo hJ h.x)) ?_
    refine kw pm2 (YD (f:=spC) (m:=2) (s:=59) out ([(⟨(ge ss k).label,nums⟩:Stp)]) (fun _=>Y) Zjp hJ hJ0 Y Y Y (lb Y) Y Y (fun a w h=>(h.get 0 Y)) (by simp;omega) (by simp;omega) fun v6=>?_)
    refine sy (.at b3 0) (fun h=>Zx YF Y (h.get 6 Y) h.x) ?_
    refine kw pm3 (Z6 (b:=b3) (off:=0) (es:=[_]) hJ hJ0 Zh2 Y Y Y (lb Y) Y (fun a w h=>⟨(h.get 0 Y),(h.get 1 Y)⟩) ?_)
    refine seK [2,7,8,9,10,11,12,13] U8 Y (nx (ln 0 fun hl5=>?_))
    refine YU tb hJ [1,2,3,4,5,7,1001] [.int (k+1:Nat),_] [0] U7 Y ⟨YT,U⟩ ?_
    refine kw pm2 (kw Zz ?_)
    refine kw pm3 (kw pm3 ?_)
    refine kw pm2 (kw pm3 ?_)
    exact Xk (k+1,out++([(⟨(ge ss k).label,nums⟩:Stp)]),wt,to.set k (out.length:Int),v6) (r5 [6,5]) ⟨oz,by first | (rw[ZrW hb2];exact f1_2) | (rw[Zic hb2,f1_2,f2_2,show q=(ge ss k).args.length by omega,List.take_length])⟩
 ·
  try simp at hb1
  have e1:out=Qd ss:=by rw[Qd,show ss.length=k by omega,f1_2]
  refine Zu (nx (tw pm1 (tw pm1 ?_)))
  refine tw (fun h=>Xn (j:=0) (cs':=[Yv out]) hS Y Y h) (tsq ?_)
  refine sy (.agg (pfC out)) (fun h=>Yb (ds:=[Yv out]) Z5 Y (Ze h.x (mo 0 Y)) (h.get 0 Y) Y Y h.x) ?_
  refine kw pm2 (Zn (b:=b1) (off:=0) (es:=[_]) (news:=[_]) hJ hJ0 Yt Y Y Y (lb Y) Y (fun a w h=>⟨(h.get 2 Y),(h.get 0 Y)⟩) ?_)
  exact seK [2] [_] Y (nx (Zs (fun a w h=>Zb7 (m:=0) Y Z5 h Y Y (show(_:List CD)=[Yv (Qd ss)]from by(rw[e1])<;>rfl))))
theorem Zr2 (l:List BA) (hl:l.length≤2000) (hs:∀ s∈l,s.size≤60):Fn prog J 64 [.rd (Zg l)] (.str (XB l)):=by
 refine fE Tryz.func64 fun S w0 hS hJ0=>?_
 clear hJ0
 refine ln 0 fun hl1=>?_
 refine qs tb hJ [0] [_] [_] ?_
 refine hqs tb hJ [1002] [_,.str (ZiJ l (⟨#[10]⟩:BA)),_] [1] [_] Y ⟨iFn hS hJ (p_Join hJ l (⟨#[10]⟩:BA) oz (by have h9:=ZpP hs;omega)) Zxp,U⟩ ?_
 exact tRn 0 (hE:=eS (Y))
theorem ZdS (xs:List Int) (b:xs.length*8≤140737488351232):FnM (ι:=Value) prog J 35 [] [.rd (Z3 xs)] [] (fun i'=>.lit (i')) (fun i'=>[OB.row i' 3 1 (xs.map Xe)]):=by
 refine fEM Tryz.func35 fun S w0 R hS hJ0 hH=>?_
 refine YS (B:=So J S w0 8 (R) [(0,.rd (Z3 xs))]) ?_ fun a w h=>h
 refine ln 0 fun hl1=>?_
 refine qso tb hJ [0] [_] [_] ?_
 refine Zf (tsq (snK 1 tb Y (Zcv (f:=Xe) (xs:=xs) YL Y Y Y (lb Y) (fun a w h=>(h.get 0 Y)) fun g1 hg1=>?_)))
 refine seK [0,2] U2 Y (nx (cj 0 (fun hb1=>?_) fun hb1=>?_))
 ·
  try simp at hb1
  refine qso tb hJ [1000] [_] [_] ?_
  refine tw (Yd 3 1 hJ) (tw (ob0 (congrArg (fun z'=>OB.row (.slice none 0 0) 3 1 ((z').map Xe)) (show([]:List Int)=xs from by first | exact(hg1 (by assumption)).symm | simp))) ?_)
  exact Zs (fun a w h=>ZK  (m:=0) (.slice none 0 0) Y h Y Y)
 ·
  try simp at hb1
  refine Zb (nx (Zf (fun a w h=>ZcB (id:=3) (t:=29) (e:=3) (size:=1) (bytes:=8) (i0:=0) (fol:=3) (d:=2) (ch:=[(2,(xs.map Xe))]) (fun ix'=>([.any,.rd (Z3 xs),.any,.any]:List AV).getD ix' .any) (fun _=>true) [] (xs.map Xe) yz ?r3_1 hJ hJ0 h Yo Y Y Y Y ⟨?_,?_,?_,?_,U⟩ trivial (fun v2=>?n3_1))))
  case r3_1=>
   refine Row.mk' Zhx ⟨_,Y,Y,Y,Y,Y⟩ ⟨?x3_1_0,U⟩ ⟨_,_,_,_,Y,Y,Y,Y,Y,Y,Y,Y,Y⟩ Y Y Y
   case x3_1_0=>exact⟨_,_,_,_,Y,Y,Y,Y,Y,Y,Y,Y,Zbe (f:=Xe) (fun _=>rfl),(by have hm:maxLen=9223372036854775807:=Y;simp[upto];first | omega | (simp;omega)),(by have hm:maxLen=9223372036854775807:=Y;simp[upto];first | omega | (simp;omega)),fun _ _ _ _ _ hl=>(hl.D 1 6 Y Y)⟩
  exact fun h=>Zh Y h
  exact fun _ _=>⟨Y,fun _ _ _ hx hl _=>ZV Y (hl.env 1 0 _ Y Y) hx⟩
  exact fun h=>Zh Y h
  exact fun h=>Zh Y h
  clear a w h
  exact nx (Zs (fun a w h=>ZK  (m:=0) v2 Y h Y Y))
theorem Zir (xs:List Stp) (b:xs.length*40≤140737488351232):FnM (ι:=Value) prog J 40 [] [.rd (Yv xs)] [] (fun i'=>.lit (i')) (fun i'=>[OB.row i' 88 2 (xs.map spC)]):=by
 refine fEM Tryz.func40 fun S w0 R hS hJ0 hH=>?_
 refine YS (B:=So J S w0 8 (R) [(0,.rd (Yv xs))]) ?_ fun a w h=>h
 refine ln 0 fun hl1=>?_
 refine qso tb hJ [0] [_] [_] ?_
 refine Zf (tsq (snK 1 tb Y (Zcv (f:=spC) (xs:=xs) ZN Y Y Y (lb Y) (fun a w h=>(h.get 0 Y)) fun g1 hg1=>?_)))
 refine seK [0,2] U2 Y (nx (cj 0 (fun hb1=>?_) fun hb1=>?_))
 ·
  try simp at hb1
  refine qso tb hJ [1000] [_] [_] ?_
  refine tw (Yd 88 2 hJ) (tw (ob0 (congrArg (fun z'=>OB.row (.slice none 0 0) 88 2 ((z').map spC)) (show([]:List Stp)=xs from by first | exact(hg1 (by assumption)).symm | simp))) ?_)
  exact Zs (fun a w h=>ZK  (m:=0) (.slice none 0 0) Y h Y Y)
 ·
  try simp at hb1
  refine Zb (nx (Zf (fun a w h=>ZcB (id:=3) (t:=26) (e:=88) (size:=2) (bytes:=40) (i0:=0) (fol:=3) (d:=2) (ch:=[(2,(xs.map spC))]) (fun ix'=>([.any,.rd (Yv xs),.any,.any]:List AV).getD ix' .any) (fun _=>true) [] (xs.map spC) yz ?r3_1 hJ hJ0 h Yo Y Y Y Y ⟨?_,?_,?_,?_,U⟩ trivial (fun v2=>?n3_1))))
  case r3_1=>
   refine Row.mk' Zjp ⟨_,Y,Y,Y,Y,Y⟩ ⟨?x3_1_0,U⟩ ⟨_,_,_,_,Y,Y,Y,Y,Y,Y,Y,Y,Y⟩ Y Y Y
   case x3_1_0=>exact⟨_,_,_,_,Y,Y,Y,Y,Y,Y,Y,Y,Zbe (f:=spC) (fun _=>rfl),(by have hm:maxLen=9223372036854775807:=Y;simp[upto];first | omega | (simp;omega)),(by have hm:maxLen=9223372036854775807:=Y;simp[upto];first | omega | (simp;omega)),fun _ _ _ _ _ hl=>(hl.D 1 6 Y Y)⟩
  exact fun h=>Zh Y h
  exact fun _ _=>⟨Y,fun _ _ _ hx hl _=>ZV Y (hl.env 1 0 _ Y Y) hx⟩
  exact fun h=>Zh Y h
  exact fun h=>Zh Y h
  clear a w h
  exact nx (Zs (fun a w h=>ZK  (m:=0) v2 Y h Y Y))
theorem Zpi (xs:List Int) (b:xs.length*8≤140737488351232):Fn prog J 35 [.rd (Z3 xs)] (.rd (Z3 xs)):=Zw0 (ZdS hJ xs b)
theorem ZeD (ss:List Stp) (c:Chg) (hok:Okay ss) (hs0:0≤c.step) (hs1:c.step< (ss.length:Int)) (hca:∀ a∈c.args,0≤a∧a<c.step) (hcl:c.args.length≤40) (hc1:c.reason=2∨1≤c.args.length):Fn prog J 34 [.agg (pfC ss),.agg (chC c)] (.agg (pfC (Y6 ss c))):=by
 refine fE Tryz.func34 fun S w0 hS hJ0=>?_
 refine tw Z4 ?_
 have hl0:=hok.1
 have hl1:=hok.2.1
 refine tsq (sy (.ptr (pfC ss)) (fun h=>Q1 Y (h.get 0 Y) (Zk hS _ h.keep h.x _ nlr) (jo hJ h.x)) ?_)
 refine sy (.ptr (chC c)) (fun h=>Q1 Y (h.get 2 Y) (Zk hS _ h.keep h.x _ nlr) (jo hJ h.x)) ?_
 refine Zv XS hJ Y Y Y (lb Y) fun b1=>?_
 refine seK [0,1,2] U3 Y (nx (tsq ?_))
 refine snK 2 tb Y (QK (O:=[]) (R:=[OB.var b1 [Yv ([]:List Stp)]]) (Zir hJ ss oz) ZqW Y Y Y (lb Y) hS hJ0 Zq (fun a w h=>(Za (h.get 0 Y) Zc)) fun z2=>?_)
 refine sq (.agg [.lit z2]) Y Y (lb Y) (fun a _ h=>XR (us:=[a.eval (.tmp 12)]) Zdp Y yz (Zt (h.get 0 Y) Z0) Y h.x) ?_
 refine Zv XS hJ Y Y Y (lb Y) fun b3=>?_
 refine Zn (b:=b3) (off:=0) (es:=[_]) (news:=[_]) hJ hJ0 Yt Y Y Y (lb Y) Y (fun a w h=>⟨(h.get 0 Y),(h.get 1 Y)⟩) ?_
 refine seK [0,3,5,6] U4 Y (nx (ln 1 fun hl1=>?_))
 refine Zf (qso tb hJ [0,2,3,1002] U3 U4 ?_)
 refine cj 3 (fun hb1=>?_) fun hb1=>?_
 ·
  try simp at hb1
  have e9:Y6 ss c=Qd (ss.set c.step.toNat ⟨c.label,c.args⟩):=if_pos hb1
  refine Zf (tw pm1 (fun a w h=>YH (γ:=Unit) (fun ix'=>([.at b3 0,.lit z2,.ptr [lI c.step,lS c.label,Z3 c.args,lI c.before,lI c.after],.int c.step,.ptr [lS c.label,Z3 c.args,lI c.before,lI c.after],.str c.label,.ptr [Z3 c.args,lI c.before,lI c.after],.rd (Z3 c.args),.rd (Z3 c.args),.agg (spC (⟨c.label,c.args⟩:Stp)),.lit (YG z2 (c.step.toNat*2)),.any]:List AV).getD ix' .any) (fun _=>true) [(5,fun _=>.at b3 0),(4,fun _=>.at b1 0)] (fun j' _=>match j' with | 0=>[OB.row z2 88 2 (ss.map spC),OB.var b3 [.lit z2],OB.var b1 [Yv ([]:List Stp)]] | _=>[OB.row z2 88 2 ((ss.set c.step.toNat (⟨c.label,c.args⟩:Stp)).map spC),OB.var b3 [.lit z2],OB.var b1 [Yv ([]:List Stp)]]) (fun _ _=>undef) [11] 0 () (fun _=>Y) h hJ Yo Y Y Y Y Y Y hsb ⟨?_,?_,?_,?_,?_,?_,?_,?_,?_,?_,?_,?_,U⟩ ⟨?e3_1_0,U⟩ ⟨.old 0 5 _,.old 1 4 _,U⟩ ?n3_1))
  exact oX Y fun hx hl=>Zx YF Y (hl.env 0 5 _ Y Y) hx
  exact fun _ O' hO'=>⟨Y,fun _ _ _ hx hl _=>Zo ZaO Y (Ze hx (hO' _ (mo 1 Y))) (hl.D 0 17 Y Y) Y hx⟩
  exact oX Y fun hx hl=>ZG ZnD Y (hl.env 2 3 _ Y Y) hx
  exact oX Y fun hx hl=>ZB Q2 Y (hl.D 2 19 Y Y) hx
  exact oX Y fun hx hl=>ZG ZnC Y (hl.env 2 3 _ Y Y) hx
  exact oX Y fun hx hl=>ZB Qx Y (hl.D 4 21 Y Y) hx
  exact oX Y fun hx hl=>ZG Zdo Y (hl.env 2 3 _ Y Y) hx
  exact oX Y fun hx hl=>ZB Q3 Y (hl.D 6 23 Y Y) hx
  exact oY Y fun hk hx hl=>ZaL (Zpi hJ c.args oz) Zhn Y (Zk hS _ hk hx) (hx.1) (Za (hl.D 7 24 Y Y) Zc) (jo hJ hx)
  exact fun _ O' _=>⟨Y,fun a _ _ hx hl _=>XR (us:=[a.eval (.tmp 22),a.eval (.tmp 25)]) ZbV Y yz (Zt (hl.D 5 22 Y Y) (Zt (hl.D 8 25 Y Y) Z0)) Y hx⟩
  exact fun _ O' hO'=>⟨Y,fun _ _ _ hx hl _=>ZU (i:=c.step) Z1 Y (Ze hx (hO' _ (mo 0 Y))) (hl.D 1 18 Y Y) (hl.D 3 20 Y Y) sfz (by rw[List.length_map];exact sfz) hx⟩
  exact Zh Y
  case e3_1_0=>exact⟨_,Y,Y,Y,Y,fun g _ w hk hx hl _=>Zl (Zks (f:=spC) (i:=c.step.toNat) (⟨c.label,c.args⟩:Stp) hJ hJ0 Qa Y hk hx (hl.D 10 27 Y Y) (hl.D 9 26 Y Y) sfz Y) fun v w' hp=>⟨g,Y,fun _ _=>rfl,fun e=>(by cases e),hp⟩⟩
  clear a w h
  intro _
  dsimp only[List.map]
  refine nx (tw pm1 (tw pm1 ?_))
  refine tw (fun h=>Xn (j:=0) (cs':=[Yv (ss.set c.step.toNat (⟨c.label,c.args⟩:Stp))]) hS Y Y h) (tsq ?_)
  refine sy (.agg (pfC (ss.set c.step.toNat (⟨c.label,c.args⟩:Stp)))) (fun h=>Yb (ds:=[Yv (ss.set c.step.toNat (⟨c.label,c.args⟩:Stp))]) Z5 Y (Ze h.x (mo 0 Y)) (h.get 0 Y) Y Y h.x) ?_
  refine sy (.agg (pfC (Qd (ss.set c.step.toNat (⟨c.label,c.args⟩:Stp))))) (fun h=>ZaL (ZgM hJ (ss.set c.step.toNat (⟨c.label,c.args⟩:Stp)) (by first | exact ZdU hok (k:=c.step.toNat) (s:=⟨c.label,c.args⟩) ⟨hcl,fun a ha=>by have:=hca a ha;omega⟩ | (rw[e1];exact hsh) | (rw[e1];exact ZcH hsh oz))) ZkB Y (Zk hS _ h.keep h.x) (h.x.1) (Za (h.get 0 Y) Zc) (jo hJ h.x)) ?_
  refine kw pm1 (Zn (b:=b1) (off:=0) (es:=[_]) (news:=[_]) hJ hJ0 Yt Y Y Y (lb Y) Y (fun a w h=>⟨(h.get 3 Y),(h.get 0 Y)⟩) ?_)
  exact seK [3] [_] Y (nx (Zs (fun a w h=>Zb7 (m:=0) Y Z5 h Y Y (show(_:List CD)=[Yv (Y6 ss c)]from by(first | (rw[e9];done) | rw[e9,←e1])<;>rfl))))
 ·
  try simp at hb1
  have h1:1≤c.args.length:=by rcases hc1 with h | h;exact absurd h hb1;exact h
  have hg:0≤ge c.args 0∧ge c.args 0<c.step:=hca _ (Zp oz)
  have hsh:=Zf5 hok hg.1 hg.2
  refine Zb (nx (Zf (ZsP tb hJ [0,1,2,1001,1002,1003] [.at b3 0,.lit z2,.int (ss.length:Nat),_] [0,1,2] U6 Y ⟨fun _ _ _ hx hl _=>Zx YF Y (hl.env 0 5 _ Y Y) hx,fun _ _ _ hx hl _=>Zo ZaO Y (ZcF hx (mo 0 Y)) (hl.D 0 30 Y Y) Y hx,fun _ _ _ hx hl _=>Qw ZN Y (XY hS hx (mo 1 Y) (hl.D 1 31 Y Y)) hx,U⟩ ?_)))
  refine Zd (lpo (ι:=Nat×(List Stp)) (fun(k,out)=>(k≤ss.length)∧(out=Zjw (Zb5 c) ss k)) (fun(_,out)=>[OB.var b3 [.lit z2],OB.row z2 88 2 (out.map spC),OB.var b1 [Yv ([]:List Stp)]]) (fun(k,_)=>[(33,.int (k:Nat))]) (fun(k,_)=>ss.length-k) (r6 []) U5 (0,ss) ⟨nzl,mf_zero.symm⟩ ?_)
  rintro⟨k,out⟩ ⟨f1_1,f1_2⟩
  refine qso tb hJ (r6 [1000]) [_] U7 ?_
  refine cjS 6 (fun hb2=>?_) fun hb2=>?_
  ·
   try simp at hb2
   have e5:out.length=ss.length:=by rw[f1_2,ZpA]
   have e6:=ZgW hok (show k<ss.length by omega)
   refine Zb (nx (Zf (Zd (Zf (ZO (snK 1 tb Y (sy (.lit (YG z2 (k*2))) (fun h=>ZU (i:=(k:Int)) Z1 Y (Ze h.x (mo 1 Y)) (h.get 4 Y) (h.get 6 Y) nnn (by rw[List.length_map];exact Int.ofNat_lt.2 sfz) h.x) ?_)))))))
   refine sy (.agg (spC (ge out k))) (fun h=>XL (i:=k) Zc2 Y (Ze h.x (mo 1 Y)) (h.get 0 Y) (Qc (xs:=out) (k:=k) sfz) Y h.x) ?_
   refine Zv X4 hJ Y Y Y (lb Y) fun b4=>?_
   refine snK 1 tb Y (Zn (b:=b4) (off:=0) (es:=U2) (news:=U2) hJ hJ0 Qa Y Y Y (lb Y) Y (fun a w h=>⟨(h.get 1 Y),(h.get 2 Y)⟩) ?_)
   refine kw (fun h=>ZP hS h (m:=1) (s:=7) Y) (seK [0,1,5,6,7,8,9,10] U8 Y ?_)
   refine kw (sa 0 Y (show(.ptr (spC (ge out k)):AV)= .ptr (spC (ge ss k))from by rw[f1_2,Zww oz])) (nx (Zf (fun a w h=>YH (γ:=Value) (fun ix'=>([.at b3 0,.lit z2,.int (k:Nat),.ptr [Z3 ((ge ss k).args)],.rd (Z3 ((ge ss k).args)),.any,.lit (YG z2 (k*2)),.lit (YG z2 (k*2+1)),.any]:List AV).getD ix' .any) (fun _=>true) [(7,fun _=>.ptr (spC (ge ss k))),(6,fun _=>.int (k:Nat)),(5,fun _=>.at b3 0),(4,fun _=>.at b1 0),(3,fun _=>.ptr (chC c)),(31,fun _=>.lit z2),(32,fun _=>.int (ss.length:Nat)),(33,fun _=>.int (k:Nat))] (fun j' g=>match j' with | 0=>[OB.var b3 [.lit z2],OB.row z2 88 2 (out.map spC),OB.var b1 [Yv ([]:List Stp)]] | 1=>[OB.row g 3 1 (((ge ss k).args).map Xe),OB.var b3 [.lit z2],OB.row z2 88 2 (out.map spC),OB.var b1 [Yv ([]:List Stp)]] | _=>[OB.row g 3 1 (((ge ss k).args).map Xe),OB.var b3 [.lit z2],OB.row z2 88 2 ((out.map spC).set k ((spC (ge out k)).set 1 (.lit g))),OB.var b1 [Yv ([]:List Stp)]]) (fun k' g=>match k' with | 0=>g | _=>undef) [5,8] 1 (.slice none 0 0) (fun _=>Y) h hJ Yo Y Y Y Y Y Y hsb ⟨?_,?_,?_,?_,?_,?_,?_,?_,?_,U⟩ ⟨?e8_2_0,?e8_2_1,U⟩ ⟨.old 0 7 _,.old 1 6 _,.old 2 5 _,.old 3 4 _,.old 4 3 _,.old 5 31 _,.old 6 32 _,.old 7 33 _,U⟩ ?n8_2)))
   exact oX Y fun hx hl=>Zx YF Y (hl.env 2 5 _ Y Y) hx
   exact fun _ O' hO'=>⟨Y,fun _ _ _ hx hl _=>Zo ZaO Y (Ze hx (hO' _ (mo 0 Y))) (hl.D 0 38 Y Y) Y hx⟩
   exact oX Y fun hx hl=>ZV Y (hl.env 1 6 _ Y Y) hx
   exact oX Y fun hx hl=>ZG Qq Y (hl.env 0 7 _ Y Y) hx
   exact oX Y fun hx hl=>ZB Q3 Y (hl.D 3 41 Y Y) hx
   exact Zh Y
   exact fun _ O' hO'=>⟨Y,fun _ _ _ hx hl _=>ZU (i:=(k:Int)) Z1 Y (Ze hx (hO' _ (mo 1 Y))) (hl.D 1 39 Y Y) (hl.D 2 40 Y Y) nnn (by rw[List.length_map];exact Int.ofNat_lt.2 sfz) hx⟩
   exact fun _ O' hO'=>⟨Y,fun _ _ _ hx hl _=>Zdc Qq Y (Ze hx (hO' _ (mo 1 Y))) (by rw[List.length_map];exact Nat.lt_of_le_of_lt (Nat.zero_le k) sfz) (hl.D 6 44 Y Y) hx⟩
   exact Zh Y
   case e8_2_0=>exact⟨_,Y,Y,Y,Y,fun _ _ w hk hx hl _=>Zl (Zu8 (O:=[]) (R:=[OB.var b3 [.lit z2],OB.row z2 88 2 (out.map spC),OB.var b1 [Yv ([]:List Stp)]]) (ZdS hJ ((ge ss k).args) oz) Zhn Y hS hJ0 Zq hk hx (Za (hl.D 4 42 Y Y) Zc)) fun v w' ⟨i,hp,hv⟩=>⟨i,Y,fun k' hk'=>absurd hk' (Nat.not_lt_zero _),fun _=>hv.lit,hp⟩⟩
   case e8_2_1=>exact⟨_,Y,Y,Y,Y,fun g _ w hk hx hl hs=>Zl (Zi4 (i:=k) (j:=1) (c:=.lit g) hJ hJ0 ZaK Y hk (YK (YX (A:=[OB.row g 3 1 (((ge ss k).args).map Xe),OB.var b3 [.lit z2]])) hx) (hl.D 7 45 Y Y) (by rw[(hs 0 5 _ 43 oz Y Y Y)];exact Rel.of_lit _ (Zbr (hx.2.1 _ (mo 0 Y)))) (Qc (xs:=out) (k:=k) sfz) (lb Y)) fun v w' hp=>⟨g,Y,fun _ _=>rfl,fun e=>(by cases e),XT (YX (A:=[OB.row g 3 1 (((ge ss k).args).map Xe),OB.var b3 [.lit z2]])).symm (YX (A:=[OB.row g 3 1 (((ge ss k).args).map Xe),OB.var b3 [.lit z2]])).symm hp⟩⟩
   clear a w h
   intro z5
   dsimp only[List.map]
   refine nx (ZF tb hJ [1,2,3,4,5,6,7,1001,1002,1003] [_,_,.int (((ge ss k).args).length:Nat),_] [2] U10 Y ⟨Ym YL,U⟩ ?_)
   refine ln 7 fun hl2=>?_
   refine Zd (lpo (ι:=Nat×(List Int)) (fun(q,nums)=>(q≤(ge ss k).args.length)∧(nums=Zjw (Zx2 c) (ge ss k).args q)) (fun(_,nums)=>[OB.row z5 3 1 (nums.map Xe),OB.var b3 [.lit z2],OB.row z2 88 2 ((out.map spC).set k ((spC (ge out k)).set 1 (.lit z5))),OB.var b1 [Yv ([]:List Stp)]]) (fun(q,_)=>[(49,.int (q:Nat))]) (fun(q,_)=>(ge ss k).args.length-q) (r10 []) U9 (0,((ge ss k).args)) ⟨nzl,mf_zero.symm⟩ ?_)
   rintro⟨q,nums⟩ ⟨f2_1,f2_2⟩
   refine qso tb hJ (r10 [1000]) [_] U11 ?_
   refine cjS 10 (fun hb3=>?_) fun hb3=>?_
   ·
    try simp at hb3
    have e7:nums.length=(ge ss k).args.length:=by rw[f2_2,ZpA]
    refine Zb (nx (Zf (Zd (ZF tb hJ (r10 [1003,1004]) [_,.ptr [lI (ge ((ge ss k).args) q)],_,_,_] [1] U12 Y ⟨iIx Zw,U⟩ ?_))))
    refine qso tb hJ (r11 [1003]) U4 U12 ?_
    refine cj 11 (fun hb4=>?_) fun hb4=>?_
    ·
     try simp at hb4
     refine fun a w h=>YH (γ:=Unit) (fun ix'=>([.at b3 0,.lit z2,.int (k:Nat),.lit (YG z2 (k*2)),.lit (YG z2 (k*2+1)),.lit z5,.int (q:Nat),.ptr [Z3 c.args,lI c.before,lI c.after],.rd (Z3 c.args),.ptr [lI (ge c.args 0)],.int (ge c.args 0),.lit (YG z5 (q*1)),.any]:List AV).getD ix' .any) (fun _=>true) [(6,fun _=>.int (k:Nat)),(5,fun _=>.at b3 0),(4,fun _=>.at b1 0),(3,fun _=>.ptr (chC c)),(31,fun _=>.lit z2),(32,fun _=>.int (ss.length:Nat)),(33,fun _=>.int (k:Nat)),(47,fun _=>.rd (Z3 ((ge ss k).args))),(48,fun _=>.int (((ge ss k).args).length:Nat)),(49,fun _=>.int (q:Nat))] (fun j' _=>match j' with | 0=>[OB.row z5 3 1 (nums.map Xe),OB.var b3 [.lit z2],OB.row z2 88 2 ((out.map spC).set k ((spC (ge out k)).set 1 (.lit z5))),OB.var b1 [Yv ([]:List Stp)]] | _=>[OB.row z5 3 1 ((nums.set q (ge c.args 0)).map Xe),OB.var b3 [.lit z2],OB.row z2 88 2 ((out.map spC).set k ((spC (ge out k)).set 1 (.lit z5))),OB.var b1 [Yv ([]:List Stp)]]) (fun _ _=>undef) [12] 0 () (fun _=>Y) h hJ Yo Y Y Y Y Y Y hsb ⟨?_,?_,?_,?_,?_,?_,?_,?_,?_,?_,?_,?_,?_,U⟩ ⟨?e13_3_0,U⟩ ⟨.old 0 6 _,.old 1 5 _,.old 2 4 _,.old 3 3 _,.old 4 31 _,.old 5 32 _,.old 6 33 _,.old 7 47 _,.old 8 48 _,.old 9 49 _,U⟩ ?n13_3
     exact oX Y fun hx hl=>Zx YF Y (hl.env 1 5 _ Y Y) hx
     exact fun _ O' hO'=>⟨Y,fun _ _ _ hx hl _=>Zo ZaO Y (Ze hx (hO' _ (mo 1 Y))) (hl.D 0 58 Y Y) Y hx⟩
     exact oX Y fun hx hl=>ZV Y (hl.env 0 6 _ Y Y) hx
     exact fun _ O' hO'=>⟨Y,fun _ _ _ hx hl _=>ZU (i:=(k:Int)) Z1 Y (Ze hx (hO' _ (mo 2 Y))) (hl.D 1 59 Y Y) (hl.D 2 60 Y Y) nnn (by rw[List.length_set,List.length_map];exact Int.ofNat_lt.2 sfz) hx⟩
     exact fun _ O' hO'=>⟨Y,fun _ _ _ hx hl _=>Zdc Qq Y (Ze hx (hO' _ (mo 2 Y))) (by rw[List.length_set,List.length_map];exact Nat.lt_of_le_of_lt (Nat.zero_le k) sfz) (hl.D 3 61 Y Y) hx⟩
     exact fun _ O' hO'=>⟨Y,fun _ _ _ hx hl _=>Zna (i:=k) (j:=1) Q3 Y (Ze hx (hO' _ (mo 2 Y))) (hl.D 4 62 Y Y) (ZgF (xs:=out) (k:=k) sfz) Y hx⟩
     exact oX Y fun hx hl=>ZV Y (hl.env 10 8 _ Y Y) hx
     exact oX Y fun hx hl=>ZG Zdo Y (hl.env 3 3 _ Y Y) hx
     exact oX Y fun hx hl=>ZB Q3 Y (hl.D 7 65 Y Y) hx
     exact oX Y fun hx hl=>ZM (i:=((0:Nat):Int)) Zw Y (hl.D 8 66 Y Y) (Rel.of_lit (.int .i64 0)) nnn (ZT (xs:=c.args) (k:=0) sfz) Y hx
     exact oX Y fun hx hl=>ZB Q2 Y (hl.D 9 67 Y Y) hx
     exact fun _ O' hO'=>⟨Y,fun _ _ _ hx hl _=>ZU (i:=(q:Int)) Zw Y (Ze hx (hO' _ (mo 0 Y))) (hl.D 5 63 Y Y) (hl.D 6 64 Y Y) nnn (by rw[List.length_map];exact Int.ofNat_lt.2 sfz) hx⟩
     exact Zh Y
     case e13_3_0=>exact⟨_,Y,Y,Y,Y,fun g _ w hk hx hl _=>Zl (Zfc (f:=Xe) (i:=q) (ge c.args 0) Y hJ hJ0 QM Y hk hx (hl.D 11 69 Y Y) (hl.D 10 68 Y Y) sfz) fun v w' hp=>⟨g,Y,fun _ _=>rfl,fun e=>(by cases e),hp⟩⟩
     clear a w h
     intro _
     dsimp only[List.map]
     refine nx (YU tb hJ (r9 [1001]) [.int (q+1:Nat),_] [0] U10 Y ⟨YT,U⟩ ?_)
     exact Xk (q+1,nums.set q (ge c.args 0)) (r10 []) ⟨oz,by first | (rw[f2_2,←Zg1 (f:=Zx2 c) oz];simp[Zx2,hb4];done) | (rw[f2_2];exact Zpz oz (if_neg hb4))⟩
    ·
     try simp at hb4
     refine Zb (nx (YU tb hJ (r9 [1001]) [.int (q+1:Nat),_] [0] U10 Y ⟨YT,U⟩ ?_))
     exact Xk (q+1,nums) (r10 []) ⟨oz,by first | (rw[f2_2,←Zg1 (f:=Zx2 c) oz];simp[Zx2,hb4];done) | (rw[f2_2];exact Zpz oz (if_neg hb4))⟩
   ·
    try simp at hb3
    refine Zu (nx (tw pm2 (tw pm1 ?_)))
    refine tw (fun h=>Zcu (rows':=(out.set k (⟨(ge out k).label,nums⟩:Stp)).map spC) (i:=k) (j:=1) hS (ZgF (xs:=out) (k:=k) sfz) Y (by rw[List.map_set,List.set_set];rfl) h) (YU tb hJ [1,2,3,4,5,1001] [.int (k+1:Nat),_] [0] U6 Y ⟨YT,U⟩ ?_)
    refine kw pm2 (kw pm1 ?_)
    exact kw pm2 (Xk (k+1,out.set k (⟨(ge out k).label,nums⟩:Stp)) (r6 []) ⟨oz,by rw[f1_2,Zww oz,f2_2,ZuX (l:=(ge ss k).args) (q:=q) oz,ZrB,Zg1 oz]⟩)
  ·
   try simp at hb2
   have e1:out=ss.map (Zb5 c):=by rw[f1_2,ZuX (l:=ss) (q:=k) oz]
   have e5:out.length=ss.length:=by rw[e1,List.length_map]
   refine Zu (nx (Zf (ZsP tb hJ [0,1,2,1006] [_,_,.at b3 0,.lit z2,.int (out.length:Nat),.int ((out.length:Int)-(1:Int)),_] [2,3,4,5] U4 Y ⟨fun _ _ _ hx hl _=>Zx YF Y (hl.env 0 5 _ Y Y) hx,fun _ _ _ hx hl _=>Zo ZaO Y (ZcF hx (mo 0 Y)) (hl.D 2 74 Y Y) Y hx,fun _ _ _ hx hl _=>Qw ZN Y (XY hS hx (mo 1 Y) (hl.D 3 75 Y Y)) hx,Zu2,U⟩ ?_)))
   refine cj 3 (fun hb5=>?_) fun hb5=>?_
   ·
    try simp at hb5
    have e9:Y6 ss c=Qd ((ss.map (Zb5 c)).take (ge c.args 0+1).toNat):=by rw[Y6,if_neg hb1,if_pos oz]
    refine tw pm1 (tw (fun h=>List.map_take▸Zop (m:=((ge c.args 0)+(1:Int)).toNat) (by rw[List.length_map];exact sfz) h) ?_)
    refine tw pm1 (fun a w h=>YH (γ:=Unit) (fun ix'=>([.at b3 0,.lit z2,.ptr [Z3 c.args,lI c.before,lI c.after],.rd (Z3 c.args),.ptr [lI (ge c.args 0)],.int (ge c.args 0),.int ((ge c.args 0)+(1:Int)),.lit (Zaf z2 (((ge c.args 0)+(1:Int)).toNat)),.at b3 0,.any]:List AV).getD ix' .any) (fun _=>true) [(5,fun _=>.at b3 0),(4,fun _=>.at b1 0)] (fun j' _=>match j' with | 0=>[OB.var b3 [.lit z2],OB.row (Zaf z2 (((ge c.args 0)+(1:Int)).toNat)) 88 2 ((out.take (((ge c.args 0)+(1:Int)).toNat)).map spC),OB.var b1 [Yv ([]:List Stp)]] | _=>[OB.var b3 [.lit (Zaf z2 (((ge c.args 0)+(1:Int)).toNat))],OB.row (Zaf z2 (((ge c.args 0)+(1:Int)).toNat)) 88 2 ((out.take (((ge c.args 0)+(1:Int)).toNat)).map spC),OB.var b1 [Yv ([]:List Stp)]]) (fun _ _=>undef) [9] 0 () (fun _=>Y) h hJ Yo Y Y Y Y Y Y hsb ⟨?_,?_,?_,?_,?_,?_,?_,?_,?_,?_,U⟩ ⟨?e17_4_0,U⟩ ⟨.old 0 5 _,.old 1 4 _,U⟩ ?n17_4)
    exact oX Y fun hx hl=>Zx YF Y (hl.env 0 5 _ Y Y) hx
    exact fun _ O' hO'=>⟨Y,fun _ _ _ hx hl _=>Zo ZaO Y (Ze hx (hO' _ (mo 0 Y))) (hl.D 0 79 Y Y) Y hx⟩
    exact oX Y fun hx hl=>ZG Zdo Y (hl.env 2 3 _ Y Y) hx
    exact oX Y fun hx hl=>ZB Q3 Y (hl.D 2 81 Y Y) hx
    exact oX Y fun hx hl=>ZM (i:=((0:Nat):Int)) Zw Y (hl.D 3 82 Y Y) (Rel.of_lit (.int .i64 0)) nnn (ZT (xs:=c.args) (k:=0) sfz) Y hx
    exact oX Y fun hx hl=>ZB Q2 Y (hl.D 4 83 Y Y) hx
    exact oX Y fun hx hl=>Znc (i:=(ge c.args 0)) (j:=(1:Int)) Y (hl.D 5 84 Y Y) (Rel.of_lit (.int .i64 1)) sfz sfz hx
    exact fun _ O' hO'=>⟨Y,fun _ _ _ hx hl _=>Zez (m:=((ge c.args 0)+(1:Int)).toNat) Z1 Y (Ze hx (hO' _ (mo 1 Y))) (by first | rfl | (rw[List.length_map];exact sfz)) (hl.D 1 80 Y Y) (ZvY sfz (hl.D 6 85 Y Y)) hx⟩
    exact oX Y fun hx hl=>Zx YF Y (hl.env 0 5 _ Y Y) hx
    exact Zh Y
    case e17_4_0=>exact⟨_,Y,Y,Y,Y,fun g _ w hk hx hl _=>Zl (ZcS (off:=0) (es:=[_]) (c:=.lit (Zaf z2 (((ge c.args 0)+(1:Int)).toNat))) hJ hJ0 Zh2 Y hk hx (hl.D 8 87 Y Y) (hl.D 7 86 Y Y) (lb Y) Y) fun v w' hp=>⟨g,Y,fun _ _=>rfl,fun e=>(by cases e),hp⟩⟩
    clear a w h
    intro _
    dsimp only[List.map]
    refine nx (tw pm1 (tw (fun h=>Xn (j:=0) (cs':=[Yv (out.take (((ge c.args 0)+(1:Int)).toNat))]) hS Y Y h) ?_))
    refine tsq (sy (.agg (pfC (out.take (((ge c.args 0)+(1:Int)).toNat)))) (fun h=>Yb (ds:=[Yv (out.take (((ge c.args 0)+(1:Int)).toNat))]) Z5 Y (Ze h.x (mo 0 Y)) (h.get 0 Y) Y Y h.x) ?_)
    refine sy (.agg (pfC (Qd (out.take (((ge c.args 0)+(1:Int)).toNat))))) (fun h=>ZaL (ZgM hJ (out.take (((ge c.args 0)+(1:Int)).toNat)) (by first | exact ZdU hok (k:=c.step.toNat) (s:=⟨c.label,c.args⟩) ⟨hcl,fun a ha=>by have:=hca a ha;omega⟩ | (rw[e1];exact hsh) | (rw[e1];exact ZcH hsh oz))) ZkB Y (Zk hS _ h.keep h.x) (h.x.1) (Za (h.get 0 Y) Zc) (jo hJ h.x)) ?_
    refine kw pm1 (Zn (b:=b1) (off:=0) (es:=[_]) (news:=[_]) hJ hJ0 Yt Y Y Y (lb Y) Y (fun a w h=>⟨(h.get 3 Y),(h.get 0 Y)⟩) ?_)
    exact seK [3] [_] Y (nx (Zs (fun a w h=>Zb7 (m:=0) Y Z5 h Y Y (show(_:List CD)=[Yv (Y6 ss c)]from by(first | (rw[e9];done) | rw[e9,←e1])<;>rfl))))
   ·
    try simp at hb5
    have e9:Y6 ss c=Qd (ss.map (Zb5 c)):=by rw[Y6,if_neg hb1,if_neg oz]
    refine Zb (nx (tw pm1 (tw (fun h=>Xn (j:=0) (cs':=[Yv out]) hS Y Y h) ?_)))
    refine tsq (sy (.agg (pfC out)) (fun h=>Yb (ds:=[Yv out]) Z5 Y (Ze h.x (mo 0 Y)) (h.get 0 Y) Y Y h.x) ?_)
    refine sy (.agg (pfC (Qd out))) (fun h=>ZaL (ZgM hJ out (by first | exact ZdU hok (k:=c.step.toNat) (s:=⟨c.label,c.args⟩) ⟨hcl,fun a ha=>by have:=hca a ha;omega⟩ | (rw[e1];exact hsh) | (rw[e1];exact ZcH hsh oz))) ZkB Y (Zk hS _ h.keep h.x) (h.x.1) (Za (h.get 0 Y) Zc) (jo hJ h.x)) ?_
    refine kw pm1 (Zn (b:=b1) (off:=0) (es:=[_]) (news:=[_]) hJ hJ0 Yt Y Y Y (lb Y) Y (fun a w h=>⟨(h.get 3 Y),(h.get 0 Y)⟩) ?_)
    exact seK [3] [_] Y (nx (Zs (fun a w h=>Zb7 (m:=0) Y Z5 h Y Y (show(_:List CD)=[Yv (Y6 ss c)]from by(first | (rw[e9];done) | rw[e9,←e1])<;>rfl))))
end
end Go.Proofs.YtdfadihhfppjaaaGreatDoor
namespace Go.Proofs.YtdfadihhfppjaaaGreatDoor
open Go.RowKit
def bvs:Nat→List (List Bool)
 | 0=>[[]]
 | n+1=>(bvs n).flatMap fun l=>[l++[false],l++[true]]
theorem ZkG (D:Nat→Bool):∀ n,(List.range n).map D∈bvs n
 | 0=>by simp[bvs]
 | n+1=>by
  rw[bvs,List.mem_flatMap]
  refine⟨_,ZkG D n,?_⟩
  rw[List.range_succ,List.map_append,List.map_singleton]
  cases D n<;>simp
def Zl9 (l:List Oper) (ch:List Nat) (k:Nat):List (List Bool):=
 (bvs ch.length).filter fun b=>!b.getD k false&& (ch.zipIdx.all fun p=>ch.zipIdx.all fun q=>!ZaH l l.length p.1 q.1|| ((p.2 !=k||b.getD q.2 false)&& (!b.getD p.2 false||b.getD q.2 false)))
def AllB (P:List Bool→Prop):List (List Bool)→Prop
 | []=>True
 | b::bs=>P b∧AllB P bs
theorem ZhA {P:List Bool→Prop} {b:List Bool}:∀ {bs:List (List Bool)},AllB P bs→b∈bs→P b
 | _::_,⟨h,hr⟩,hm=>by
  rcases List.mem_cons.1 hm with rfl | hm
  · exact h
  · exact ZhA hr hm
theorem Xu (D:Nat→Bool) (n j:Nat):((List.range n).map D).getD j false=(decide (j<n)&&D j):=by
 rw[List.getD_eq_getElem?_getD]
 by_cases h:j<n
 · simp[h]
 · simp[h]
theorem Zh7 {S:Nat→Prop} {O O':List OB} {w:World} {avs:List AV} {vs:List Value} (hp:O.Perm O') (h:RelL (SO S O) w avs vs):RelL (SO S O') w avs vs:=RelL.move (Keeps.refl All w) (fun _ _ hs=>⟨trivial,hs.perm hp⟩) h
section
variable {n:Rn} {P:Program} {l:List Oper} {J:WP} {S:Nat→Prop} {w0:World} {env:List (Nat×AV)} {avs:Nat→AV} {conds:Nat→Bool} {γ:Type} {F:List Bool→γ→List OB} {sv:Nat→γ→Value} {ch:List Nat}
def EffX (n:Rn) (P:Program) (J:WP) (S:Nat→Prop) (w0:World) (env:List (Nat×AV)) (l:List Oper) (avs:Nat→AV) (conds:Nat→Bool) (F:List Bool→γ→List OB) (sv:Nat→γ→Value) (ch:List Nat) (k i:Nat):Prop:=
 EffR n P J S w0 env l avs conds (fun D g=>F ((List.range ch.length).map D) g) (fun k' g=>if k'<ch.length then sv k' g else undef) ch k i
theorem Zhe {k i:Nat} {o:Oper} (cs:List (List Bool)) (hcs:Zl9 l ch k=cs) (hki:ch[k]?=some i) (ho:l[i]?=some o) (hg:o.guard=none) (hc:conds i=true)
 (core:AllB (fun b=>∀ g a w,Keeps All w0 w→XO J S w0.heap.size (F b g) w→Look (SO S (F b g)) w env l avs conds i a→(∀(k' i':Nat) (o':Oper) (d:Nat),b.getD k' false=true→ch[k']?=some i'→l[i']?=some o'→o'.dst=some d→a.eval (.tmp d)=sv k' g)→
  Does n P o a w fun v w'=>∃ g',(∀ k',b.getD k' false=true→sv k' g'=sv k' g)∧(o.dst.isSome=true→v=sv k g')∧Rel (SO S (F (b.set k true) g')) w' (avs i) v∧Zag J S w0 (F b g) w (F (b.set k true) g') w') cs):
 EffX n P J S w0 env l avs conds F sv ch k i:=by
 refine⟨o,ho,hg,hc,fun D g a w hD hpre hcl hk hx hl hs=>?_⟩
 have hkl:k<ch.length:=(List.getElem?_eq_some_iff.1 hki).1
 have hkv:ch[k]=i:=(List.getElem?_eq_some_iff.1 hki).2
 have hmem:(List.range ch.length).map D∈cs:=by
  rw[←hcs,Zl9,List.mem_filter]
  refine⟨ZkG D _,?_⟩
  simp only[Xu,Bool.and_eq_true,List.all_eq_true]
  refine⟨by simp[hD],fun p hp q hq=>?_⟩
  obtain⟨hp1,hp2⟩:=List.mem_zipIdx' hp
  obtain⟨hq1,hq2⟩:=List.mem_zipIdx' hq
  by_cases hu:ZaH l l.length p.1 q.1=true
  · have e1:ch[p.2]?=some p.1:=by rw[List.getElem?_eq_getElem hp1,hp2]
    have e2:ch[q.2]?=some q.1:=by rw[List.getElem?_eq_getElem hq1,hq2]
    rw[hu]
    simp only[Bool.not_true,Bool.false_or,Bool.and_eq_true,Bool.or_eq_true,bne_iff_ne,ne_eq,hq1,decide_true,Bool.true_and,hp1]
    refine⟨?_,?_⟩
    · by_cases e:p.2=k
      · right
        rw[e,hki]at e1
        cases e1
        exact hpre q.2 q.1 e2 hu
      · exact .inl e
    · cases hd:D p.2 with
      | false=>exact .inl rfl
      | true=>exact .inr (hcl p.2 q.2 p.1 q.1 e1 e2 hd hu)
  · simp[hu]
 have hset:(List.range ch.length).map (ZdP D k)=((List.range ch.length).map D).set k true:=by
  apply List.ext_getElem?
  intro j
  rw[List.getElem?_set]
  by_cases hj:j<ch.length
  · by_cases e:k=j
    · subst e;simp[hj,ZdP]
    · simp[hj,e,ZdP,Ne.symm (show k≠j from e)]
  · by_cases e:k=j
    · omega
    · simp[hj,e]
 have:=ZhA core hmem g a w hk hx hl fun k' i' o' d hb h1 h2 h3=>by
  rw[Xu]at hb
  simp only[Bool.and_eq_true,decide_eq_true_eq]at hb
  have:=hs k' i' o' d hb.2 h1 h2 h3
  have e:(if k'<ch.length then sv k' g else undef)=sv k' g:=if_pos hb.1
  rw[←e];exact this
 refine Zl this fun v w' ⟨g',e1,e2,e3,e4⟩=>⟨g',fun k' hk'=>?_,fun h=>by
  have e:(if k<ch.length then sv k g' else undef)=sv k g':=if_pos hkl
  show v=if k<ch.length then sv k g' else undef
  rw[e];exact e2 h,?_,?_⟩
 · by_cases hlt:k'<ch.length
   · show(if k'<ch.length then sv k' g' else undef)=if k'<ch.length then sv k' g else undef
     rw[if_pos hlt,if_pos hlt]
     exact e1 k' (by rw[Xu];simp[hlt,hk'])
   · show(if k'<ch.length then sv k' g' else undef)=if k'<ch.length then sv k' g else undef
     rw[if_neg hlt,if_neg hlt]
 · show Rel (SO S (F ((List.range ch.length).map (ZdP D k)) g')) w' (avs i) v
   rw[hset];exact e3
 · show Zag J S w0 (F ((List.range ch.length).map D) g) w (F ((List.range ch.length).map (ZdP D k)) g') w'
   rw[hset];exact e4
theorem Zh8 {Z:Prop} {N:Nat} {Q:Exit→Act→WP} {O:List OB} {a:Act} {w:World} (law:RgLaw n P l Q a w Z) (Or:List OB) (avs:Nat→AV) (conds:Nat→Bool) (env':List (Nat×(γ→AV))) (F:List Bool→γ→List OB) (sv:Nat→γ→Value) (ch:List Nat) (g0:γ) (h0:∀ g,F (ch.map fun _=>false) g=O)
 (h:So J S w0 N O env a w) (hJ:Stab J) (hu:Y4 l=true) (hN:Q9 l N=true) (hnd:ZdA ch=true)
 (hsub:∀ b g p,p∈Or→p∈F b g) (ob:Obs (ObP n P J S Or w0 env l avs conds ch) 0 l) (eff:Effs (EffX n P J S w0 env l avs conds F sv ch) 0 ch) (hf:FromGs env l avs conds (fun k' g=>if k'<ch.length then sv k' g else undef) ch env')
 (hq:∀ g a w,So J S w0 N (F (ch.map fun _=>true) g) (env'.map fun p=>(p.1,p.2 g)) a w→Q .normal a w):Z:=by
 refine ZoI law Or avs conds env' (fun D g=>F ((List.range ch.length).map D) g) (fun k' g=>if k'<ch.length then sv k' g else undef) ch g0 (fun g=>?_) h hJ hu hN hnd (fun D g p hp=>hsub _ g p hp) ob eff hf fun g a w h=>hq g a w ?_
 · rw[←h0 g]
   congr 1
   apply List.ext_getElem?
   intro j
   by_cases hj:j<ch.length<;>simp[hj]
 · have e:(List.range ch.length).map (fun k=>decide (k<ch.length))=ch.map fun _=>true:=by
    apply List.ext_getElem?
    intro j
    by_cases hj:j<ch.length<;>simp[hj]
   rw[←e]
   exact h
theorem Zal {N:Nat} {Q:Exit→Act→WP} {O:List OB} (Or:List OB) {id:Nat} {draw:Bool} {a:Act} {w:World} (avs:Nat→AV) (conds:Nat→Bool) (env':List (Nat×(γ→AV))) (F:List Bool→γ→List OB) (sv:Nat→γ→Value) (ch:List Nat) (g0:γ) (h0:∀ g,F (ch.map fun _=>false) g=O)
 (h:So J S w0 N O env a w) (hJ:Stab J) (hm:P.follows .mixedOrders=true) (hu:Y4 l=true) (hN:Q9 l N=true) (hback:Zbm l=true) (hnd:ZdA ch=true)
 (hsub:∀ b g p,p∈Or→p∈F b g) (ob:Obs (ObP n P J S Or w0 env l avs conds ch) 0 l) (eff:Effs (EffX n P J S w0 env l avs conds F sv ch) 0 ch) (hf:FromGs env l avs conds (fun k' g=>if k'<ch.length then sv k' g else undef) ch env')
 (hq:∀ g a w,So J S w0 N (F (ch.map fun _=>true) g) (env'.map fun p=>(p.1,p.2 g)) a w→Q .normal a w):(Code.region id l.toArray draw).wpIn n.F n.d P Q a w:=
 Zh8 (fun I h1 h2 h3 h4=>ZgG (I:=I) hm hback h1 h2 h3 h4) Or avs conds env' F sv ch g0 h0 h hJ hu hN hnd hsub ob eff hf hq
end
end Go.Proofs.YtdfadihhfppjaaaGreatDoor
set_option maxHeartbeats 8000000
set_option maxRecDepth 100000
namespace Go.Proofs.YtdfadihhfppjaaaGreatDoor
open Go.Proofs.Tryz (prog)
open Go.RowKit
theorem Y0:ZdG prog 37 [lI 0,lI 0,lS ⟨#[]⟩,.sl [],lI 0,lI 0]:=⟨(.agg #[.int .i64 0,.int .i64 0,.string ⟨#[]⟩,.slice none 0 0,.int .i64 0,.int .i64 0]),fun w=>by kernel_rfl,fun S w=>(show RdL S w [lI 0,lI 0,lS ⟨#[]⟩,.sl [],lI 0,lI 0] [.int .i64 0,.int .i64 0,.string ⟨#[]⟩,.slice none 0 0,.int .i64 0,.int .i64 0]from⟨.lit _ True.intro,.lit _ True.intro,.lit _ nzl,.nil _ _ nzl,.lit _ True.intro,.lit _ True.intro,U⟩)⟩
theorem Znx:ZW prog 92 4 6:=fO
theorem Zgf:ZW prog 92 2 4:=fO
theorem Qh:Xl prog 37 6:=aO
theorem ZkD:Zi prog 34:=Zm Tryz.func34 Y Y
theorem Zkq:ZmH prog 28:=fun _ _=>by kernel_rfl
theorem ZbQ:ZW prog 37 4 4:=fO
theorem ZbP:ZW prog 37 5 5:=fO
theorem Qb:Xf prog 37 6:=zO
theorem ZtY:Zi prog 143:=Zm Tryz.func143 Y Y
theorem XN:ZkO prog 158 9 22 keyS.kind:=⟨by kernel_rfl,by kernel_rfl⟩
theorem Zmr:Zi prog 119:=Zm Tryz.func119 Y Y
theorem Zde:XA prog 158:=nO
theorem Zt1:Zi prog 136:=Zm Tryz.func136 Y Y
abbrev jC (e:Db) (k:Nat) (ss:List Stp) (ts:List (List BA)) (M:Nat):List CD:=Zg e.consts::Zg e.vars::ZaU e.frames::lI (k:Int)::Yv ss::Yc ts::lI ((Yh ss:Nat):Int):: .lit (.map (some M))::[]
abbrev sRd (l:List BA):AV:=AV.rd (Zg l)
section
variable {J:WP} (hJ:Stab J)
include hJ
theorem Zpa (d:Db) (i:Nat) (ss:List Stp) (ts:List (List BA)) (M:Nat) (c:Chg) (hok:Okay ss) (hs0:0≤c.step) (hs1:c.step< (ss.length:Int)) (hca:∀ a∈c.args,0≤a∧a<c.step) (hcl:c.args.length≤40) (hc1:c.reason=2∨1≤c.args.length):Fn prog J 69 [.ptr (jC d i ss ts M),.agg (chC c)] (.tup [.agg (chC (X3 ss c)),.bool (decide ((((Y6 ss c).length:Nat):Int)< ((Yh ss:Nat):Int)))]):=by
 refine fE Tryz.func69 fun S w0 hS hJ0=>?_
 refine tw Z4 (tsq ?_)
 refine Zcf (cs:=[lI c.reason,lI c.step,lS c.label,Z3 c.args,lI c.before,lI c.after]) hJ Y Y Y (lb Y) (fun a w h=>(h.get 1 Y)) fun b1=>?_
 refine Zv Y0 hJ Y Y Y (lb Y) fun b2=>?_
 refine snK 1 tb Y (seK [1,2,3] U3 Y ?_)
 refine nx (Zf (tw pm1 (fun a w h=>Zal [OB.var b2 [lI 0,lI 0,lS (⟨#[]⟩:BA),Z3 ([]:List Int),lI 0,lI 0]] (γ:=Value) (fun ix'=>([.ptr (jC d i ss ts M),.ptr (jC d i ss ts M),.ptr [lI (((Yh ss):Nat):Int),.lit (.map (some M))],.int ((Yh ss):Nat),.ptr (jC d i ss ts M),.ptr (jC d i ss ts M),.ptr [Yv ss,Yc ts,lI (((Yh ss):Nat):Int),.lit (.map (some M))],.agg (pfC ss),.agg (chC c),.agg (pfC (Y6 ss c)),.rd (Yv (Y6 ss c)),.int ((Y6 ss c).length:Nat),.at b1 4,.any,.at b1 5,.any]:List AV).getD ix' .any) (fun _=>true) [(4,fun _=>.at b2 0),(3,fun _=>.at b1 0)] (fun(b:List Bool) (g:Value)=>(bif b.getD 2 false then [OB.var b1 [lI c.reason,lI c.step,lS c.label,Z3 c.args,lI (((Yh ss):Nat):Int),lI (((Y6 ss c).length:Nat):Int)]]else(bif b.getD 1 false then [OB.var b1 [lI c.reason,lI c.step,lS c.label,Z3 c.args,lI (((Yh ss):Nat):Int),lI c.after]]else [OB.var b1 (chC c)]))++([OB.var b2 [lI 0,lI 0,lS (⟨#[]⟩:BA),Z3 ([]:List Int),lI 0,lI 0]])) (fun k' g=>match k' with | 0=>g | _=>undef) [8,13,15] undef (fun _=>Y) h hJ Yo Y Y Y Y (fun b g p hp=>(List.mem_append_right _ hp)) ⟨?_,?_,?_,?_,?_,?_,?_,?_,?_,?_,?_,?_,?_,?_,?_,?_,U⟩ ⟨?e1_1_0,?e1_1_1,?e1_1_2,U⟩ ⟨.old 0 4 _,.old 1 3 _,U⟩ ?n1_1)))
 exact oX Y fun hx hl=>ZV Y (hl.env 2 0 _ Y Y) hx
 exact oX Y fun hx hl=>YE Y (hl.D 0 6 Y Y) hx
 exact oX Y fun hx hl=>ZG Znx Y (hl.D 1 7 Y Y) hx
 exact oX Y fun hx hl=>ZB Q2 Y (hl.D 2 8 Y Y) hx
 exact oX Y fun hx hl=>ZV Y (hl.env 2 0 _ Y Y) hx
 exact oX Y fun hx hl=>YE Y (hl.D 4 10 Y Y) hx
 exact oX Y fun hx hl=>ZG Zgf Y (hl.D 5 11 Y Y) hx
 exact oX Y fun hx hl=>QG (k:=1) Z5 Y (hl.D 6 12 Y Y) (lb Y) hx
 exact Zh Y
 exact oY Y fun hk hx hl=>ZaL (ZeD hJ ss c (by exact hok) (by exact hs0) (by exact hs1) (by exact hca) (by exact hcl) (by exact hc1)) ZkD Y (Zk hS _ hk hx) (hx.1) (Za (hl.D 7 13 Y Y) (Za (hl.D 8 14 Y Y) Zc)) (jo hJ hx)
 exact oX Y fun hx hl=>Znb (c:=Yv (Y6 ss c)) Zkq Y (hl.D 9 15 Y Y) hx
 exact oX Y fun hx hl=>Qw ZN Y (hl.D 10 16 Y Y) hx
 exact oX Y fun hx hl=>Zx ZbQ Y (hl.env 1 3 _ Y Y) hx
 exact Zh Y
 exact oX Y fun hx hl=>Zx ZbP Y (hl.env 1 3 _ Y Y) hx
 exact Zh Y
 case e1_1_0=>exact Zhe [[false,false,false]] V Y Y Y Y ⟨fun _ _ w hk hx hl _=>Zl (Yb (ds:=[lI c.reason,lI c.step,lS c.label,Z3 c.args,lI c.before,lI c.after]) Qh Y (Ze hx (mo 0 Y)) (hl.env 1 3 _ Y Y) Y Y hx) fun v w' hp=>⟨v,(fun k' hk'=>by rcases k' with _ | _ | _ | k'<;>first | rfl | cases hk'),fun _=>rfl,hp.1,Zct hJ hk hx hp.2.1⟩,U⟩
 case e1_1_1=>exact Zhe [[true,false,false]] V Y Y Y Y ⟨fun g _ w hk hx hl _=>Zl (ZcS (off:=4) (es:=U6) (c:=lI (((Yh ss):Nat):Int)) hJ hJ0 QM Y hk hx (hl.D 12 18 Y Y) (hl.D 3 9 Y Y) (lb Y) Y) fun v w' hp=>⟨g,fun _ _=>rfl,fun e=>(by cases e),True.intro,hp⟩,U⟩
 case e1_1_2=>exact Zhe [[true,true,false]] V Y Y Y Y ⟨fun g _ w hk hx hl _=>Zl (ZcS (off:=5) (es:=U6) (c:=lI (((Y6 ss c).length:Nat):Int)) hJ hJ0 QM Y hk hx (hl.D 14 19 Y Y) (hl.D 11 17 Y Y) (lb Y) Y) fun v w' hp=>⟨g,fun _ _=>rfl,fun e=>(by cases e),True.intro,hp⟩,U⟩
 clear a w h
 intro x3
 dsimp only[List.map]
 refine nx (Zf (tw pm1 (fun a w h=>Zal [OB.var b1 [lI c.reason,lI c.step,lS c.label,Z3 c.args,lI (((Yh ss):Nat):Int),lI (((Y6 ss c).length:Nat):Int)]] (γ:=Unit) (fun ix'=>([.agg [lI c.reason,lI c.step,lS c.label,Z3 c.args,lI (((Yh ss):Nat):Int),lI (((Y6 ss c).length:Nat):Int)],.at b1 5,.int ((Y6 ss c).length:Nat),.at b1 4,.int ((Yh ss):Nat),.bool (decide ((((Y6 ss c).length:Nat):Int)< (((Yh ss):Nat):Int))),.any,.bool (decide ((((Y6 ss c).length:Nat):Int)< (((Yh ss):Nat):Int)))]:List AV).getD ix' .any) (fun _=>true) [(4,fun _=>.at b2 0),(5,fun _=>.bool (decide ((((Y6 ss c).length:Nat):Int)< (((Yh ss):Nat):Int))))] (fun(b:List Bool) (g:Unit)=>(bif b.getD 0 false then [OB.var b2 [lI c.reason,lI c.step,lS c.label,Z3 c.args,lI (((Yh ss):Nat):Int),lI (((Y6 ss c).length:Nat):Int)]]else [OB.var b2 [lI 0,lI 0,lS (⟨#[]⟩:BA),Z3 ([]:List Int),lI 0,lI 0]])++([OB.var b1 [lI c.reason,lI c.step,lS c.label,Z3 c.args,lI (((Yh ss):Nat):Int),lI (((Y6 ss c).length:Nat):Int)]])) (fun _ _=>undef) [6] () (fun _=>Y) h hJ Yo Y Y Y Y (fun b g p hp=>(List.mem_append_right _ hp)) ⟨?_,?_,?_,?_,?_,?_,?_,?_,U⟩ ⟨?e2_2_0,U⟩ ⟨.old 0 4 _,.new 7 5 _,U⟩ ?n2_2)))
 exact fun _ O' hO'=>⟨Y,fun _ _ _ hx hl _=>Yb (ds:=[lI c.reason,lI c.step,lS c.label,Z3 c.args,lI (((Yh ss):Nat):Int),lI (((Y6 ss c).length:Nat):Int)]) Qh Y (Ze hx (hO' _ (mo 0 Y))) (hl.env 1 3 _ Y Y) Y Y hx⟩
 exact oX Y fun hx hl=>Zx ZbP Y (hl.env 1 3 _ Y Y) hx
 exact fun _ O' hO'=>⟨Y,fun _ _ _ hx hl _=>Zo Q2 Y (Ze hx (hO' _ (mo 0 Y))) (hl.D 1 21 Y Y) Y hx⟩
 exact oX Y fun hx hl=>Zx ZbQ Y (hl.env 1 3 _ Y Y) hx
 exact fun _ O' hO'=>⟨Y,fun _ _ _ hx hl _=>Zo Q2 Y (Ze hx (hO' _ (mo 0 Y))) (hl.D 3 23 Y Y) Y hx⟩
 exact oX Y fun hx hl=>Zv3 Y (hl.D 2 22 Y Y) (hl.D 4 24 Y Y) hx
 exact Zh Y
 exact oX Y fun hx hl=>YA Y (hl.D 5 25 Y Y) hx
 case e2_2_0=>exact Zhe [[false]] V Y Y Y Y ⟨fun g _ w hk hx hl _=>(by obtain⟨us2,hv2,hr3⟩:=Q0 (hl.D 0 20 Y Y);exact Zl (Xz (off:=0) (news:=U6) (es:=U6) (us:=us2) hJ hJ0 Qb Y hk hx (hl.env 0 4 _ Y Y) (by rw[hv2];rfl) hr3 (lb Y) Y) fun v w' hp=>⟨g,fun _ _=>rfl,fun e=>(by cases e),True.intro,hp⟩),U⟩
 clear a w h
 intro _
 dsimp only[List.map]
 exact nx (Zs (fun a w h=>Zay (m:=0) (q:=1) Y Qh h Y Y (show(_:List CD)=[lI ((X3 ss c).reason),lI ((X3 ss c).step),lS ((X3 ss c).label),Z3 ((X3 ss c).args),lI ((X3 ss c).before),lI ((X3 ss c).after)]from Y) Y (eB (Y))))
theorem Zng (h:Hy) (s:BA) (hf:h.floating=true→1<h.text.length):Fn prog J 143 [.agg (hyC h),.ptr [lS s]] (.bool (h.floating&&decide (ge h.text 1=s))):=by
 refine fE Tryz.func143 fun S w0 hS hJ0=>?_
 clear hJ0
 refine hqs tb hJ [1,1000] [.ptr (hyC h),_] [0] U2 Y ⟨iBs hS hJ,U⟩ ?_
 refine hqs tb hJ [1010] (V5 [.ptr [lS (ge h.text 1)],_,_,_,_,_]) [5] [_] Y ⟨gIx (k:=1) Zj (hk:=fun(hc':(h.floating==true)=true)=>by(try simp at hc');exact hf hc'),U⟩ ?_
 exact tRn 0 (hE:=eB (by first | rfl | grind[Zp]))
theorem ZgR (xs:List Hy) (f:FuncId) (caps:List AV) (Os:List OB) (p:Hy→Bool) (hf:∀ q'∈xs,FnR prog J f Os ([.agg (hyC (q'))]++caps) (.bool (p q'))) (hk0:Zi prog f):FnR prog J 187 Os [.rd (XQ xs),.fn f caps] (.int (Qj p xs)):=by
 refine fER Tryz.func187 fun S w0 hS hJ0 hH=>?_
 clear hJ0
 refine ln 0 fun hl1=>?_
 refine qs tb hJ [0,1] [_] U2 ?_
 refine Zf (hqs tb hJ [0,1,1001,1002] [_,.int (xs.length:Nat),_] [1] U4 Y ⟨Ym ZC,U⟩ ?_)
 refine Zd (lp (ι:=Nat) (fun k=>(k≤xs.length)∧(∀ j,j<k→p (ge xs j)=false)) (fun k=>[(8,.int (k:Nat))]) (fun k=>xs.length-k) [0,1,2,3] U3 0 ⟨nzl,fun j hj=>by omega⟩ ?_)
 rintro k ⟨f1_1,f1_2⟩
 refine qs tb hJ [0,1,2,3,1000] [_] U5 ?_
 refine cjS 4 (fun hb1=>?_) fun hb1=>?_
 ·
  try simp at hb1
  refine Zb (nx (Zf (Zd (qs tb hJ [0,1,2,3,1001] U2 U5 ?_))))
  refine hqs tb hJ (r5 [1005]) (V3 [.ptr (hyC (ge xs k)),_,.bool (p (ge xs k))]) [3,5] U6 Y ⟨iIx ZI,fun _ _ hk hx hl _=>Zax (hf (ge xs k) (Zp oz)) hk0 Y (hl.D 0 11 Y Y) (nm hS hk) (hx) (fun _ ho=>YZ hH hk ho) (Za (hl.D 4 15 Y Y) Zc) (js hJ hx),U⟩ ?_
  refine cj 5 (fun hb2=>?_) fun hb2=>?_
  ·
   try simp at hb2
   refine qs tb hJ [1001] U2 [_] ?_
   exact tRn 0 (hE:=eI (by first | exact(Xh hb1 hb2 f1_2).symm | exact(YV fun j hj=>f1_2 j oz).symm))
  ·
   try simp at hb2
   refine Zb (nx (hqp tb hJ [0,1,2,1001] [.int (k+1:Nat),_] [0] U4 Y ⟨YT,U⟩ ?_))
   exact lpE (k+1) [0,1,2,3] ⟨oz,Z2 f1_2 hb2⟩
 ·
  try simp at hb1
  refine Zu (nx (qs tb hJ [1000] [_] [_] ?_))
  exact tRn 0 (hE:=eI (by first | exact(Xh hb1 hb2 f1_2).symm | exact(YV fun j hj=>f1_2 j oz).symm))
theorem ZdK (xs:List Hy) (f:FuncId) (caps:List AV) (Os:List OB) (p:Hy→Bool) (hf:∀ q'∈xs,FnR prog J f Os ([.agg (hyC (q'))]++caps) (.bool (p q'))) (hk0:Zi prog f):FnR prog J 142 Os [.rd (XQ xs),.fn f caps] (.bool (xs.any p)):=by
 refine fER Tryz.func142 fun S w0 hS hJ0 hH=>?_
 clear hJ0
 refine ln 0 fun hl1=>?_
 refine qs tb hJ [0,1] [_] U2 ?_
 refine hqs tb hJ [1004] [_,_,.int (Qj p xs),_,_] [2] [_] Y ⟨fun _ _ hk hx hl _=>Y3 (ZgR hJ xs f caps Os p (hf) (hk0)) Zho Y (nm hS hk) (hx) (fun _ ho=>YZ hH hk ho) (Za (hl.D 0 5 Y Y) (Za (hl.D 1 6 Y Y) Zc)) (js hJ hx),U⟩ ?_
 exact tRn 0 (hE:=eB (by rw[←Zbf]))
theorem Zih (g:Fr) (s:BA) (hfl:∀ h∈g.hyps,h.floating=true→h.text.length=2):Fn prog J 119 [.agg (frC g),.str s] (.bool (ZlP g.hyps s)):=by
 refine fE Tryz.func119 fun S w0 hS hJ0=>?_
 clear hJ0
 refine hqs tb hJ [1000,1001] [.ptr (frC g),.ptr [lS s],_] [0,1] U2 Y ⟨iBs hS hJ,fun _ _ hk hx hl _=>ZaM Y (hl.env 1 1 _ Y Y) (hS _ hk.size) (js hJ hx),U⟩ ?_
 refine hqs tb hJ [1001,1004] [_,_,.fn 143 [.ptr [lS s]],.bool (g.hyps.any (fun h'=>h'.floating&&decide (ge h'.text 1=s))),_] [2,3] U2 Y ⟨fun _ _ _ hx hl _=>YR (caps:=[(.tmp 3)]) Y (Za (hl.env 1 3 _ Y Y) Zc) hx,fun _ _ hk hx hl _=>Y3 (ZdK hJ g.hyps 143 [.ptr [lS s]] [] (fun h'=>h'.floating&&decide (ge h'.text 1=s)) (fun q' hq'=>(Zng hJ q' s (fun e=>by have:=hfl q' hq' e;omega)).rr) (ZtY)) Zmp Y (nm hS hk) (hx) Zq (Za (hl.D 1 6 Y Y) (Za (hl.D 2 7 Y Y) Zc)) (js hJ hx),U⟩ ?_
 refine ln 0 fun hl1=>?_
 exact tRn 1 (hE:=eB (Y))
theorem ZgP (mb:Nat) (Mb:BM) (g:Fr) (p t:List BA) (hfl:∀ h∈g.hyps,h.floating=true→h.text.length=2):FnR prog J 94 [OB.map keyS sRd mb Mb] [.lit (.map (some mb)),.agg (frC g),.rd (Zg p),.rd (Zg t)] (.tup [.bool ((XJ g.hyps Mb p t).1),.bool ((XJ g.hyps Mb p t).2)]):=by
 refine fER Tryz.func94 fun S w0 hS hJ0 hH=>?_
 refine tw Z4 (ln 2 fun hl1=>?_)
 refine ln 3 fun hl2=>?_
 refine ZF tb hJ [0,2,3,1000] [.ptr (frC g),_,_] [0] U4 Y ⟨iBo hS hJ,U⟩ ?_
 refine Zf (ZF tb hJ [0,2,3,1000,1001,1002] [_,.int (p.length:Nat),_] [1] U6 Y ⟨Ym ZA,U⟩ ?_)
 refine Zd (lpo (ι:=Nat×(List BA)) (fun(k,tx)=>(k≤p.length)∧(XJ g.hyps Mb p t=XJ g.hyps Mb (p.drop k) tx)) (fun(_,_)=>[]) (fun(k,tx)=>[(16,.int (k:Nat)),(3,.rd (Zg tx))]) (fun(k,_)=>p.length-k) [0,2,3,4,5,1] U4 (0,t) ⟨nzl,Y⟩ ?_)
 rintro⟨k,tx⟩ ⟨f1_1,f1_2⟩
 refine qso tb hJ (r6 [1000]) [_] U7 ?_
 refine ln 5 fun hl3=>?_
 refine cjS 6 (fun hb1=>?_) fun hb1=>?_
 ·
  try simp at hb1
  refine Zb (nx (Zf (Zd (ZF tb hJ (r6 [1002]) [.ptr [lS (ge p k)],_,_] [0] U7 Y ⟨iIx Zj,U⟩ ?_))))
  refine ZF tb hJ (r7 [1004,1006,1007]) [_,_,.tup [.rd (Zg ((Zy Mb (ge p k)).getD default)),.bool ((Zy Mb (ge p k)).isSome)],_,_,_,_,_] [2] U10 Y ⟨fun _ _ hk hx hl _=>XD (Kd:=keyS) (f:=sRd) (L:=Mb) XN QI (ge p k) Y (ZJ hH hk hx (mo 0 Y)) (hl.D 0 21 Y Y) (hl.D 1 22 Y Y) hx,U⟩ ?_
  refine ln 7 fun hl4=>?_
  refine Zd (ZF tb hJ (r7 [8,9,1016]) (V3 [.int (((Zy Mb (ge p k)).getD default).length:Nat),_,.int (tx.length:Nat),_,_,_,_,_,_,.int (((Zy Mb (ge p k)).getD default).length:Nat),.rd (Zg (tx.take (((Zy Mb (ge p k)).getD default).length))),.bool (decide (((Zy Mb (ge p k)).getD default)=(tx.take (((Zy Mb (ge p k)).getD default).length)))),_,_]) [3,5,12,13,14] U10 Y ⟨Ym ZA,Ym ZA,Ym ZA,fun _ _ _ hx hl hc=>Zam (ys:=tx.take (((Zy Mb (ge p k)).getD default).length)) (lo:=0) (hi:=((Zy Mb (ge p k)).getD default).length) List.drop_zero Zj (fun _=>Y) Y (hl.D 10 39 Y hc) Y (hl.D 12 41 Y hc) (by have hc':((((Zy Mb (ge p k)).isSome)&& (decide (((((Zy Mb (ge p k)).getD default).length:Nat):Int)≤(tx.length:Int))))==true)=true:=hc;(try simp at hc');(first | omega | (simp;omega) | grind[Zp])) (by have hc':((((Zy Mb (ge p k)).isSome)&& (decide (((((Zy Mb (ge p k)).getD default).length:Nat):Int)≤(tx.length:Int))))==true)=true:=hc;(try simp at hc');(first | omega | (simp;omega) | grind[Zp])) hx,iFo hS hJ (ZdR hJ ((Zy Mb (ge p k)).getD default) (tx.take (((Zy Mb (ge p k)).getD default).length))) Zhm,U⟩ ?_)
  refine cj 9 (fun hb2=>?_) fun hb2=>?_
  ·
   refine YU tb hJ (r5 [1003,1004]) [_,_,.int (((Zy Mb (ge p k)).getD default).length:Nat),.rd (Zg (tx.drop (((Zy Mb (ge p k)).getD default).length))),_] [2,3] U7 Y ⟨Ym ZA,fun _ _ _ hx hl _=>Zam (ys:=tx.drop (((Zy Mb (ge p k)).getD default).length)) (lo:=((Zy Mb (ge p k)).getD default).length) (hi:=tx.length) (by rw[List.take_length]) Zj (fun _=>Y) Y (hl.D 0 45 Y Y) (hl.D 2 47 Y Y) Y sfz sfz hx,U⟩ ?_
   refine nx (ln 5 fun hl5=>?_)
   refine YU tb hJ [0,1,2,3,6,1001] [.int (k+1:Nat),_] [0] U6 Y ⟨YT,U⟩ ?_
   exact Xk (k+1,tx.drop (((Zy Mb (ge p k)).getD default).length)) [0,1,2,3,5,4] ⟨oz,by first | exact bgI f1_2 oz hb2 | exact bgS f1_2 oz hb3 hb4 hb5⟩
  ·
   refine qso tb hJ (r7 [1001]) U2 U8 ?_
   refine cj 7 (fun hb3=>?_) fun hb3=>?_
   ·
    have e9:=bgN f1_2 oz hb2 hb3
    refine qso tb hJ [1000,1001] U2 U2 ?_
    exact Zs (fun a w h=>Yz (m:=0) (k:=1) Y (ZY h) Y Y (eB (by first | (rw[e9];done) | (rw[e9];simp))) (eB (by first | (rw[e9];done) | (rw[e9];simp))))
   ·
    refine ZF tb hJ (r7 [1003]) [_,_,.bool (ZlP g.hyps (ge p k)),_] [2] U8 Y ⟨iFo hS hJ (Zih hJ g (ge p k) (by exact hfl)) Zmr,U⟩ ?_
    refine cj 7 (fun hb4=>?_) fun hb4=>?_
    ·
     have e9:=bgF f1_2 oz hb3 hb4
     refine qso tb hJ [1000,1001] U2 U2 ?_
     exact Zs (fun a w h=>Yz (m:=0) (k:=1) Y (ZY h) Y Y (eB (by first | (rw[e9];done) | (rw[e9];simp))) (eB (by first | (rw[e9];done) | (rw[e9];simp))))
    ·
     refine ZF tb hJ (r6 [1010]) [_,.int (tx.length:Nat),_,_,_,.ptr [lS (ge tx 0)],_,_,_,_,_] [1,5] U7 Y ⟨Ym ZA,gIx (k:=0) Zj (hk:=fun(hc':((decide ((tx.length:Int)=(0:Int)))==false)=true)=>by(try simp at hc');first | omega | (simp;omega) | grind[Zp]),U⟩ ?_
     refine cj 6 (fun hb5=>?_) fun hb5=>?_
     ·
      have e9:=bgE f1_2 oz hb3 hb4 hb5
      refine qso tb hJ [1000,1001] U2 U2 ?_
      exact Zs (fun a w h=>Yz (m:=0) (k:=1) Y (ZY h) Y Y (eB (by first | (rw[e9];done) | (rw[e9];simp))) (eB (by first | (rw[e9];done) | (rw[e9];simp))))
     ·
      refine YU tb hJ (r5 [1001,1002]) [_,.rd (Zg (tx.drop 1)),_] [1] U7 Y ⟨fun _ _ _ hx hl _=>Zam (ys:=tx.drop 1) (lo:=1) (hi:=tx.length) (by rw[List.take_length]) Zj (fun _=>Y) Y (hl.D 0 26 Y Y) (Rel.of_lit (.int .i64 1)) Y sfz sfz hx,U⟩ ?_
      refine nx (ln 5 fun hl6=>?_)
      refine YU tb hJ [0,1,2,3,6,1001] [.int (k+1:Nat),_] [0] U6 Y ⟨YT,U⟩ ?_
      exact Xk (k+1,tx.drop 1) [0,1,2,3,5,4] ⟨oz,by first | exact bgI f1_2 oz hb2 | exact bgS f1_2 oz hb3 hb4 hb5⟩
 ·
  try simp at hb1
  have e9:=bg_end f1_2 oz
  refine Zu (nx (ZF tb hJ [1003,1004] [_,.int (tx.length:Nat),_,_,_] [1] U2 Y ⟨Ym ZA,U⟩ ?_))
  exact Zs (fun a w h=>Yz (m:=0) (k:=1) Y (ZY h) Y Y (eB (by first | (rw[e9];done) | (rw[e9];simp))) (eB (by first | (rw[e9];done) | (rw[e9];simp))))
theorem Zr9 (mb:Nat) (Mb:BM) (g:Fr) (s:BA) (hfl:∀ h∈g.hyps,h.floating=true→h.text.length=2):FnR prog J 136 [OB.map keyS sRd mb Mb] [.str s,.ptr [.lit (.map (some mb))],.ptr (frC g)] (.bool (!(Zy Mb s).isSome&&ZlP g.hyps s)):=by
 refine fER Tryz.func136 fun S w0 hS hJ0 hH=>?_
 refine tw Z4 (qso tb hJ [0,1,2] [_] U3 ?_)
 refine ZF tb hJ [0,2,1004,1006,1007] [_,_,.tup [.rd (Zg ((Zy Mb s).getD default)),.bool ((Zy Mb s).isSome)],_,_,_,_,_] [2] U5 Y ⟨fun _ _ hk hx hl _=>XD (Kd:=keyS) (f:=sRd) (L:=Mb) XN QI s Y (ZJ hH hk hx (mo 0 Y)) (hl.D 0 8 Y Y) (hl.D 1 9 Y Y) hx,U⟩ ?_
 refine ln 2 fun hl1=>?_
 refine ZF tb hJ [1007] (V5 [.bool (ZlP g.hyps s),_,_]) [5] [_] Y ⟨fun _ _ hk hx hl hc=>ZaL (Zih hJ g s (by have hc':((!((Zy Mb s).isSome))==true)=true:=hc;(try simp at hc');(exact hfl))) Zmr Y (Zk hS _ hk hx) (hx.1) (Za (hl.D 3 16 Y hc) (Za (hl.D 4 17 Y hc) Zc)) (jo hJ hx),U⟩ ?_
 exact tRo 0 (hE:=eB (by first | rfl | grind[Zp]))
theorem Zwe (mb:Nat) (Mb:BM) (g:Fr) (t:List BA) (hfl:∀ h∈g.hyps,h.floating=true→h.text.length=2):FnR prog J 104 [OB.map keyS sRd mb Mb] [.lit (.map (some mb)),.agg (frC g),.rd (Zg t)] (.bool (ZxS g.hyps Mb t)):=by
 refine fER Tryz.func104 fun S w0 hS hJ0 hH=>?_
 refine tw Z4 (ln 2 fun hl1=>?_)
 refine ZF tb hJ [2,1000,1001] [.ptr [.lit (.map (some mb))],.ptr (frC g),_] [0,1] U3 Y ⟨fun _ _ hk hx hl _=>ZaM Y (hl.env 0 0 _ Y Y) (Zk hS _ hk hx _ nlr) (jo hJ hx),iBo hS hJ,U⟩ ?_
 refine ZF tb hJ [1004] [_,.fn 136 [.ptr [.lit (.map (some mb))],.ptr (frC g)],.bool (t.any (fun s'=>!(Zy Mb s').isSome&&ZlP g.hyps s')),_,_] [1,2] [_] Y ⟨fun _ _ _ hx hl _=>YR (caps:=[(.tmp 3),(.tmp 4)]) Y (Za (hl.env 1 3 _ Y Y) (Za (hl.env 2 4 _ Y Y) Zc)) hx,fun _ _ hk hx hl _=>Y3 (XE hJ t 136 [.ptr [.lit (.map (some mb))],.ptr (frC g)] [OB.map keyS sRd mb Mb] (fun s'=>!(Zy Mb s').isSome&&ZlP g.hyps s') (fun q'=>Zr9 hJ mb Mb g q' hfl) (Zt1)) ZcV Y (Zk hS _ hk hx) (hx.1) (ZH (ZJ hH hk hx (mo 0 Y)) Zq) (Za (hl.D 0 7 Y Y) (Za (hl.D 1 8 Y Y) Zc)) (jo hJ hx),U⟩ ?_
 exact tRo 0 (hE:=eB (Y))
end
end Go.Proofs.YtdfadihhfppjaaaGreatDoor
namespace Go.Proofs
open Go.Shelf
def Tryz.sortB_ren:Go.Shelf.Ren:=⟨fun | 6=>124 | 15=>151 | 14=>150 | 28=>197 | 29=>198 | 20=>189 | 21=>190 | 22=>191 | 23=>192 | 24=>193 | 25=>194 | 26=>195 | 27=>196 | 46=>229 | 47=>230 | 48=>231 | 49=>232 | 50=>233 | 57=>252 | n=>n,fun | 22=>165 | 24=>182 | 25=>205 | 3=>3 | 39=>230 | 0=>0 | 53=>266 | 55=>268 | 4=>4 | 46=>260 | 45=>259 | 50=>172 | 5=>5 | 9=>9 | 66=>294 | 70=>298 | 76=>313 | 77=>314 | n=>n,fun | n=>n⟩
theorem Tryz.sortB:Go.Proofs.SlLaysF0.n6 Tryz.prog Tryz.sortB_ren:= {
 mixed:=by kernel_rfl
 f6:=⟨Tryz.f124.name,by decide,Tryz.func124.trans (congrArg some (by kernel_rfl))⟩
 f14:=⟨Tryz.f150.name,by decide,Tryz.func150.trans (congrArg some (by kernel_rfl))⟩
 f15:=Tryz.func151.trans (congrArg some (by kernel_rfl))
 f20:=⟨Tryz.f189.name,by decide,Tryz.func189.trans (congrArg some (by kernel_rfl))⟩
 f21:=⟨Tryz.f190.name,by decide,Tryz.func190.trans (congrArg some (by kernel_rfl))⟩
 f22:=⟨Tryz.f191.name,by decide,Tryz.func191.trans (congrArg some (by kernel_rfl))⟩
 f23:=⟨Tryz.f192.name,by decide,Tryz.func192.trans (congrArg some (by kernel_rfl))⟩
 f24:=⟨Tryz.f193.name,by decide,Tryz.func193.trans (congrArg some (by kernel_rfl))⟩
 f25:=⟨Tryz.f194.name,by decide,Tryz.func194.trans (congrArg some (by kernel_rfl))⟩
 f26:=⟨Tryz.f195.name,by decide,Tryz.func195.trans (congrArg some (by kernel_rfl))⟩
 f27:=⟨Tryz.f196.name,by decide,Tryz.func196.trans (congrArg some (by kernel_rfl))⟩
 f28:=Tryz.func197.trans (congrArg some (by kernel_rfl))
 f29:=Tryz.func198.trans (congrArg some (by kernel_rfl))
 f46:=⟨Tryz.f229.name,by decide,Tryz.func229.trans (congrArg some (by kernel_rfl))⟩
 f47:=Tryz.func230.trans (congrArg some (by kernel_rfl))
 f48:=Tryz.func231.trans (congrArg some (by kernel_rfl))
 f49:=⟨Tryz.f232.name,by decide,Tryz.func232.trans (congrArg some (by kernel_rfl))⟩
 f50:=⟨Tryz.f233.name,by decide,Tryz.func233.trans (congrArg some (by kernel_rfl))⟩
 f57:=⟨Tryz.f252.name,by decide,Tryz.func252.trans (congrArg some (by kernel_rfl))⟩
 t0:=Tryz.underlying0
 a0:=Tryz.isAgg0
 z0:=Tryz.sizeOf0
 v0:=Tryz.zeroValue0
 t3:=Tryz.underlying3
 a3:=Tryz.isAgg3
 z3:=Tryz.sizeOf3
 v3:=Tryz.zeroValue3
 t4:=Tryz.underlying4
 a4:=Tryz.isAgg4
 z4:=Tryz.sizeOf4
 v4:=Tryz.zeroValue4
 t5:=Tryz.underlying5
 a5:=Tryz.isAgg5
 z5:=Tryz.sizeOf5
 v5:=Tryz.zeroValue5
 t9:=Tryz.underlying9
 a9:=Tryz.isAgg9
 z9:=Tryz.sizeOf9
 v9:=Tryz.zeroValue9
 t22:=Tryz.underlying165
 a22:=Tryz.isAgg165
 z22:=Tryz.sizeOf165
 v22:=Tryz.zeroValue165
 t25:=Tryz.underlying205
 a25:=Tryz.isAgg205
 z25:=Tryz.sizeOf205
 v25:=Tryz.zeroValue205
 t39:=Tryz.underlying230
 a39:=Tryz.isAgg230
 z39:=Tryz.sizeOf230
 v39:=Tryz.zeroValue230
 t45:=Tryz.underlying259
 a45:=Tryz.isAgg259
 z45:=Tryz.sizeOf259
 v45:=Tryz.zeroValue259
 t46:=Tryz.underlying260
 a46:=Tryz.isAgg260
 z46:=Tryz.sizeOf260
 v46:=Tryz.zeroValue260
 t50:=Tryz.underlying172
 a50:=Tryz.isAgg172
 z50:=Tryz.sizeOf172
 v50:=Tryz.zeroValue172
 t53:=Tryz.underlying266
 a53:=Tryz.isAgg266
 z53:=Tryz.sizeOf266
 v53:=Tryz.zeroValue266
 t55:=Tryz.underlying268
 a55:=Tryz.isAgg268
 z55:=Tryz.sizeOf268
 v55:=Tryz.zeroValue268
 t66:=Tryz.underlying294
 a66:=Tryz.isAgg294
 z66:=Tryz.sizeOf294
 v66:=Tryz.zeroValue294
 t70:=Tryz.underlying298
 a70:=Tryz.isAgg298
 z70:=Tryz.sizeOf298
 v70:=Tryz.zeroValue298
 t76:=Tryz.underlying313
 a76:=Tryz.isAgg313
 z76:=Tryz.sizeOf313
 v76:=Tryz.zeroValue313
 t77:=Tryz.underlying314
 a77:=Tryz.isAgg314
 z77:=Tryz.sizeOf314
 v77:=Tryz.zeroValue314 }
end Go.Proofs
set_option maxHeartbeats 8000000
set_option maxRecDepth 100000
namespace Go.Proofs.YtdfadihhfppjaaaGreatDoor
open Go.RowKit
open Go.Sort Go.Shelf
theorem ZnG (x y:BA) (u v:Value) (hx:x.size≤maxLen) (hy:y.size≤maxLen) (hu:okLit u) (hv:okLit v) (W:World):Calls Tryz.prog 125 #[.agg #[.string x,u],.agg #[.string y,v]] W fun e w'=>e= .returned (.int .i64 (ZaC x y))∧Ex W w':=by
 have r1:∀(s:BA) (z:Value),s.size≤maxLen→okLit z→Rel (fun _=>True) W (.agg [.lit (.string s),.lit z]) (.agg #[.string s,z]):=fun s z h1 h2=>by
  simp only[Rel]
  exact⟨[.string s,z],rfl,.lit _ h1,.lit _ h2,trivial⟩
 have ha:RelL (fun _=>True) W [.agg [.lit (.string x),.lit u],.agg [.lit (.string y),.lit v]] [.agg #[.string x,u],.agg #[.string y,v]]:=Za (r1 x u hx hu) (Za (r1 y v hy hv) Zc)
 obtain⟨g1,g2⟩:=Qo (N:=10) (M:=10) yz rfl ha
 refine(callsIn_wide (n:=5)).1 (callsIn_of_wp Tryz.func125 rfl trivial ?_ rfl)
 suffices h:Tr 5 Tryz.prog (St All (fun _=>True) W 10 (Y2 0 [.agg [.lit (.string x),.lit u],.agg [.lit (.string y),.lit v]]) (Ex W)) _ _ from h _ _ ⟨rfl,g1,Keeps.refl _ _,Zqm W,g2⟩
 refine tsq (sy (.ptr [.lit (.string x),.lit u]) (fun h=>Zro rfl (h.get 0 rfl) trivial h.x) ?_)
 refine sy (.ptr [.lit (.string y),.lit v]) (fun h=>Zro rfl (h.get 2 rfl) trivial h.x) ?_
 refine sy (.int 0) (fun h=>YA rfl (Rel.of_lit _) h.x) ?_
 refine seK [1,2] [_,_] rfl (nx (tsq ?_))
 refine sy (.ptr [.lit (.string x),.lit u]) (fun h=>ZG Ze5 rfl (h.get 1 rfl) h.x) ?_
 refine sy (.str x) (fun h=>ZB Qx rfl (h.get 0 rfl) h.x) ?_
 refine sy (.ptr [.lit (.string y),.lit v]) (fun h=>ZG Ze5 rfl (h.get 2 rfl) h.x) ?_
 refine sy (.str y) (fun h=>ZB Qx rfl (h.get 0 rfl) h.x) ?_
 refine sq (.int (ZaC x y)) rfl rfl (lb rfl) (fun a w h=>ZkR (args:=[.tmp 6,.tmp 8]) (vs:=[.string x,.string y]) ZcX rfl (by rw[List.map_cons,List.map_cons,List.map_nil,(h.get 2 rfl).lit,(h.get 0 rfl).lit]) (ZqC _ _ _) True.intro h.x) ?_
 refine sy (.int (ZaC x y)) (fun h=>YA rfl (h.get 0 rfl) h.x) ?_
 refine seK [0] [_] rfl (Zs fun a w h=>⟨h.defs,a.tmps.getD 4 undef,by simp[results,Tryz.results125,Sem.run_pure],?_,h.x⟩)
 rw[show a.tmps.getD 4 undef= .int .i64 (ZaC x y)from(h.get 0 rfl).lit]
abbrev BdV:Type:= {p:Bd×Value // p.1.var.size≤maxLen∧okLit p.2∧p.2.oneCell'=true}
instance instInhBdV:Inhabited BdV:=⟨⟨(⟨⟨#[]⟩,[]⟩,.slice none 0 0),nzl,True.intro,rfl⟩⟩
def Zfu (p:BdV):List Value:=[.string p.1.1.var,p.1.2]
def cfV (p q:BdV):Int:=ZaC p.1.1.var q.1.1.var
theorem ltV (p q:BdV):ltOf cfV p q=Op.bytesLess p.1.1.var.toList q.1.1.var.toList:=by
 unfold ltOf cfV
 by_cases h:Op.bytesLess p.1.1.var.toList q.1.1.var.toList=true
 · rw[decide_eq_true (cmpX_lt.2 h),h]
 · rw[decide_eq_false (fun h2=>h (cmpX_lt.1 h2))]
   simpa using h
theorem swoV:Go.Sort.SWO (ltOf cfV) where
 irrefl x:=by rw[ltV];exact Zac _
 trans x y z h1 h2:=by rw[ltV]at*;exact Zbj _ _ _ h1 h2
 ntrans x y z h1 h2:=by
  rw[ltV]at*
  cases h3:Op.bytesLess x.1.1.var.toList z.1.1.var.toList with
  | false=>rfl
  | true=>
   cases h4:Op.bytesLess y.1.1.var.toList x.1.1.var.toList with
   | true=>rw[Zbj _ _ _ h4 h3]at h2;cases h2
   | false=>rw[ZbW _ _ h1 h4,h2]at h3;cases h3
theorem Zti (blk off size:Nat) (w:World):CmpLays Tryz.prog 125 #[] Zfu 2 cfV blk off size w:=fun m os dk _ x y=>by
 have:=ZnG x.1.1.var y.1.1.var x.1.2 y.1.2 x.2.1 y.2.1 x.2.2.1 y.2.2.1 (sortWorldK Zfu 2 w blk off m dk os)
 rw[Array.append_empty]
 exact this
theorem Zq4 {S:Nat→Prop} {w:World}:∀ {ps:List Bd} {us:List Value},RdL S w (ps.map bdC).flatten us→∃ zs:List BdV,zs.map (·.1.1)=ps∧us=zs.flatMap Zfu∧∀ z∈zs,Rd S w (Zg z.1.1.text) z.1.2
 | [],us,h=>by
  have:=h.length
  simp at this
  exact⟨[],rfl,by simpa using this,by simp⟩
 | p::ps,us,h=>by
  match us,h with
  | u1::u2::us,⟨h1,h2,h3⟩=>
   obtain⟨zs,e1,e2,e3⟩:=Zq4 (ps:=ps) h3
   have ok1:p.var.size≤maxLen:=by cases h1 with | lit _ hv=>exact hv
   have ok2:okLit u2:=by obtain⟨ad,cap,e,_,_⟩:=h2.form;rw[e];exact True.intro
   refine⟨⟨(p,u2),ok1,ok2,h2.one⟩::zs,by rw[List.map_cons,e1],by rw[h1.of_lit,e2];rfl,fun z hz=>?_⟩
   rcases List.mem_cons.1 hz with rfl | hz
   · exact h2
   · exact e3 z hz
theorem bd_rd {S:Nat→Prop} {w:World}:∀ {zs:List BdV},(∀ z∈zs,Rd S w (Zg z.1.1.text) z.1.2)→RdL S w ((zs.map (·.1.1)).map bdC).flatten (zs.flatMap Zfu)
 | [],_=>trivial
 | z::zs,h=>⟨.lit _ z.2.1,h z yz,bd_rd fun q hq=>h q (by simp[hq])⟩
theorem Zwi {J:WP} (hJ:Stab J) (v:Value) (ps:List Bd) (hn:ps.length≤140737488355328):FnM (ι:= {qs:List Bd // qs.Perm ps∧WkB qs}) Tryz.prog J 124 [] [.lit v,.fn 125 []] [OB.row v 182 2 (ps.map bdC)] (fun _=>.tup []) (fun i=>[OB.row v 182 2 (i.1.map bdC)]):=by
 intro S w0 R w vs hS hJ0 hH hk hx ha
 simp only[RelL]at ha
 obtain⟨u,_,rfl,h1,u2,_,rfl,h2,rfl⟩:=ha
 obtain rfl:=h1.lit
 obtain rfl:u2= .func (.func 125) #[] #[]:=by
  simp only[Rel,RelL]at h2
  obtain⟨_,rfl,rfl⟩:=h2
  rfl
 have hi:=hx.2.1 (OB.row u 182 2 (ps.map bdC)) yz
 obtain⟨us,⟨hul,hrow⟩,hrd,h3⟩:=hi
 rcases hrow with⟨rfl,hz⟩ | ⟨g,cap,cur,rfl,hb,hg,hnc,hcm,hcs,ht⟩
 · have hps:ps=[]:=by simpa using hz
   subst hps
   refine(AnyF.slices_SortFunc_none Tryz.sortB none 0 _ w).mono ?_
   rintro e w' ⟨rfl,rfl⟩
   exact⟨⟨[],.refl _,.nil⟩,_,rfl,by simp only[Rel,RelL];exact⟨[],rfl,rfl⟩,hk,hx⟩
 · obtain⟨zs,hzs,hus,hok⟩:=Zq4 hrd
   have hlen:(ps.map bdC).length=ps.length:=List.length_map _
   rw[hlen]at hnc ht hul
   obtain⟨d,hd⟩:∃ d:Array BdV,d.toList=zs:=⟨zs.toArray,by simp⟩
   have hds:d.size=ps.length:=by rw[←hzs,←hd];simp
   have hkB:∀ x:BdV,(Zfu x).length=2:=fun _=>rfl
   have hfl:∀ e:Array BdV,(flatK Zfu 2 e).toList=e.toList.flatMap Zfu:=fun e=>Zgl hkB oz e
   have hgl:g<w.heap.size:=(Array.getElem?_eq_some_iff.1 hg).1
   have hfz:∀ j,w.frozen? ⟨g,j,none⟩=false:=fun j=>by simp[World.frozen?,hg]
   have hH:HoldsK Zfu 2 w g 0 d:=fun j hj=>by
    refine⟨?_,hfz _⟩
    have hj2:j<ps.length*2:=by rw[size_flatK,hds]at hj;exact hj
    have e1:cur.toList[j]?=some ((flatK Zfu 2 d)[j]!):=by
     have e2:(cur.toList.take (ps.length*2))[j]?=cur.toList[j]?:=by rw[List.getElem?_take,if_pos hj2]
     rw[←e2,ht,hus,←hd,←hfl d,Array.getElem?_toList,Array.getElem?_eq_getElem hj,getElem!_pos _ j hj]
    rw[Nat.zero_add]
    simp only[World.cell?,hg]
    simpa using e1
   have hcall:=AnyQ.slices_SortFunc Tryz.sortB 2 Tryz.isAgg182 Tryz.sizeOf182 Zfu hkB (fun x v hv=>by
    simp only[Zfu,List.mem_cons,List.not_mem_nil,or_false]at hv
    rcases hv with rfl | rfl
    · rfl
    · exact x.2.2.2) cfV swoV 125 #[] g 0 cap d w (enters_of Tryz.func125 (by kernel_rfl) rfl) (Zti g 0 d.size w) hH hgl oz
   rw[hds]at hcall
   rw[hlen]
   refine hcall.mono ?_
   rintro e w' ⟨rfl,d',n,os,hperm,hsrt,rfl⟩
   have hd's:d'.size=ps.length:=by rw[hperm.1,hds]
   have hpd:d'.toList.Perm d.toList:=by
    have h9:=hperm.2.2
    rw[show d'.extract 0 ps.length=d' by rw[←hd's];exact Array.extract_size,show d.extract 0 ps.length=d by rw[←hds];exact Array.extract_size]at h9
    exact h9
   have hpm:(d'.toList.map (·.1.1)).Perm ps:=by
    rw[←hzs,←hd]
    exact hpd.map _
   have hwk:WkB (d'.toList.map (·.1.1)):=by
    unfold WkB
    rw[List.pairwise_map,List.pairwise_iff_getElem]
    intro i j hi hj hij
    have h9:=hsrt i j nzl hij (by rw[←hd's];simpa using hj)
    rw[ltV,getElem!_pos _ j (by simpa using hj),getElem!_pos _ i (by simpa using hi)]at h9
    rw[cmpX_lt]
    simpa using h9
   have hheap:(sortWorldK Zfu 2 w g 0 n d' os).heap[g]?=some (.cells (putCells id 0 (flatK Zfu 2 d') cur) 182):=by
    show(grow (putRow id (Sort.ahead w n) g 0 (flatK Zfu 2 d')) os).heap[g]?=_
    rw[heap_grow_old _ _ (by simpa [Sort.ahead]using hgl)]
    show((Sort.ahead w n).heap.modify g _)[g]?=_
    rw[Array.getElem?_modify,if_pos rfl]
    show(w.heap[g]?).map _=_
    rw[hg]
    rfl
   have hkk:Keeps (fun k=>k≠g) w (sortWorldK Zfu 2 w g 0 n d' os):=by
    refine⟨?_,?_,?_,?_,?_⟩
    · simp[sortWorldK,putRowK,grow,putRow,mapBlock,Sort.ahead]
    · simp[sortWorldK,putRowK,grow,putRow,mapBlock,Sort.ahead]
    · simp[sortWorldK,putRowK,grow,putRow,mapBlock,Sort.ahead]
    · simp[sortWorldK,putRowK,grow,putRow,mapBlock,Sort.ahead]
    · intro k hk hne
      show(grow (putRow id (Sort.ahead w n) g 0 (flatK Zfu 2 d')) os).heap[k]?=_
      rw[heap_grow_old _ _ (by simpa [Sort.ahead]using hk)]
      show((Sort.ahead w n).heap.modify g _)[k]?=_
      rw[Array.getElem?_modify,if_neg (fun e=>hne e.symm)]
      rfl
   have hFs:(flatK Zfu 2 d').size=ps.length*2:=by rw[size_flatK,hd's]
   have hk0:Keeps All w0 (sortWorldK Zfu 2 w g 0 n d' os):=hk.upto' hkk fun k hk0 e=>by subst e;omega
   have hok':∀ z∈d'.toList,Rd (SO S ([OB.row (.slice (some ⟨g,0,none⟩) ps.length cap) 182 2 ((d'.toList.map (·.1.1)).map bdC)]++R)) (sortWorldK Zfu 2 w g 0 n d' os) (Zg z.1.1.text) z.1.2:=fun z hz=>
    (hok z (by rw[←hd];exact hpd.mem_iff.1 hz)).move hkk fun k _ hs=>⟨fun e=>by
     refine hs.2 _ (List.mem_cons_self) ?_
     rw[e];rfl,hs.1,fun p hp=>by
     rcases List.mem_cons.1 hp with rfl | hp
     · exact fun e=>hs.2 _ (List.mem_cons_self) e
     · exact hs.2 p (List.mem_cons_of_mem _ hp)⟩
   have hinv:(OB.row (.slice (some ⟨g,0,none⟩) ps.length cap) 182 2 ((d'.toList.map (·.1.1)).map bdC)).inv w0.heap.size (SO S ([OB.row (.slice (some ⟨g,0,none⟩) ps.length cap) 182 2 ((d'.toList.map (·.1.1)).map bdC)]++R)) (sortWorldK Zfu 2 w g 0 n d' os):=by
    have hl2:((d'.toList.map (·.1.1)).map bdC).length=ps.length:=by simp[hd's]
    refine⟨d'.toList.flatMap Zfu,⟨?_,.inr ⟨g,cap,putCells id 0 (flatK Zfu 2 d') cur,by rw[hl2],hb,hheap,by rw[hl2];exact hnc,hcm,by simpa [putCells]using hcs,?_⟩⟩,bd_rd hok',fun r hr=>by obtain⟨p,_,rfl⟩:=List.mem_map.1 hr;rfl⟩
    · rw[hl2,←hfl d',Array.length_toList,hFs]
    · rw[hl2,←hfl d',←hFs]
      exact Zk4 cur _ (by rw[hFs,hcs];exact Nat.mul_le_mul_right _ hnc)
   refine⟨⟨d'.toList.map (·.1.1),hpm,hwk⟩,_,rfl,by simp only[Rel,RelL];exact⟨[],rfl,rfl⟩,hk0,?_⟩
   have hx1:=hx
   rw[hlen]at hx1
   have:=ZhL (o':=OB.row (.slice (some ⟨g,0,none⟩) ps.length cap) 182 2 ((d'.toList.map (·.1.1)).map bdC)) hx1 (hJ _ _ hk0 hJ0) (hkk.sub fun k _ hk=>fun e=>hk (by show(OB.row (.slice (some ⟨g,0,none⟩) ps.length cap) 182 2 (ps.map bdC)).blk k;rw[e];rfl)) (fun k hk=>.inl hk) hinv
   exact this.1
end Go.Proofs.YtdfadihhfppjaaaGreatDoor
set_option maxHeartbeats 8000000
set_option maxRecDepth 100000
namespace Go.Proofs.YtdfadihhfppjaaaGreatDoor
open Go.Proofs.Tryz (prog)
open Go.RowKit
theorem Zgx:prog.underlying 158=some (.map 9 22):=by kernel_rfl
theorem Zt3:Zi prog 124:=Zm Tryz.func124 Y Y
theorem Zkx:Zi prog 94:=Zm Tryz.func94 Y Y
theorem Zgg:ZW prog 92 0 0:=fO
theorem Zny:ZW prog 92 1 3:=fO
theorem Zkw:Zi prog 96:=Zm Tryz.func96 Y Y
theorem Zo7 {J:WP} (hJ:Stab J) (mb:Nat) (Mb:BM) (hnd:(Mb.map Prod.fst).Nodup) (hkz:∀ q'∈Mb.map (·.1),q'.size≤9223372036854775807) (hml:Mb.length≤100000):FnM (ι:=Unit) prog J 96 [] [.lit (.map (some mb))] [OB.map keyS sRd mb Mb] (fun _=>.rd (Zgu (YY Mb))) (fun _=>[OB.map keyS sRd mb Mb]):=by
 refine fEM Tryz.func96 fun S w0 R hS hJ0 hH=>?_
 refine YS (B:=So J S w0 22 (OB.map keyS sRd mb Mb::R) [(0,.lit (.map (some mb)))]) ?_ fun a w h=>h
 refine qso tb hJ [0] [_] [_] ?_
 refine qso tb hJ [0,1000] [_] U2 ?_
 refine Zf (tsq (snK 1 tb Y (Zk7 (Kd:=keyS) (f:=sRd) (L:=Mb) Zgx hJ hJ0 Y Y Y (lb Y) (fun a w h=>(h.get 0 Y)) fun b1=>?_)))
 refine seK [0,3] U2 Y (nx (Zd (tw (Yd 182 2 hJ) ?_)))
 refine lpo (ι:=Value×(List Bd)×(List BA)) (fun(_,out,vis)=>(out=vis.map (fun s=>(⟨s,(Zy Mb s).getD default⟩:Bd)))∧(vis.Nodup)∧(∀ q'∈vis,q'∈Mb.map (·.1))) (fun(v,out,vis)=>(OB.row v 182 2 (out.map bdC)::OB.iter b1 keyS sRd mb Mb vis::R)) (fun(v,_,_)=>[(3,.lit v)]) (fun(_,_,vis)=>Mb.length-vis.length) [0,1] [_] ((.slice none 0 0),([]:List Bd),([]:List BA)) ⟨Y,by simp,fun q' h=>by simp at h⟩ ?_
 rintro⟨v,out,vis⟩ ⟨f1_1,f1_2,f1_3⟩
 refine tsq (kw pm1 (Zos (Kd:=keyS) (f:=sRd) (L:=Mb) (vis:=vis) (fun k' hk'=>hkz k' hk') hJ hJ0 Y Y Y (lb Y) (fun a w h=>(h.get 0 Y)) fun z2 h0z2 h1z2=>?_))
 refine sy (.bool z2.1) (fun h=>Yx Y (h.get 0 Y) Y h.x) ?_
 refine seK [0,2,3] U3 Y (nx (cjS 0 (fun hb1=>?_) fun hb1=>?_))
 ·
  have e5:=Zu1 f1_2 f1_3
  have e6:out.length=vis.length:=by rw[f1_1,List.length_map]
  refine tw (ob0 (congrArg (fun z'=>OB.iter b1 keyS sRd mb Mb (z')) (show(if z2.1 then vis++[z2.2]else vis)=(vis++[z2.2])from by rw[hb1];rfl))) (Zb (nx (Zd (ZF tb hJ [1,2,1002,1003,1004] [.tup [.str z2.2,.rd (Zg ((Zy Mb z2.2).getD default))],_,_,_,_] [0] U5 Y ⟨fun _ _ _ hx hl _=>ZoO (Kd:=keyS) (f:=sRd) (L:=Mb) (k:=z2.2) Y (Ze hx (mo 0 Y)) (hkz z2.2 (by have:=(h1z2 hb1).2;rw[Y1]at this;simpa using this)) (hl.env 1 7 _ Y Y) hx,U⟩ ?_))))
  refine ln 2 fun hl1=>?_
  refine ZO (snK 3 tb Y (sq (.agg (bdC (⟨z2.2,((Zy Mb z2.2).getD default)⟩:Bd))) Y Y (lb Y) (fun a _ h=>XR (us:=[a.eval (.tmp 14),a.eval (.tmp 15)]) Zfm Y yz (Zt (h.get 1 Y) (Zt (h.get 0 Y) Z0)) Y h.x) ?_))
  refine sy (.rd (Zgu ([(⟨z2.2,((Zy Mb z2.2).getD default)⟩:Bd)]))) (fun h=>ZcD ZaB ZkP dz Y Y (h.get 0 Y) (Zk hS _ h.keep h.x _ nlr) (jo hJ h.x)) ?_
  refine kw pm1 (YD (f:=bdC) (m:=4) (s:=13) out ([(⟨z2.2,((Zy Mb z2.2).getD default)⟩:Bd)]) (fun _=>Y) Zfp hJ hJ0 Y Y Y (lb Y) Y Y (fun a w h=>(h.get 0 Y)) (by simp;omega) (by simp;omega) fun v3=>?_)
  refine snK 1 tb Y (seK [0,2,7] U3 Y ?_)
  exact Xk (v3,out++([(⟨z2.2,((Zy Mb z2.2).getD default)⟩:Bd)]),vis++[z2.2]) [2,0] ⟨by rw[f1_1,List.map_append];rfl,by rw[List.nodup_append];exact⟨f1_2,by simp,fun x hx y hy e=>by rw[List.mem_singleton.1 hy]at e;subst e;exact(h1z2 hb1).1 hx⟩,fun q' hq'=>by rcases List.mem_append.1 hq' with h | h;exact f1_3 q' h;rw[List.mem_singleton.1 h];have:=(h1z2 hb1).2;rw[Y1]at this;simpa using this⟩ (hm:=(show Mb.length-(vis++[z2.2]).length<Mb.length-vis.length from ZwC f1_2 f1_3 (h1z2 hb1)))
 ·
  have e5:=Zu1 f1_2 f1_3
  have e6:out.length=vis.length:=by rw[f1_1,List.length_map]
  have e7:=ZwB hnd f1_2 f1_3 (h0z2 hb1)
  refine tw (ob0 (congrArg (fun z'=>OB.iter b1 keyS sRd mb Mb (z')) (show(if z2.1 then vis++[z2.2]else vis)=vis from by rw[hb1];rfl))) (Zu (nx (tsq ?_)))
  refine snK 1 tb Y (kw pm1 ?_)
  refine QK (O:=[OB.row v 182 2 (out.map bdC)]) (R:=(OB.iter b1 keyS sRd mb Mb vis::R)) (Zwi hJ v out oz) Zt3 Y Y Y (lb Y) hS hJ0 Zq (fun a w h=>(Za (h.get 0 Y) (Za (Qt 125) Zc))) fun z4=>?_
  refine seK [4] [_] Y (nx (qso tb hJ [1001] U2 [_] ?_))
  refine tw (fun h=>Ya hS h (m:=0) (s:=2) Y) (tw ZfQ ?_)
  exact Zs (fun a w h=>ZK  (m:=0) () Y h Y (congrArg (fun z=>AV.rd (Zgu z)) (show z4.1=(YY Mb)from ZwA hnd (z4.2.1.trans (f1_1▸e7)) z4.2.2)))
theorem Zpb {J:WP} (hJ:Stab J) (d:Db) (i:Nat) (ss:List Stp) (ts:List (List BA)) (M:Nat) (gf:Fr) (al:List Int) (step:Nat) (hfl:∀ h∈gf.hyps,h.floating=true→h.text.length=2) (hi:i<d.frames.length) (hts:∀ t∈ts,1≤t.length∧t.length≤2000) (hal:∀ j,j<al.length→0≤ge al j∧ge al j< (ts.length:Int)) (hgl:al.length=gf.hyps.length) (hst:step<ts.length) (hgh:gf.hyps.length≤2000) (hsz:∀ h∈gf.hyps,∀ s∈h.text,s.size≤60) (hwd:(ge d.frames i).wide.length*32≤140737488351232):Fn prog J 68 [.ptr (jC d i ss ts M),.agg (frC gf),.rd (Z3 al),.int (step:Nat)] (.bool (Zdj (⟨d,i,ss,ts,[]⟩:Jb) gf al step)):=by
 refine fE Tryz.func68 fun S w0 hS hJ0=>?_
 refine tw Z4 (ln 2 fun hl1=>?_)
 have het:∀ t∈(YJ ts al),1≤t.length∧t.length≤2000:=Zl5 hts hal
 have hes:(YJ ts al).length=gf.hyps.length:=by rw[Zd0];exact hgl
 have hgm:=Zkf (hs:=gf.hyps) (es:=(YJ ts al)) (p:=fun t=>t.length≤2000) (fun t ht=>by have:=het t ht;rw[List.length_drop];omega) hes
 have hgz:∀ k,k≤gf.hyps.length→∀ q'∈(gvM gf.hyps (YJ ts al) k).map (·.1),q'.size≤9223372036854775807:=fun k hk q' hq'=>by obtain⟨x,hx,rfl⟩:=List.mem_map.1 hq';obtain⟨h,hh,hf,e⟩:=(hgm k hk x hx).2;have h8:=hfl h hh hf;have h9:=hsz h hh (ge h.text 1) (Zp oz);rw[e];omega
 refine ZF tb hJ [0,2,3,1000] [.ptr (frC gf),_] [0] U4 Y ⟨iBo hS hJ,U⟩ ?_
 refine tsq (Zep keyS sRd hJ Y Y Y (lb Y) fun m1=>?_)
 refine snK 1 tb (env':=[(9,_),(21,_),(0,_),(2,_),(3,_),(5,_)]) Y (seK [0,2,3,4,5] U5 Y ?_)
 refine nx (Zf (ZF tb hJ (r5 [1001,1002,1003]) [_,_,.int (gf.hyps.length:Nat),_] [2] U8 Y ⟨Ym ZC,U⟩ ?_))
 refine ln 5 fun hl2=>?_
 refine Zd (lpo (ι:=Nat×BM) (fun(k,Mb)=>(k≤gf.hyps.length)∧(Mb=gvM gf.hyps (YJ ts al) k)∧(∀ j,j<k→ZdY gf.hyps (YJ ts al) 0 j=true)) (fun(_,Mb)=>[OB.map keyS sRd m1 Mb]) (fun(k,_)=>[(25,.int (k:Nat))]) (fun(k,_)=>gf.hyps.length-k) (r8 []) U7 (0,([]:List (BA×List BA))) ⟨nzl,Y,fun j hj=>by omega⟩ ?_)
 rintro⟨k,Mb⟩ ⟨f1_1,f1_2,f1_3⟩
 refine qso tb hJ (r8 [1000]) [_] U9 ?_
 refine cjS 8 (fun hb1=>?_) fun hb1=>?_
 ·
  try simp at hb1
  have e0:ge (YJ ts al) k=(ge ts (ge al k).toNat):=Zfa oz
  have e1:=hal k oz
  refine Zb (nx (Zf (Zd (tsq (snK 1 tb (env':=[(27,_),(9,_),(0,_),(2,_),(3,_),(5,_),(23,_),(24,_),(25,_),(26,_)]) Y (sy (.ptr (hyC (ge gf.hyps k))) (fun h=>ZM (i:=(k:Int)) ZI Y (h.get 6 Y) (h.get 8 Y) nnn (ZT (xs:=gf.hyps) (k:=k) sfz) Y h.x) ?_))))))
  refine snK 1 tb (env':=[(29,_),(28,_),(27,_),(9,_),(0,_),(2,_),(3,_),(5,_),(23,_),(24,_),(25,_),(26,_)]) Y (Zv Yy hJ Y Y Y (lb Y) fun b2=>?_)
  refine snK 1 tb (env':=[(10,_),(11,_),(29,_),(28,_),(27,_),(9,_),(0,_),(2,_),(3,_),(5,_),(23,_),(24,_),(25,_),(26,_)]) Y (Zn (b:=b2) (off:=0) (es:=U3) (news:=U3) hJ hJ0 YQ Y Y Y (lb Y) Y (fun a w h=>⟨(h.get 1 Y),(h.get 2 Y)⟩) ?_)
  refine kw (fun h=>ZP hS h (m:=1) (s:=11) Y) (seK [0,1,5,6,7,8,9,10,11,12] U10 Y ?_)
  refine nx (Zf (qso tb hJ (r10 [1002]) U3 U11 ?_))
  refine cj 10 (fun hb2=>?_) fun hb2=>?_
  ·
   try simp at hb2
   refine Zu (nx (YU tb hJ [2,3,4,5,6,7,8,1001] [.int (k+1:Nat),_] [0] U8 Y ⟨YT,U⟩ ?_))
   exact Xk (k+1,Mb) (r8 []) ⟨oz,by first | (rw[gvM,if_neg (by simp[hb2]),←f1_2];done) | (rw[gvM,if_pos hb2,←f1_2,e0]),Z2 f1_3 (by first | (simp[ZdY,hb2];done) | (simp only[ZdY,Nat.zero_add,e0];simpa [hb2]using hb3))⟩
  ·
   try simp at hb2
   have e3:(ge gf.hyps k).text.length=2:=hfl _ (Zp oz) hb2
   have e4:=hts _ (Zp (xs:=ts) (k:=(ge al k).toNat) oz)
   refine Zb (nx (ZF tb hJ [0,2,3,4,5,6,7,8,9,1003,1009,1010] (V6 [.ptr [lI (ge al k)],_,.ptr [Zg (ge ts (ge al k).toNat)],_,_]) [6,8] U12 Y ⟨iIx Zw,iIz Z8,U⟩ ?_))
   refine ln 9 fun hl3=>?_
   refine ln 10 fun hl4=>?_
   refine Zf (ZF tb hJ (r9 [11,1004,1007]) [_,.ptr [lS (ge (ge ts (ge al k).toNat) 0)],_,_,_,.ptr [lS (ge ((ge gf.hyps k).text) 0)],_,_] [1,5] U12 Y ⟨iIx (k:=0) Zj,iIx (k:=0) Zj,U⟩ ?_)
   refine ln 10 fun hl5=>?_
   refine cj 11 (fun hb3=>?_) fun hb3=>?_
   ·
    have e5:ZdY gf.hyps (YJ ts al) 0 k=false:=by simp only[ZdY,Nat.zero_add,e0,Bool.or_eq_false_iff,Bool.not_eq_false',decide_eq_false_iff_not];exact⟨by simpa using hb2,by simpa using hb3⟩
    have eU:Zdj (⟨d,i,ss,ts,[]⟩:Jb) gf al step=false:=ZwQ (j:=(⟨d,i,ss,ts,[]⟩:Jb)) oz e5
    refine qso tb hJ [1000] [_] [_] ?_
    exact tRo 0 (hE:=eB (by first | (rw[eU];done) | (rw[eU,e6])))
   ·
    refine Zb (nx (fun a w h=>YH (γ:=Unit) (fun ix'=>([.lit (.map (some m1)),.ptr [Zg ((ge gf.hyps k).text)],.rd (Zg ((ge gf.hyps k).text)),.ptr [lS (ge ((ge gf.hyps k).text) 1)],.str (ge ((ge gf.hyps k).text) 1),.rd (Zg (ge ts (ge al k).toNat)),.rd (Zg ((ge ts (ge al k).toNat).drop 1)),.any]:List AV).getD ix' .any) (fun _=>true) [(9,fun _=>.lit (.map (some m1))),(0,fun _=>.ptr (jC d i ss ts M)),(2,fun _=>.rd (Z3 al)),(3,fun _=>.int (step:Nat)),(5,fun _=>.ptr (frC gf)),(23,fun _=>.rd (XQ gf.hyps)),(24,fun _=>.int (gf.hyps.length:Nat)),(25,fun _=>.int (k:Nat))] (fun j' _=>match j' with | 0=>[OB.map keyS sRd m1 Mb] | _=>[OB.map keyS sRd m1 (XK Mb (ge ((ge gf.hyps k).text) 1) ((ge ts (ge al k).toNat).drop 1))]) (fun _ _=>undef) [7] 0 () (fun _=>Y) h hJ Yo Y Y Y Y Y Y hsb ⟨?_,?_,?_,?_,?_,?_,?_,?_,U⟩ ⟨?e9_1_0,U⟩ ⟨.old 1 9 _,.old 2 0 _,.old 3 2 _,.old 4 3 _,.old 5 5 _,.old 6 23 _,.old 7 24 _,.old 8 25 _,U⟩ ?n9_1))
    exact oX Y fun hx hl=>ZV Y (hl.env 1 9 _ Y Y) hx
    exact oX Y fun hx hl=>ZG Xb Y (hl.env 0 11 _ Y Y) hx
    exact oX Y fun hx hl=>ZB Qy Y (hl.D 1 52 Y Y) hx
    exact oX Y fun hx hl=>ZM (i:=((1:Nat):Int)) Zj Y (hl.D 2 53 Y Y) (Rel.of_lit (.int .i64 1)) nnn (ZT (xs:=(ge gf.hyps k).text) (k:=1) sfz) Y hx
    exact oX Y fun hx hl=>ZB Qx Y (hl.D 3 54 Y Y) hx
    exact oX Y fun hx hl=>ZV Y (hl.env 9 12 _ Y Y) hx
    exact oX Y fun hx hl=>Zam (ys:=(ge ts (ge al k).toNat).drop 1) (lo:=1) (hi:=(ge ts (ge al k).toNat).length) (by rw[List.take_length]) Zj (fun _=>Y) Y (hl.D 5 56 Y Y) (Rel.of_lit (.int .i64 1)) Y sfz sfz hx
    exact Zh Y
    case e9_1_0=>exact⟨_,Y,Y,Y,Y,fun g _ w hk hx hl _=>Zl (Zkr (f:=sRd) XN hJ hJ0 (ge ((ge gf.hyps k).text) 1) ((ge ts (ge al k).toNat).drop 1) (.inl Y) hk hx (hl.D 0 51 Y Y) (hl.D 4 55 Y Y) (hl.D 6 57 Y Y)) fun v w' ⟨_,hp⟩=>⟨g,Y,fun _ _=>rfl,fun e=>(by cases e),hp⟩⟩
    clear a w h
    intro _
    dsimp only[List.map]
    refine nx (YU tb hJ (r7 [1001]) [.int (k+1:Nat),_] [0] U8 Y ⟨YT,U⟩ ?_)
    exact Xk (k+1,XK Mb (ge ((ge gf.hyps k).text) 1) ((ge ts (ge al k).toNat).drop 1)) (r8 []) ⟨oz,by first | (rw[gvM,if_neg (by simp[hb2]),←f1_2];done) | (rw[gvM,if_pos hb2,←f1_2,e0]),Z2 f1_3 (by first | (simp[ZdY,hb2];done) | (simp only[ZdY,Nat.zero_add,e0];simpa [hb2]using hb3))⟩
 ·
  try simp at hb1
  have e6:Mb=gvM gf.hyps (YJ ts al) gf.hyps.length:=by rw[f1_2,show k=gf.hyps.length by omega]
  refine Zu (nx (Zf (ZF tb hJ (r5 [1001,1002,1003]) [_,_,.int (gf.hyps.length:Nat),_] [2] U8 Y ⟨Ym ZC,U⟩ ?_)))
  refine Zd (lpo (ι:=Nat) (fun k=>(k≤gf.hyps.length)∧(∀ j,j<k→ZsO gf.hyps (gvM gf.hyps (YJ ts al) gf.hyps.length) (YJ ts al) j=true)) (fun _=>[OB.map keyS sRd m1 Mb]) (fun k=>[(62,.int (k:Nat))]) (fun k=>gf.hyps.length-k) (r8 []) U7 0 ⟨nzl,fun j hj=>by omega⟩ ?_)
  rintro k ⟨f2_1,f2_2⟩
  refine qso tb hJ (r8 [1000]) [_] U9 ?_
  refine cjS 8 (fun hb4=>?_) fun hb4=>?_
  ·
   try simp at hb4
   have e0:ge (YJ ts al) k=(ge ts (ge al k).toNat):=Zfa oz
   have e1:=hal k oz
   refine Zb (nx (Zf (Zd (tsq (snK 1 tb (env':=[(64,_),(9,_),(0,_),(2,_),(3,_),(5,_),(60,_),(61,_),(62,_),(63,_)]) Y (sy (.ptr (hyC (ge gf.hyps k))) (fun h=>ZM (i:=(k:Int)) ZI Y (h.get 6 Y) (h.get 8 Y) nnn (ZT (xs:=gf.hyps) (k:=k) sfz) Y h.x) ?_))))))
   refine snK 1 tb (env':=[(66,_),(65,_),(64,_),(9,_),(0,_),(2,_),(3,_),(5,_),(60,_),(61,_),(62,_),(63,_)]) Y (Zv Yy hJ Y Y Y (lb Y) fun b3=>?_)
   refine snK 1 tb (env':=[(13,_),(14,_),(66,_),(65,_),(64,_),(9,_),(0,_),(2,_),(3,_),(5,_),(60,_),(61,_),(62,_),(63,_)]) Y (Zn (b:=b3) (off:=0) (es:=U3) (news:=U3) hJ hJ0 YQ Y Y Y (lb Y) Y (fun a w h=>⟨(h.get 1 Y),(h.get 2 Y)⟩) ?_)
   refine kw (fun h=>ZP hS h (m:=1) (s:=14) Y) (seK [0,1,5,6,7,8,9,10,11,12] U10 Y ?_)
   refine nx (ZF tb hJ [0,2,3,4,5,6,7,8,9,1003,1007,1013,1018] (V10 [.ptr [lI (ge al k)],_,.ptr [Zg (ge ts (ge al k).toNat)],_,.tup [.bool ((XJ gf.hyps Mb ((ge gf.hyps k).text) (ge ts (ge al k).toNat)).1),.bool ((XJ gf.hyps Mb ((ge gf.hyps k).text) (ge ts (ge al k).toNat)).2)],_,_,_,_,_]) [10,12,14] [_,_,_,_,_,_,_,_,_,_,_,_,_] Y ⟨iIx Zw,iIz Z8,fun _ _ hk hx hl _=>Y3 (ZgP hJ m1 Mb gf ((ge gf.hyps k).text) (ge ts (ge al k).toNat) (by exact hfl)) Zkx Y (Zk hS _ hk hx) (hx.1) (ZH (Ze hx (mo 0 Y)) Zq) (Za (hl.D 0 68 Y Y) (Za (hl.D 1 69 Y Y) (Za (hl.D 3 71 Y Y) (Za (hl.D 13 81 Y Y) Zc)))) (jo hJ hx),U⟩ ?_)
   refine ln 9 fun hl6=>?_
   refine ln 10 fun hl7=>?_
   refine ln 11 fun hl8=>?_
   refine qso tb hJ [1,2,3,4,5,6,7,8,1006] U7 U9 ?_
   refine cj 8 (fun hb5=>?_) fun hb5=>?_
   ·
    have e7:ZsO gf.hyps (gvM gf.hyps (YJ ts al) gf.hyps.length) (YJ ts al) k=false:=by simp only[ZsO,e0];rw[←e6];cases h9:(ge gf.hyps k).floating<;>simp_all
    have eU:Zdj (⟨d,i,ss,ts,[]⟩:Jb) gf al step=false:=ZwR (j:=(⟨d,i,ss,ts,[]⟩:Jb)) oz e7
    refine qso tb hJ [1000] [_] [_] ?_
    exact tRo 0 (hE:=eB (by first | (rw[eU];done) | (rw[eU,e6])))
   ·
    refine Zb (nx (YU tb hJ (r7 [1001]) [.int (k+1:Nat),_] [0] U8 Y ⟨YT,U⟩ ?_))
    exact Xk (k+1) (r8 []) ⟨oz,Z2 f2_2 (by simp only[ZsO,e0];rw[←e6];cases h9:(ge gf.hyps k).floating<;>simp_all)⟩
  ·
   try simp at hb4
   refine Zu (nx (Zf (ZF tb hJ [0,1,4,1003,1007,1010,1015] (V9 [.ptr [Zg (ge ts step)],_,.tup [.bool ((XJ gf.hyps Mb gf.text (ge ts step)).1),.bool ((XJ gf.hyps Mb gf.text (ge ts step)).2)],_,_,_,_,_]) [9,11] U7 Y ⟨iIx Z8,fun _ _ hk hx hl _=>Y3 (ZgP hJ m1 Mb gf gf.text (ge ts step) (by exact hfl)) Zkx Y (Zk hS _ hk hx) (hx.1) (ZH (Ze hx (mo 0 Y)) Zq) (Za (hl.D 0 94 Y Y) (Za (hl.D 1 95 Y Y) (Za (hl.D 3 97 Y Y) (Za (hl.D 10 104 Y Y) Zc)))) (jo hJ hx),U⟩ ?_)))
   refine ln 3 fun hl9=>?_
   refine ln 4 fun hl10=>?_
   refine ln 5 fun hl11=>?_
   refine qso tb hJ [0,1,2,1001] U2 U4 ?_
   refine cj 3 (fun hb6=>?_) fun hb6=>?_
   ·
    try simp at hb6
    have eU:Zdj (⟨d,i,ss,ts,[]⟩:Jb) gf al step=false:=ZwS (j:=(⟨d,i,ss,ts,[]⟩:Jb)) (by show(XJ gf.hyps (gvM gf.hyps (YJ ts al) gf.hyps.length) gf.text (ge ts step)).1=false;rw[←e6];exact hb6)
    refine qso tb hJ [1000] [_] [_] ?_
    exact tRo 0 (hE:=eB (by first | (rw[eU];done) | (rw[eU,e6])))
   ·
    try simp at hb6
    have eU:Zdj (⟨d,i,ss,ts,[]⟩:Jb) gf al step= !ZfE (YY (gvM gf.hyps (YJ ts al) gf.hyps.length)) gf.apart d.vars (ge d.frames i).wide:=gvx_ok (j:=(⟨d,i,ss,ts,[]⟩:Jb)) (fun q hq=>f1_3 q oz) (fun q hq=>f2_2 q oz) (by show(XJ gf.hyps (gvM gf.hyps (YJ ts al) gf.hyps.length) gf.text (ge ts step)).1=true;rw[←e6];exact hb6)
    refine Zb (nx (Zf (fun a w h=>Zal [] (γ:=Value×Nat) (fun ix'=>([.lit (.map (some m1)),.rd (Zgu (YY Mb)),.ptr [X8 gf.apart,Zg gf.text,XQ gf.dummies,X8 gf.wide,Zg gf.proof],.rd (X8 gf.apart),.ptr (jC d i ss ts M),.ptr (jC d i ss ts M),.ptr (jC d i ss ts M),.ptr [Zg d.vars,ZaU d.frames,lI (i:Int),Yv ss,Yc ts,lI (((Yh ss):Nat):Int),.lit (.map (some M))],.rd (Zg d.vars),.ptr (jC d i ss ts M),.ptr (jC d i ss ts M),.ptr (jC d i ss ts M),.ptr [ZaU d.frames,lI (i:Int),Yv ss,Yc ts,lI (((Yh ss):Nat):Int),.lit (.map (some M))],.rd (ZaU d.frames),.ptr (jC d i ss ts M),.ptr (jC d i ss ts M),.ptr [lI (i:Int),Yv ss,Yc ts,lI (((Yh ss):Nat):Int),.lit (.map (some M))],.int (i:Nat),.ptr (frC (ge d.frames i)),.ptr [X8 ((ge d.frames i).wide),Zg ((ge d.frames i).proof)],.rd (X8 ((ge d.frames i).wide)),.tup [.agg (prC (Zjf (YY Mb) gf.apart d.vars ((ge d.frames i).wide))),.bool (ZfE (YY Mb) gf.apart d.vars ((ge d.frames i).wide))],.tup [.agg (prC (Zjf (YY Mb) gf.apart d.vars ((ge d.frames i).wide))),.bool (ZfE (YY Mb) gf.apart d.vars ((ge d.frames i).wide))],.agg (prC (Zjf (YY Mb) gf.apart d.vars ((ge d.frames i).wide))),.bool (ZfE (YY Mb) gf.apart d.vars ((ge d.frames i).wide)),.any,.any,.bool (ZfE (YY Mb) gf.apart d.vars ((ge d.frames i).wide))]:List AV).getD ix' .any) (fun _=>true) [(20,fun _=>.bool (ZfE (YY Mb) gf.apart d.vars ((ge d.frames i).wide)))] (fun(b:List Bool) (g:Value×Nat)=>(bif b.getD 2 false then [OB.var g.2 (prC (Zjf (YY Mb) gf.apart d.vars ((ge d.frames i).wide)))]else(bif b.getD 1 false then [OB.var g.2 [lS (⟨#[]⟩:BA),lS (⟨#[]⟩:BA)]]else []))++([OB.map keyS sRd m1 Mb]++([]))) (fun k' g=>match k' with | 0=>g.1 | 1=>(.pointer (some ⟨g.2,0,none⟩)) | _=>undef) [1,25,26] (undef,0) (fun _=>Y) h hJ Yo Y Y Y Y (fun b g p hp=>(List.mem_append_right _ (List.mem_append_right _ hp))) ⟨?_,?_,?_,?_,?_,?_,?_,?_,?_,?_,?_,?_,?_,?_,?_,?_,?_,?_,?_,?_,?_,?_,?_,?_,?_,?_,?_,?_,U⟩ ⟨?e21_2_0,?e21_2_1,?e21_2_2,U⟩ ⟨.new 27 20 _,U⟩ ?n21_2)))
    exact oX Y fun hx hl=>ZV Y (hl.env 0 9 _ Y Y) hx
    exact Zh Y
    exact oX Y fun hx hl=>ZG Zgi Y (hl.env 2 5 _ Y Y) hx
    exact oX Y fun hx hl=>ZB ZlF Y (hl.D 2 113 Y Y) hx
    exact oX Y fun hx hl=>ZV Y (hl.env 1 0 _ Y Y) hx
    exact oX Y fun hx hl=>YE Y (hl.D 4 115 Y Y) hx
    exact oX Y fun hx hl=>ZG Zgg Y (hl.D 5 116 Y Y) hx
    exact oX Y fun hx hl=>ZG Zgk Y (hl.D 6 117 Y Y) hx
    exact oX Y fun hx hl=>ZB Qy Y (hl.D 7 118 Y Y) hx
    exact oX Y fun hx hl=>ZV Y (hl.env 1 0 _ Y Y) hx
    exact oX Y fun hx hl=>YE Y (hl.D 9 120 Y Y) hx
    exact oX Y fun hx hl=>ZG Zgg Y (hl.D 10 121 Y Y) hx
    exact oX Y fun hx hl=>ZG ZaV Y (hl.D 11 122 Y Y) hx
    exact oX Y fun hx hl=>ZB Zis Y (hl.D 12 123 Y Y) hx
    exact oX Y fun hx hl=>ZV Y (hl.env 1 0 _ Y Y) hx
    exact oX Y fun hx hl=>YE Y (hl.D 14 125 Y Y) hx
    exact oX Y fun hx hl=>ZG Zny Y (hl.D 15 126 Y Y) hx
    exact oX Y fun hx hl=>ZB Q2 Y (hl.D 16 127 Y Y) hx
    exact oX Y fun hx hl=>ZM (i:=(i:Int)) Yu Y (hl.D 13 124 Y Y) (hl.D 17 128 Y Y) nnn (ZT (xs:=d.frames) (k:=i) sfz) Y hx
    exact oX Y fun hx hl=>ZG Zgh Y (hl.D 18 129 Y Y) hx
    exact oX Y fun hx hl=>ZB ZlF Y (hl.D 19 130 Y Y) hx
    exact oY Y fun hk hx hl=>ZaL (ZlC hJ (YY Mb) gf.apart d.vars ((ge d.frames i).wide) (by rw[e6];exact ZpD (p:=fun t=>t.length≤2000) fun q hq=>(hgm _ nlr q hq).1) (by exact hwd)) ZqL Y (Zk hS _ hk hx) (hx.1) (Za (hl.D 1 112 Y Y) (Za (hl.D 3 114 Y Y) (Za (hl.D 8 119 Y Y) (Za (hl.D 20 131 Y Y) Zc)))) (jo hJ hx)
    exact oX Y fun hx hl=>ZV Y (hl.D 21 132 Y Y) hx
    exact oX Y fun hx hl=>Yx Y (hl.D 22 110 Y Y) Y hx
    exact oX Y fun hx hl=>Yx Y (hl.D 22 110 Y Y) Y hx
    exact Zh Y
    exact Zh Y
    exact oX Y fun hx hl=>YA Y (hl.D 24 134 Y Y) hx
    case e21_2_0=>exact Zhe [[false,false,false],[false,true,false]] V Y Y Y Y ⟨fun g _ w hk hx hl hs=>Zl (Zu8 (O:=[OB.map keyS sRd m1 Mb]) (R:=[]) (Zo7 hJ m1 Mb (by rw[e6];exact Zha _) (by rw[e6];exact hgz _ nlr) (by have:=Zp5 (hs:=gf.hyps) (es:=(YJ ts al)) gf.hyps.length;rw[e6];omega)) Zkw Y hS hJ0 Zq hk hx (Za (hl.D 0 111 Y Y) Zc)) fun v w' ⟨i,hp,hv⟩=>⟨(v,g.2),(fun k' hk'=>by rcases k' with _ | _ | _ | k'<;>first | rfl | cases hk'),fun _=>rfl,hv,hp⟩,fun g _ w hk hx hl hs=>Zl (Zu8 (O:=[OB.map keyS sRd m1 Mb]) (R:=[OB.var g.2 [lS (⟨#[]⟩:BA),lS (⟨#[]⟩:BA)]]) (Zo7 hJ m1 Mb (by rw[e6];exact Zha _) (by rw[e6];exact hgz _ nlr) (by have:=Zp5 (hs:=gf.hyps) (es:=(YJ ts al)) gf.hyps.length;rw[e6];omega)) Zkw Y hS hJ0 Zq hk (YK (YX (A:=[OB.var g.2 [lS (⟨#[]⟩:BA),lS (⟨#[]⟩:BA)]])) hx) (Zh7 (YX (A:=[OB.var g.2 [lS (⟨#[]⟩:BA),lS (⟨#[]⟩:BA)]])) (Za (hl.D 0 111 Y Y) Zc))) fun v w' ⟨i,hp,hv⟩=>⟨(v,g.2),(fun k' hk'=>by rcases k' with _ | _ | _ | k'<;>first | rfl | cases hk'),fun _=>rfl,(hv.sub fun _ _ hs=>hs.perm (YX (A:=[OB.var g.2 [lS (⟨#[]⟩:BA),lS (⟨#[]⟩:BA)]])).symm),XT (YX (A:=[OB.var g.2 [lS (⟨#[]⟩:BA),lS (⟨#[]⟩:BA)]])).symm (YX (A:=[OB.var g.2 [lS (⟨#[]⟩:BA),lS (⟨#[]⟩:BA)]])).symm hp⟩,U⟩
    case e21_2_1=>exact Zhe [[false,false,false],[true,false,false]] V Y Y Y Y ⟨fun g _ w hk hx _ _=>Zl (Qs X0 hJ Y hk hx) fun v w' ⟨b',hv,hp⟩=>⟨(g.1,b'),(fun k' hk'=>by rcases k' with _ | _ | _ | k'<;>first | rfl | cases hk'),fun _=>hv,True.intro,hp⟩,fun g _ w hk hx _ _=>Zl (Qs X0 hJ rfl hk hx) fun v w' ⟨b',hv,hp⟩=>⟨(g.1,b'),(fun k' hk'=>by rcases k' with _ | _ | _ | k'<;>first | rfl | cases hk'),fun _=>hv,True.intro,hp⟩,U⟩
    case e21_2_2=>exact Zhe [[true,true,false]] V Y Y Y Y ⟨fun g a w hk hx hl hs=>(by obtain⟨us2,hv2,hr3⟩:=Q0 (hl.D 23 133 Y Y);exact Zl (Xz (S':=S) (off:=0) (news:=U2) (es:=U2) (us:=us2) hJ hJ0 Xj Y hk hx (ZcA (hs 1 25 _ 19 Y Y Y Y)) (by rw[hv2];rfl) hr3 (lb Y) Y) fun v w' hp=>⟨g,fun _ _=>rfl,fun e=>(by cases e),True.intro,hp⟩),U⟩
    clear a w h
    rintro⟨x4,b5⟩
    dsimp only[List.map]
    refine kw Zz (nx (qso tb hJ [1002] U3 [_] ?_))
    exact tRo 0 (hE:=eB (by first | (rw[eU];done) | (rw[eU,e6])))
end Go.Proofs.YtdfadihhfppjaaaGreatDoor
namespace Go.Proofs.YtdfadihhfppjaaaGreatDoor
open Go.RowKit
section
variable {n:Rn} {P:Program} {l:List Oper} {Q:Exit→Act→WP}
variable {N:Nat} {J:WP} {S:Nat→Prop} {O:List OB} {w0:World} {env:List (Nat×AV)} {avs:Nat→AV} {conds:Nat→Bool} {T:Array Value} {γ:Type}
theorem RInv.wanted {K S1 S:Nat→Prop} {X:WP} {b:Nat→Bool} {a:Act} {w:World} (h:RInv K S1 S w0 N env X l avs conds T b a w) (hN:Q9 l N=true) {i:Nat} {o:Oper} (hd:∀ j∈ZL o,b j=true) (hg:Zae l avs conds i o) (hc:conds i=true):Region.wanted o (yielded l.toArray a.tmps)=true:=by
 unfold Region.wanted
 unfold Zae at hg
 split
 · rfl
 · rename_i j pol hgd
   rw[hgd]at hg
   obtain⟨g,p,d,hj,hpd,hav,hcj,hdep⟩:=hg
   rw[hc]at hcj
   have hcj':conds j=true∧(g==pol)=true:=by simpa using hcj.symm
   have hjd:j∈ZL o:=by simpa using hdep
   have hrel:=h.new j p d hj hpd (hd j hjd) hcj'.1
   rw[hav]at hrel
   have hval:=hrel.lit
   have hlt:d<a.tmps.size:=by rw[h.size];exact Z7 hN hj hpd
   have hget:a.tmps[d]?=some (.bool g):=by
    rw[Array.getD_eq_getD_getElem?,Array.getElem?_eq_getElem hlt]at hval
    rw[Array.getElem?_eq_getElem hlt];simpa using hval
   have hgp:g=pol:=by simpa using hcj'.2
   simp only[yielded,List.getElem?_toArray,hj,Option.bind_some,hpd,hget,hgp]
   simp
def EffY {μ:Type} (pv:μ→Value) (O3:μ→List OB) (n:Rn) (P:Program) (J:WP) (S:Nat→Prop) (w0:World) (env:List (Nat×AV)) (l:List Oper) (avs:Nat→AV) (conds:Nat→Bool) (Stg:(Nat→Bool)→γ→List OB) (sv:Nat→γ→Value) (ch:List Nat) (k i:Nat):Prop:=
 ∃ o,l[i]?=some o∧Zae l avs conds i o∧conds i=true∧
  ∀ D g a w,D k=false→(∀ k' i',ch[k']?=some i'→ZaH l l.length i i'=true→D k'=true)→(∀ k1 k2 i1 i2,ch[k1]?=some i1→ch[k2]?=some i2→D k1=true→ZaH l l.length i1 i2=true→D k2=true)→
   Keeps All w0 w→XO J S w0.heap.size (Stg D g) w→Look (SO S (Stg D g)) w env l avs conds i a→(∀(k' i':Nat) (o':Oper) (d:Nat),D k'=true→ch[k']?=some i'→l[i']?=some o'→o'.dst=some d→a.eval (.tmp d)=sv k' g)→
   ZhF n P o a w (fun v w'=>∃ g',(∀ k',D k'=true→sv k' g'=sv k' g)∧(o.dst.isSome=true→v=sv k g')∧Rel (SO S (Stg (ZdP D k) g')) w' (avs i) v∧Zag J S w0 (Stg D g) w (Stg (ZdP D k) g') w') (fun c w'=>∃ q,c=pch (pv q)∧Zag J S w0 (Stg D g) w (O3 q) w')
theorem ZrH {μ:Type} (pv:μ→Value) (O3:μ→List OB) (Or:List OB) {id:Nat} {draw:Bool} {a:Act} {w:World} (avs:Nat→AV) (conds:Nat→Bool) (env':List (Nat×(γ→AV))) (Stg:(Nat→Bool)→γ→List OB) (sv:Nat→γ→Value) (ch:List Nat) (g0:γ) (h0:∀ g,Stg (fun _=>false) g=O)
 (h:So J S w0 N O env a w) (hJ:Stab J) (hm:P.follows .mixedOrders=true) (hu:Y4 l=true) (hN:Q9 l N=true) (hback:Zbm l=true) (hnd:ZdA ch=true)
 (hsub:∀ D g p,p∈Or→p∈Stg D g) (ob:Obs (ObP n P J S Or w0 env l avs conds ch) 0 l) (eff:Effs (EffY pv O3 n P J S w0 env l avs conds Stg sv ch) 0 ch) (hf:FromGs env l avs conds sv ch env')
 (pan:∀ q a w,So J S w0 N (O3 q) [] a w→Q (.panic (pch (pv q))) a w)
 (hq:∀ g a w,So J S w0 N (Stg (fun k=>decide (k<ch.length)) g) (env'.map fun p=>(p.1,p.2 g)) a w→Q .normal a w):(Code.region id l.toArray draw).wpIn n.F n.d P Q a w:=by
 have start:∀ w',Keeps All w w'→DInv J S w0 N env l avs conds a.tmps Stg sv ch (fun _=>false) g0 (fun _=>false) a w':=fun w' hk=>
  ⟨by
   rw[h0]
   exact⟨h.defs,h.size,h.keep.trans hk,Yw hJ _ _ hk h.x,fun _ _=>rfl,fun _ _ _ _ _ e _=>(by cases e),fun _ _ _ _ _ e _=>(by cases e),fun _ _ _ e=>(by cases e),fun _ h=>h,fun p hp=>⟨(h.env p hp).1,(h.env p hp).2.on hk⟩⟩,
   fun _ _ _=>rfl,fun _ _=>rfl,fun _ _ _ _ hk=>by cases hk⟩
 have hnodup:∀(k k' i:Nat),ch[k]?=some i→ch[k']?=some i→k=k':=fun k k' i h1 h2=>by
  have g1:=List.all_eq_true.1 hnd (i,k) (by rw[List.mem_zipIdx_iff_getElem?];simpa using h1)
  have g2:=List.all_eq_true.1 g1 (i,k') (by rw[List.mem_zipIdx_iff_getElem?];simpa using h2)
  simpa using g2
 refine ZoK (Pn:=fun c a' w'=>∃ q,c=pch (pv q)∧So J S w0 N (O3 q) [] a' w') (I:=fun b a' w'=>∃ D g,DInv J S w0 N env l avs conds a.tmps Stg sv ch D g b a' w') (fun c a' w' ⟨q,hc,hs⟩=>hc▸pan q a' w' hs) hm hback ?_ ?_ ⟨_,g0,start w (Keeps.refl _ _)⟩ ⟨_,g0,start _ (Keeps.refl _ _).drew⟩
 · rintro Q hP b a1 w1 i o rest hi hb hd ⟨D,g,hg⟩ hK
   by_cases hin:∃ k:Nat,ch[k]?=some i
   · obtain⟨k,hk⟩:=hin
     obtain⟨o',ho',hgd,hc,hob⟩:=eff.get k i hk
     rw[hi]at ho';cases ho'
     simp only[Nat.zero_add]at hob
     refine wpListIn_step fun K' hKr=>?_
     rw[if_pos (hg.inv.wanted hN hd hgd hc)]
     refine hob D g a1 w1 (by rw[←hg.done k i hk];exact hb) (fun k' i' hk' hun=>?_) (fun k1 k2 i1 i2 h1 h2 hD hun=>?_) hg.inv.keep hg.inv.x (hg.inv.look hi hb hd) (fun k' i' o' d hk' hi' hl' hd'=>hg.slot k' i' o' d hk' hi' hl' hd') K' Q (fun u w2 ⟨g',e2,e3,e4,hs⟩=>?_) (fun c w2 ⟨q,hc,hs⟩=>hP c a1 w2 ⟨q,hc,hg.inv.defs,hg.inv.size,hs.1,hs.2.1,fun p hp=>by cases hp⟩)
     · rw[←hg.done k' i' hk']
       exact Qm hg.inv.closed _ i _ o hi hd hun
     · rw[←hg.done k2 i2 h2]
       rw[←hg.done k1 i1 h1]at hD
       cases hl:l[i1]? with
       | none=>
        have:∀ f,ZaH l f i1 i2=false:=fun f=>by cases f<;>simp[ZaH,hl]
        rw[this]at hun;cases hun
       | some p=>exact Qm hg.inv.closed _ _ _ p hl (hg.inv.closed _ p hl hD) hun
     refine hKr _ _ (hK _ _ ⟨ZdP D k,g',hg.inv.step3 hu hN hi hd u hs.1 hs.2.2 hs.2.1 hc e4,fun k' i' hk'=>?_,fun k' hk'=>?_,fun k' i' o' d hk' hi' hl' hd'=>?_⟩)
     · by_cases e:i'=i
       · subst e
         have:=hnodup k' k i' hk' hk
         subst this
         simp[Ye,ZdP]
       · simp only[Ye,if_neg e]
         rw[hg.done k' i' hk']
         have:k'≠k:=fun e'=>by subst e';rw[hk]at hk';cases hk';exact e rfl
         simp[ZdP,this]
     · have hkl:k<ch.length:=(List.getElem?_eq_some_iff.1 hk).1
       have:k'≠k:=by omega
       simp[ZdP,this,hg.out k' hk']
     · by_cases e:k'=k
       · subst e
         rw[hk]at hi';cases hi'
         rw[hi]at hl';cases hl'
         rw[hd',XM _ _ _ (by rw[hg.inv.size];exact Z7 hN hi hd')]
         exact e3 (by simp[hd'])
       · have hne:i'≠i:=fun e'=>e (by subst e';exact hnodup k' k i' hi' hk)
         have hk'':D k'=true:=by simpa [ZdP,e]using hk'
         rw[YB _ _ _ _ (fun e'=>hne (Yg hu hl' hi hd' e'))]
         rw[hg.slot k' i' o' d hk'' hi' hl' hd',e2 k' hk'']
   · have hnin:ch.contains i=false:=by
      simp only[List.contains_eq_mem,decide_eq_false_iff_not]
      intro hmem
      obtain⟨k,hk,he⟩:=List.getElem_of_mem hmem
      exact hin ⟨k,by rw[List.getElem?_eq_getElem hk,he]⟩
     have hobi:=Zbw l 0 ob i o hi
     rw[Nat.zero_add]at hobi
     refine hg.inv.does2 hu hN hi hb hd (hobi hnin _ (hsub D g)) fun a' w' h' hsl=>hK _ _ ⟨D,g,h',fun k' i' hk'=>?_,hg.out,fun k' i' o' d hk' hi' hl' hd'=>?_⟩
     · have:i'≠i:=fun e=>hin ⟨k',e▸hk'⟩
       simp only[Ye,if_neg this]
       exact hg.done k' i' hk'
     · have hne:i'≠i:=fun e=>hin ⟨k',e▸hi'⟩
       rw[hsl d (fun e'=>hne (Yg hu hl' hi hd' e'))]
       exact hg.slot k' i' o' d hk' hi' hl' hd'
 · rintro a1 w1 ⟨D,g,hg⟩
   have hall:∀ k,k<ch.length→D k=true:=fun k hk=>by
    have hget:ch[k]?=some (ch[k]'hk):=List.getElem?_eq_getElem _
    obtain⟨o',ho',_⟩:=eff.get k _ hget
    have hb:=hg.done k _ hget
    have hlt2:ch[k]<l.length:=(List.getElem?_eq_some_iff.1 ho').1
    simpa [hlt2]using hb.symm
   have hD:D=fun k=>decide (k<ch.length):=by
    funext k
    by_cases hk:k<ch.length
    · rw[hall k hk];simp[hk]
    · rw[hg.out k oz];simp[hk]
   subst hD
   refine hq g a1 w1 ⟨hg.inv.defs,hg.inv.size,hg.inv.keep,hg.inv.x,fun p hp=>?_⟩
   obtain⟨q,hq',rfl⟩:=List.mem_map.1 hp
   cases hf.mem q hq' with
   | old m s av he hn=>
    have h1:=hg.inv.env (s,av) (List.mem_of_getElem? he)
    refine⟨h1.1,?_⟩
    show Rel _ w1 av (a1.tmps.getD s undef)
    rw[hg.inv.old s fun i o hi ho=>by
     have:=List.all_eq_true.1 hn o (List.mem_of_getElem? hi)
     simp[ho]at this]
    exact h1.2
   | new i s av hs hc he=>
    cases hi:l[i]? with
    | none=>rw[hi]at hs;cases hs
    | some o=>
     rw[hi]at hs
     have hs':o.dst=some s:=hs
     have hlt:i<l.length:=(List.getElem?_eq_some_iff.1 hi).1
     refine⟨Z7 hN hi hs',?_⟩
     have hr:=hg.inv.new i o s hi hs' (by simpa using hlt) hc
     rw[he]at hr
     exact hr
   | eff k i s f hk hs hf ho=>
    cases hi:l[i]? with
    | none=>rw[hi]at hs;cases hs
    | some o=>
     rw[hi]at hs
     have hs':o.dst=some s:=hs
     refine⟨Z7 hN hi hs',?_⟩
     have hr:=hg.slot k i o s (by simpa using(List.getElem?_eq_some_iff.1 hk).1) hk hi hs'
     simp only
     rw[hr,hf]
     exact Rel.of_lit _ (ho g)
theorem Zgn {o:Oper} {a:Act} {w:World} {p p':Value→WP} {f f':List PanicEntry→WP} (h:ZhF n P o a w p f) (h1:∀ v w',p v w'→p' v w') (h2:∀ c w',f c w'→f' c w'):ZhF n P o a w p' f':=fun K Q hK hF=>h K Q (fun v w' hp=>hK v w' (h1 v w' hp)) fun c w' hf=>hF c w' (h2 c w' hf)
def EffZ {μ:Type} (pv:μ→Value) (O3:μ→List OB) (n:Rn) (P:Program) (J:WP) (S:Nat→Prop) (w0:World) (env:List (Nat×AV)) (l:List Oper) (avs:Nat→AV) (conds:Nat→Bool) (F:List Bool→γ→List OB) (sv:Nat→γ→Value) (ch:List Nat) (k i:Nat):Prop:=
 EffY pv O3 n P J S w0 env l avs conds (fun D g=>F ((List.range ch.length).map D) g) (fun k' g=>if k'<ch.length then sv k' g else undef) ch k i
theorem effZ {μ:Type} {pv:μ→Value} {O3:μ→List OB} {F:List Bool→γ→List OB} {sv:Nat→γ→Value} {ch:List Nat} {k i:Nat} {o:Oper} (cs:List (List Bool)) (hcs:Zl9 l ch k=cs) (hki:ch[k]?=some i) (ho:l[i]?=some o) (hg:Zae l avs conds i o) (hc:conds i=true)
 (core:AllB (fun b=>∀ g a w,Keeps All w0 w→XO J S w0.heap.size (F b g) w→Look (SO S (F b g)) w env l avs conds i a→(∀(k' i':Nat) (o':Oper) (d:Nat),b.getD k' false=true→ch[k']?=some i'→l[i']?=some o'→o'.dst=some d→a.eval (.tmp d)=sv k' g)→
  ZhF n P o a w (fun v w'=>∃ g',(∀ k',b.getD k' false=true→sv k' g'=sv k' g)∧(o.dst.isSome=true→v=sv k g')∧Rel (SO S (F (b.set k true) g')) w' (avs i) v∧Zag J S w0 (F b g) w (F (b.set k true) g') w') (fun c w'=>∃ q,c=pch (pv q)∧Zag J S w0 (F b g) w (O3 q) w')) cs):
 EffZ pv O3 n P J S w0 env l avs conds F sv ch k i:=by
 refine⟨o,ho,hg,hc,fun D g a w hD hpre hcl hk hx hl hs=>?_⟩
 have hkl:k<ch.length:=(List.getElem?_eq_some_iff.1 hki).1
 have hkv:ch[k]=i:=(List.getElem?_eq_some_iff.1 hki).2
 have hmem:(List.range ch.length).map D∈cs:=by
  rw[←hcs,Zl9,List.mem_filter]
  refine⟨ZkG D _,?_⟩
  simp only[Xu,Bool.and_eq_true,List.all_eq_true]
  refine⟨by simp[hD],fun p hp q hq=>?_⟩
  obtain⟨hp1,hp2⟩:=List.mem_zipIdx' hp
  obtain⟨hq1,hq2⟩:=List.mem_zipIdx' hq
  by_cases hu:ZaH l l.length p.1 q.1=true
  · have e1:ch[p.2]?=some p.1:=by rw[List.getElem?_eq_getElem hp1,hp2]
    have e2:ch[q.2]?=some q.1:=by rw[List.getElem?_eq_getElem hq1,hq2]
    rw[hu]
    simp only[Bool.not_true,Bool.false_or,Bool.and_eq_true,Bool.or_eq_true,bne_iff_ne,ne_eq,hq1,decide_true,Bool.true_and,hp1]
    refine⟨?_,?_⟩
    · by_cases e:p.2=k
      · right
        rw[e,hki]at e1
        cases e1
        exact hpre q.2 q.1 e2 hu
      · exact .inl e
    · cases hd:D p.2 with
      | false=>exact .inl rfl
      | true=>exact .inr (hcl p.2 q.2 p.1 q.1 e1 e2 hd hu)
  · simp[hu]
 have hset:(List.range ch.length).map (ZdP D k)=((List.range ch.length).map D).set k true:=by
  apply List.ext_getElem?
  intro j
  rw[List.getElem?_set]
  by_cases hj:j<ch.length
  · by_cases e:k=j
    · subst e;simp[hj,ZdP]
    · simp[hj,e,ZdP,Ne.symm (show k≠j from e)]
  · by_cases e:k=j
    · omega
    · simp[hj,e]
 have:=ZhA core hmem g a w hk hx hl fun k' i' o' d hb h1 h2 h3=>by
  rw[Xu]at hb
  simp only[Bool.and_eq_true,decide_eq_true_eq]at hb
  have:=hs k' i' o' d hb.2 h1 h2 h3
  have e:(if k'<ch.length then sv k' g else undef)=sv k' g:=if_pos hb.1
  rw[←e];exact this
 refine Zgn this (fun v w' ⟨g',e1,e2,e3,e4⟩=>⟨g',fun k' hk'=>?_,fun h=>by
  have e:(if k<ch.length then sv k g' else undef)=sv k g':=if_pos hkl
  show v=if k<ch.length then sv k g' else undef
  rw[e];exact e2 h,?_,?_⟩) (fun c w' h=>h)
 · by_cases hlt:k'<ch.length
   · show(if k'<ch.length then sv k' g' else undef)=if k'<ch.length then sv k' g else undef
     rw[if_pos hlt,if_pos hlt]
     exact e1 k' (by rw[Xu];simp[hlt,hk'])
   · show(if k'<ch.length then sv k' g' else undef)=if k'<ch.length then sv k' g else undef
     rw[if_neg hlt,if_neg hlt]
 · show Rel (SO S (F ((List.range ch.length).map (ZdP D k)) g')) w' (avs i) v
   rw[hset];exact e3
 · show Zag J S w0 (F ((List.range ch.length).map D) g) w (F ((List.range ch.length).map (ZdP D k)) g') w'
   rw[hset];exact e4
theorem Zlg {μ:Type} (pv:μ→Value) (O3:μ→List OB) (Or:List OB) {id:Nat} {draw:Bool} {a:Act} {w:World} (avs:Nat→AV) (conds:Nat→Bool) (env':List (Nat×(γ→AV))) (F:List Bool→γ→List OB) (sv:Nat→γ→Value) (ch:List Nat) (g0:γ) (h0:∀ g,F (ch.map fun _=>false) g=O)
 (h:So J S w0 N O env a w) (hJ:Stab J) (hm:P.follows .mixedOrders=true) (hu:Y4 l=true) (hN:Q9 l N=true) (hback:Zbm l=true) (hnd:ZdA ch=true)
 (hsub:∀ b g p,p∈Or→p∈F b g) (ob:Obs (ObP n P J S Or w0 env l avs conds ch) 0 l) (eff:Effs (EffZ pv O3 n P J S w0 env l avs conds F sv ch) 0 ch) (hf:FromGs env l avs conds (fun k' g=>if k'<ch.length then sv k' g else undef) ch env')
 (pan:∀ q a w,So J S w0 N (O3 q) [] a w→Q (.panic (pch (pv q))) a w)
 (hq:∀ g a w,So J S w0 N (F (ch.map fun _=>true) g) (env'.map fun p=>(p.1,p.2 g)) a w→Q .normal a w):(Code.region id l.toArray draw).wpIn n.F n.d P Q a w:=by
 refine ZrH pv O3 Or avs conds env' (fun D g=>F ((List.range ch.length).map D) g) (fun k' g=>if k'<ch.length then sv k' g else undef) ch g0 (fun g=>?_) h hJ hm hu hN hback hnd (fun D g p hp=>hsub _ g p hp) ob eff hf pan fun g a w h=>hq g a w ?_
 · rw[←h0 g]
   congr 1
   apply List.ext_getElem?
   intro j
   by_cases hj:j<ch.length<;>simp[hj]
 · have e:(List.range ch.length).map (fun k=>decide (k<ch.length))=ch.map fun _=>true:=by
    apply List.ext_getElem?
    intro j
    by_cases hj:j<ch.length<;>simp[hj]
   rw[←e]
   exact h
end
theorem Zlk {S S':Nat→Prop} {w:World}:∀ {xs:List Int} {us:List Value},RdL S w (xs.map Xe).flatten us→RdL S' w (xs.map Xe).flatten us
 | [],[],_=>trivial
 | [],_::_,h=>h.elim
 | x::xs,[],h=>h.elim
 | x::xs,u::us,⟨h1,h2⟩=>⟨by cases h1 with | lit _ hv=>exact .lit _ hv,Zlk (xs:=xs) h2⟩
section
variable {n:Rn} {P:Program} {J:WP} {S:Nat→Prop} {O:List OB} {w0 w:World} {o:Oper} {a:Act} {f:FuncId} {args:List Operand} {ts:Array TypeId} {avs:List AV}
theorem r_fnB {b:Bool} (hF:Fn P J f avs (.bool b)) (h1:Zi P f) (hop:o.op= .call { callee:=.value (.func f),args:=args.toArray,argTypes:=ts }) (hS:∀ b,w0.heap.size≤b→S b) (hJ:Stab J) (hk:Keeps All w0 w) (hx:XO J S w0.heap.size O w) (ha:RelL S w avs (args.map a.eval)):
 Does n P o a w (YC (SO S O) (XO J S w0.heap.size O) (.bool b) w):=
 Zl (ZaL (X:=XO J S w0.heap.size O) hF h1 hop (fun k hk'=>hS k (Nat.le_trans hk.size hk')) hx.1 ha fun w' hk'=>Yw hJ _ _ hk' hx) fun v w' ⟨e1,e2,e3⟩=>⟨by rw[e1.lit];exact Rel.of_lit _,e2,e3⟩
theorem ZrR {e:TypeId} {xs:List Int} (hF:FnM (ι:=Value) P J f [] avs [] (fun i=>.lit i) (fun i=>[OB.row i e 1 (xs.map Xe)])) (h1:Zi P f) (hop:o.op= .call { callee:=.value (.func f),args:=args.toArray,argTypes:=ts }) (hS:∀ b,w0.heap.size≤b→S b) (hJ:Stab J) (hk:Keeps All w0 w) (hx:XO J S w0.heap.size O w) (ha:RelL S w avs (args.map a.eval)):
 Does n P o a w (YC (SO S O) (XO J S w0.heap.size O) (.rd (Z3 xs)) w):=by
 refine Zlq h1 hop ?_
 have hS':∀ b,w.heap.size≤b→S b:=fun b hb=>hS b (Nat.le_trans hk.size hb)
 have:=hF S w [] w _ hS' hx.1 Zq (Keeps.refl _ _) (ZkQ hx.1) (ha.sub fun k _ hk=>⟨hk,fun q hq=>(by cases hq)⟩)
 rw[List.map_toArray]
 refine Calls.mono this ?_
 rintro e' w' ⟨i,v,he,hv,hk',hx'⟩
 have hi:=hx'.2.1 (OB.row i e 1 (xs.map Xe)) yz
 obtain rfl:=hv.lit
 refine⟨_,he,?_,hk',Yw hJ _ _ hk' hx⟩
 obtain⟨us,g1,g2,g3⟩:=hi
 exact ZfW (lo:=w.heap.size) (fun b hb=>Zk hS w hk hx b ((OB.row v e 1 (xs.map Xe)).lt ⟨us,g1,g2,g3⟩ b hb).1) ⟨us,g1,Zlk g2,g3⟩
end
section
variable {N:Nat} {J:WP} {S:Nat→Prop} {w0 w:World} {env:List (Nat×AV)} {a:Act} {O:List OB} {o0 o1 o2 o3 o4 o5 o6 o7 o8 o9:OB}
theorem pm8 (h:So J S w0 N (o0::o1::o2::o3::o4::o5::o6::o7::o8::O) env a w):So J S w0 N (o8::o0::o1::o2::o3::o4::o5::o6::o7::O) env a w:=Za5 (YX (A:=[o0,o1,o2,o3,o4,o5,o6,o7])) h
end
section
variable {n:Rn} {P:Program} {J:WP} {S:Nat→Prop} {O R:List OB} {w0 w:World} {o:Oper} {a:Act}
theorem Zxf {κ μ σ:Type} (A:List OB) {l:Nat} {xs:List Operand} {callee:Operand} {ts:Array TypeId} {avl:List AV} {I':κ→List OB} {pv:μ→Value} {O3:μ→List OB} {O4:σ→List OB} (hr:n.r=none) (hop:o.op= .call { callee:=.value callee,args:=xs.toArray,argTypes:=ts })
 (hk0:Keeps All w0 w) (hx:XO J S w0.heap.size (A++(O++R)) w) (hc:a.eval callee= .func (.yield l) #[] #[]) (hv:RelL (SO S (A++(O++R))) w avl (xs.map a.eval))
 (hY:∀(m:Nat) (R':List OB) (w1:World) (vs:List Value),Keeps All w0 w1→XO J S w0.heap.size (O++R') w1→RelL (SO S (O++R')) w1 avl vs→YieldAt Fence.wide m P l vs.toArray w1 (rndE J S w0 I' pv O3 O4 R')):
 ZhF n P o a w (fun v w'=>∃ g:κ ⊕ σ,v= .bool g.isLeft∧Zag J S w0 (A++(O++R)) w (A++g.elim (fun z=>I' z++R) fun s=>O4 s++R) w') (fun c w'=>∃ q,c=pch (pv q)∧Zag J S w0 (A++(O++R)) w (O3 q++(A++R)) w'):=by
 intro K Q hK hF
 obtain⟨nd,nr⟩:=n
 subst hr
 have hp:=ZeA A O R
 have hx1:=YK hp hx
 have hv1:=Zh7 hp hv
 let B:AV→Value→Prop:=fun av v=>Rel (SO S (O++(A++R))) w av v
 have hx2:=ZhK (B:=B) hx1 fun _ _ h=>h
 obtain⟨fn,tmps,assign,body,hy,hR⟩:=hY (nd-1) (OB.was B::(A++R)) w (xs.map a.eval) hk0 hx2 (hv1.sub fun k _ hs=>so_was.2 hs)
 have hrun:(execOp a.eval o).run P w= .ok (.round l fn tmps assign body) w:=by
  simp only[execOp,hop,resolve,hc,Deferred.ofValue,Sem.run_bind,Sem.run_pure,Result.andThen_ok,invoke]
  simpa using hy
 have back:∀ {O':List OB} {w':World},Keeps All w0 w'→XO J S w0.heap.size (O'++OB.was B::(A++R)) w'→Zag J S w0 (A++(O++R)) w (O'++(A++R)) w':=fun hk' hx'=>by
  obtain⟨g1,g2⟩:=Za3 hx'
  exact XT hp.symm (.refl _) ⟨hk',g1,g2⟩
 refine⟨fun _ _=>trivial,?_⟩
 show o.uponIn _ nd P a K Q ((o.semAt none a.eval).run P w)
 rw[Oper.semAt_none,hrun]
 refine⟨fun h=>by simp[Rn.F,Fence.wide]at h,RoundIn.mono hR fun e w' he=>?_⟩
 rcases he with⟨rfl,k,hk',hx'⟩ | ⟨rfl,s,hk',hx'⟩ | ⟨q,rfl,hk',hx'⟩
 · exact hK _ _ ⟨.inl k,rfl,XT (.refl _) (ZeA _ _ _) (back hk' hx')⟩
 · exact hK _ _ ⟨.inr s,rfl,XT (.refl _) (ZeA _ _ _) (back hk' hx')⟩
 · exact hF _ _ ⟨q,rfl,back hk' hx'⟩
end
section
variable {κ:Type} [DecidableEq κ] {Kd:ZaD κ} {α:Type}
theorem Ziz {k:κ}:∀ {L:List (κ×α)},(L.findIdx? fun p=>decide (k=p.1))=none→ZeP L k=L
 | [],_=>rfl
 | p::L,h=>by
  rw[List.findIdx?_cons]at h
  by_cases hk:k=p.1
  · simp[hk]at h
  · rw[decide_eq_false hk]at h
    rw[ZeP,if_neg hk,Ziz (by simpa using h)]
theorem Ziy {k:κ}:∀ {L:List (κ×α)} {n:Nat},(L.findIdx? fun p=>decide (k=p.1))=some n→ZeP L k=L.eraseIdx n
 | [],_,h=>by simp at h
 | p::L,n,h=>by
  rw[List.findIdx?_cons]at h
  by_cases hk:k=p.1
  · rw[decide_eq_true hk]at h
    obtain rfl:0=n:=by simpa using h
    rw[ZeP,if_pos hk];rfl
  · rw[decide_eq_false hk]at h
    cases hf:L.findIdx? fun p=>decide (k=p.1)with
    | none=>rw[hf]at h;simp at h
    | some m=>
     rw[hf]at h
     obtain rfl:m+1=n:=by simpa using h
     rw[ZeP,if_neg hk,Ziy hf];rfl
omit [DecidableEq κ]in
theorem QC {β γ:Type} (f:β→γ):∀(l:List β) (n:Nat),(l.eraseIdx n).map f=(l.map f).eraseIdx n
 | [],_=>rfl
 | _::_,0=>rfl
 | x::l,n+1=>by simp only[List.eraseIdx_cons_succ,List.map_cons,QC f l n]
theorem RelM.del {S:Nat→Prop} {w:World} {f:α→AV} (k:κ):∀ {L:List (κ×α)} {Lv:List (κ×Value)},RelM S w f L Lv→RelM S w f (ZeP L k) (ZeP Lv k)
 | [],[],_=>trivial
 | [],_::_,h=>h.elim
 | _::_,[],h=>h.elim
 | p::L,q::Lv,h=>by
  obtain⟨h1,h2,h3⟩:=h
  unfold ZeP
  rw[h1]
  split
  · exact h3
  · exact⟨h1,h2,RelM.del k h3⟩
theorem ZjT {P:Program} {T K E u:TypeId} (r:TypeId) (hT:P.underlying T=some (.map K E)) (hK:P.underlying K=some Kd.kind) (k:κ) {w:World} {M:Nat} {Lv:List (κ×Value)} (h:IsMap Kd w M Lv):
 ∃ w',(Builtin.delete_ #[T,u] r #[.map (some M),Kd.kv k]).run P w= .ok (.tuple #[]) w'∧IsMap Kd w' M (ZeP Lv k)∧Keeps (· ≠M) w w':=by
 obtain⟨es,clock,hm,hn,hd,hb,hc⟩:=h
 have hlt:M<w.heap.size:=(Array.getElem?_eq_some_iff.1 hm).1
 have hg:(getObj M).run P w= .ok (.map es clock) w:=by simp[getObj,Sem.run,hm]
 have hf:=QZ (w:=w) hK k es.toList _ hn
 have hck:=Kd.chk P K es.isEmpty k w hK
 have e0:(#[T,u]:Array TypeId)[0]?=some T:=rfl
 have e1:(#[.map (some M),Kd.kv k]:Array Value)[0]?=some (.map (some M)):=rfl
 have e2:(#[.map (some M),Kd.kv k]:Array Value)[1]?=some (Kd.kv k):=rfl
 cases hi:Lv.findIdx? fun p=>decide (k=p.1)with
 | none=>
  rw[hi]at hf
  refine⟨{ w with heap:=w.heap.setIfInBounds M (.map es clock) },?_,?_,(Keeps.refl _ _).putObj (fun _ hn=>hn rfl) _⟩
  · unfold Builtin.delete_
    simp only[e0,e1,e2,Sem.run_bind,run_underlying hT,Result.andThen_ok,hg,hck,hf,Sem.run_pure]
    simp[setObj,Sem.run,hm]
  · rw[Ziz hi]
    exact⟨_,_,Array.getElem?_setIfInBounds_self_of_lt hlt,hn,hd,hb,hc⟩
 | some n=>
  rw[hi]at hf
  have htl:(es.eraseIdxIfInBounds n).toList=es.toList.eraseIdx n:=by simp
  refine⟨{ w with heap:=w.heap.setIfInBounds M (.map (es.eraseIdxIfInBounds n) clock) },?_,?_,(Keeps.refl _ _).putObj (fun _ hn=>hn rfl) _⟩
  · unfold Builtin.delete_
    simp only[e0,e1,e2,Sem.run_bind,run_underlying hT,Result.andThen_ok,hg,hck,hf,Sem.run_pure]
    simp[setObj,Sem.run,hm]
  · rw[Ziy hi]
    refine⟨_,_,Array.getElem?_setIfInBounds_self_of_lt hlt,?_,?_,?_,?_⟩
    · rw[htl]
      unfold Zd9 at hn ⊢
      rw[QC,hn,QC]
    · rw[QC]
      exact hd.sublist (List.eraseIdx_sublist _ _)
    · rw[htl,QC]
      exact hb.sublist (List.eraseIdx_sublist _ _)
    · intro e hee
      rw[htl]at hee
      exact hc e (List.mem_of_mem_eraseIdx hee)
end
section
variable {κ:Type} [DecidableEq κ] {Kd:ZaD κ} {α:Type} {f:α→AV} {L:List (κ×α)} {n:Rn} {N:Nat} {P:Program} {J:WP} {S S':Nat→Prop} {O:List OB} {w0:World} {env:List (Nat×AV)} {Q:Exit→Act→WP} {M:Nat} {t K E:TypeId} {o:Oper} {x y:Operand}
theorem d_del {u:TypeId} {a:Act} {w:World} (hT:ZkO P t K E Kd.kind) (hJ:Stab J) (hJ0:J w0) (k:κ) (hop:o.op= .call { callee:=.builtin .delete,args:= #[x,y],argTypes:= #[t,u] }) (hk0:Keeps All w0 w) (hx:XO J S w0.heap.size (OB.map Kd f M L::O) w)
 (g1:Rel S' w (.lit (.map (some M))) (a.eval x)) (g2:Rel S' w (.lit (Kd.kv k)) (a.eval y)):Does n P o a w fun v w'=>v= .tuple #[]∧Zag J S w0 (OB.map Kd f M L::O) w (OB.map Kd f M (ZeP L k)::O) w':=by
 obtain⟨h0,Lv,hm,hr⟩:=hx.2.1 (OB.map Kd f M L) yz
 obtain⟨w',hrun,hm',hk⟩:=ZjT (P:=P) (u:=u) o.type hT.1 hT.2 k hm
 have hk':Keeps (fun b=>¬ (OB.map Kd f M L).blk b) w w':=hk.sub fun b _ hb=>hb
 have hsub:∀ b,b<w.heap.size→SO S (OB.map Kd f M L::O) b→(¬ (OB.map Kd f M L).blk b)∧SO S (OB.map Kd f M (ZeP L k)::O) b:=fun b _ hs=>⟨hs.2 (OB.map Kd f M L) yz,hs.1,fun p hp=>by
  rcases List.mem_cons.1 hp with rfl | hp
  · exact hs.2 (OB.map Kd f M L) yz
  · exact hs.2 p (List.mem_cons_of_mem _ hp)⟩
 refine ZS (v:=.tuple #[]) (w':=w') ?_ ⟨rfl,Zaj (o':=OB.map Kd f M (ZeP L k)) hJ hJ0 hk0 hx hk' (fun b hb=>.inl hb) ⟨h0,_,hm',(hr.move hk' hsub).del k⟩⟩
 simp[execOp,hop,resolve,invoke,builtin,g1.lit,g2.lit,hrun,Result.andThen]
end
end Go.Proofs.YtdfadihhfppjaaaGreatDoor
namespace Go.Proofs.YtdfadihhfppjaaaGreatDoor
structure Zfs (j:Jb) (g:Fr) (step:Nat):Prop where
 fl:∀ h∈g.hyps,h.floating=true→h.text.length=2
 tx:∀ h∈g.hyps,1≤h.text.length∧∀ s∈h.text,s.size≤60
 ts:∀ t∈j.ts,(1≤t.length∧t.length≤2000)∧∀ s∈t,s.size≤60
 st:step<j.ts.length
 m1:∀ s z,Zy j.M s=some z→0≤z∧z< (j.ts.length:Int)
 m2:∀ i,i<j.ts.length→(Zy j.M (XB (ge j.ts i))).isSome=true
 gh:g.hyps.length≤2000
 hi:j.i<j.d.frames.length
 wd:(ge j.d.frames j.i).wide.length*32≤140737488351232
structure BmOk (hs:List Hy) (M:BM):Prop where
 nd:(M.map Prod.fst).Nodup
 ky:∀ q∈M,∃ h∈hs,h.floating=true∧q.1=ge h.text 1
 vl:∀ q∈M,q.2.length≤2000∧∀ s∈q.2,s.size≤60
section
variable {hs:List Hy} {M:BM} {k:BA} {v:List BA}
theorem bm_nil:BmOk hs []:=⟨by simp,by simp,by simp⟩
theorem Zf7:∀ {M:BM},(XK M k v).map Prod.fst=if k∈M.map Prod.fst then M.map Prod.fst else M.map Prod.fst++[k]
 | []=>by simp[XK]
 | p::M=>by
  rw[XK]
  by_cases h:k=p.1
  · rw[if_pos h,if_pos (by simp[h])];rfl
  · rw[if_neg h,List.map_cons,Zf7 (M:=M),List.map_cons]
    by_cases h2:k∈M.map Prod.fst
    · rw[if_pos h2,if_pos (List.mem_cons_of_mem _ h2)]
    · rw[if_neg h2,if_neg (by simp only[List.mem_cons,not_or];exact⟨h,h2⟩)];rfl
theorem mdel_sub:∀ {M:BM},(ZeP M k).Sublist M
 | []=>.slnil
 | p::M=>by
  rw[ZeP];split
  · exact List.sublist_cons_self _ _
  · exact mdel_sub.cons_cons _
theorem BmOk.put (h:BmOk hs M) {y:Hy} (hy:y∈hs) (hf:y.floating=true) (hv:v.length≤2000∧∀ s∈v,s.size≤60):BmOk hs (XK M (ge y.text 1) v):=by
 refine⟨?_,fun q hq=>?_,fun q hq=>?_⟩
 · rw[Zf7]
   split
   · exact h.nd
   · rename_i h2
     rw[List.nodup_append]
     exact⟨h.nd,by simp,fun x hx z hz e=>by rw[List.mem_singleton.1 hz]at e;subst e;exact h2 hx⟩
 · rcases ZgZ hq with hq | ⟨e,_⟩
   · exact h.ky q hq
   · exact⟨y,hy,hf,e⟩
 · rcases ZgZ hq with hq | ⟨_,e⟩
   · exact h.vl q hq
   · rw[e];exact hv
theorem BmOk.del (h:BmOk hs M):BmOk hs (ZeP M k):=
 ⟨h.nd.sublist (mdel_sub.map _),fun q hq=>h.ky q (mdel_sub.subset hq),fun q hq=>h.vl q (mdel_sub.subset hq)⟩
theorem BmOk.len (h:BmOk hs M):M.length≤hs.length:=by
 have:=Zao (ys:=hs.map fun y=>ge y.text 1) h.nd fun x hx=>by
  obtain⟨q,hq,rfl⟩:=List.mem_map.1 hx
  obtain⟨y,hy,_,e⟩:=h.ky q hq
  rw[e];exact List.mem_map_of_mem (f:=fun y:Hy=>ge y.text 1) hy
 simpa using this
theorem BmOk.key (h:BmOk hs M) (ht:∀ y∈hs,y.floating=true→y.text.length=2) (hz:∀ y∈hs,∀ s∈y.text,s.size≤60):∀ q∈M.map (·.1),q.size≤9223372036854775807:=fun q hq=>by
 obtain⟨x,hx,rfl⟩:=List.mem_map.1 hq
 obtain⟨y,hy,hf,e⟩:=h.ky x hx
 have h2:=ht y hy hf
 have h1:=hz y hy (ge y.text 1) (Zp oz)
 show x.1.size≤_
 rw[e];omega
theorem BmOk.lst (h:BmOk hs M):∀ b∈YY M,b.text.length≤2000∧∀ s∈b.text,s.size≤60:=ZpD (p:=fun t=>t.length≤2000∧∀ s∈t,s.size≤60) h.vl
end
section
variable {j:Jb} {g:Fr} {step k a n:Nat} {M:BM} {al:List Int}
theorem Zod (hT:Zfs j g step):∀(hs:List Hy),(∀ h∈hs,h∈g.hyps)→∀(M:BM) (al:List Int),BmOk g.hyps M→BmOk g.hyps (ZhG j g step hs M al).2
 | [],_,M,al,h=>by
  rw[ZhG];split<;>exact h
 | y::hs,hm,M,al,h=>by
  rw[ZhG]
  split
  · have hy:y∈g.hyps:=hm y List.mem_cons_self
    have key:∀(l:List Nat) (q:List (List Int)×BM),(∀ t∈l,ZnQ j y t=true→t<j.ts.length)→BmOk g.hyps q.2→BmOk g.hyps (l.foldl (Zjv (ZhG j g step hs) j y al) q).2:=by
     intro l
     induction l with
     | nil=>intro q _ hq;exact hq
     | cons t l ih=>
      intro q hl hq
      rw[List.foldl_cons]
      refine ih _ (fun t' ht'=>hl t' (List.mem_cons_of_mem _ ht')) ?_
      unfold Zjv
      split
      · rename_i ho
        have hlt:=hl t List.mem_cons_self ho
        have h1:=hT.ts _ (Zp hlt)
        have h2:((ge j.ts t).drop 1).length≤2000∧∀ s∈(ge j.ts t).drop 1,s.size≤60:=⟨by rw[List.length_drop];omega,fun s hs=>h1.2 s (List.mem_of_mem_drop hs)⟩
        cases hf:y.floating with
        | true=>exact(Zod hT hs (fun h hh=>hm h (List.mem_cons_of_mem _ hh)) _ _ (hq.put hy hf h2)).del
        | false=>exact Zod hT hs (fun h hh=>hm h (List.mem_cons_of_mem _ hh)) _ _ hq
      · exact hq
    refine key _ _ (fun t _ ho=>?_) h
    unfold ZnQ at ho
    simp only[Bool.and_eq_true,decide_eq_true_eq]at ho
    have:=(hT.m1 _ _ ho.1).2
    omega
  · exact h
theorem Zof (hT:Zfs j g step) (h:BmOk g.hyps M):BmOk g.hyps (Zbk j g step k M al).2:=Zod hT _ (fun _ hh=>List.mem_of_mem_drop hh) M al h
theorem ZvA (ho:ZnQ j (ge g.hyps k) (a+n)=true):Zcc j g step k M al a (n+1)=
 ((Zcc j g step k M al a n).1++(Zbk j g step (k+1) (if(ge g.hyps k).floating then XK (Zcc j g step k M al a n).2 (ge (ge g.hyps k).text 1) ((ge j.ts (a+n)).drop 1)else(Zcc j g step k M al a n).2) (al++[((a+n:Nat):Int)])).1,
  if(ge g.hyps k).floating then ZeP (Zbk j g step (k+1) (if(ge g.hyps k).floating then XK (Zcc j g step k M al a n).2 (ge (ge g.hyps k).text 1) ((ge j.ts (a+n)).drop 1)else(Zcc j g step k M al a n).2) (al++[((a+n:Nat):Int)])).2 (ge (ge g.hyps k).text 1)
  else(Zbk j g step (k+1) (if(ge g.hyps k).floating then XK (Zcc j g step k M al a n).2 (ge (ge g.hyps k).text 1) ((ge j.ts (a+n)).drop 1)else(Zcc j g step k M al a n).2) (al++[((a+n:Nat):Int)])).2):=by
 rw[Zel,Zjv,if_pos ho]
theorem ZuV (hT:Zfs j g step) {t:Nat} (ht:t<j.ts.length) {y:Hy}:ZnQ j y t= !(!decide ((Zy j.M (XB (ge j.ts t))).getD default=(t:Int))|| !decide (ge (ge j.ts t) 0=ge y.text 0)):=by
 obtain⟨z,hz⟩:=Option.isSome_iff_exists.1 (hT.m2 t ht)
 unfold ZnQ
 rw[hz]
 simp only[Option.getD_some,Option.some.injEq,Bool.not_or,Bool.not_not]
variable {hs:List Hy} {h:Hy}
theorem ZgC (hf:h.floating=true):Za6 j hs step h M=(0,step):=if_neg fun e=>by simp[hf]at e
theorem ZjN (hb:ZxS hs M h.text=false):Za6 j hs step h M=(0,step):=if_neg fun e=>by simp[hb]at e
theorem Zeq (hf:h.floating=false) (hb:ZxS hs M h.text=true) (hn:((!decide ((if XZ (ZQ (YY M)) h.text 2000 then(0:Int)else 15)=0)|| !(Zy j.M (XB (if XZ (ZQ (YY M)) h.text 2000 then Xp (ZQ (YY M)) h.text else []))).isSome)||decide ((step:Int)≤(Zy j.M (XB (if XZ (ZQ (YY M)) h.text 2000 then Xp (ZQ (YY M)) h.text else []))).getD default))=true):Za6 j hs step h M=(0,0):=by
 rw[Za6,if_pos ⟨hf,hb⟩]
 cases hl:XZ (ZQ (YY M)) h.text 2000 with
 | false=>simp
 | true=>
  rw[hl]at hn
  simp only[if_true]at hn ⊢
  cases hm:Zy j.M (XB (Xp (ZQ (YY M)) h.text))with
  | none=>rfl
  | some z=>
   rw[hm]at hn
   simp only[Option.isSome_some,Option.getD_some,decide_true,Bool.not_true,Bool.or_self,Bool.false_or,decide_eq_true_eq]at hn
   exact if_neg oz
theorem sp_one (hT:Zfs j g step) (hf:h.floating=false) (hb:ZxS hs M h.text=true) (hn:((!decide ((if XZ (ZQ (YY M)) h.text 2000 then(0:Int)else 15)=0)|| !(Zy j.M (XB (if XZ (ZQ (YY M)) h.text 2000 then Xp (ZQ (YY M)) h.text else []))).isSome)||decide ((step:Int)≤(Zy j.M (XB (if XZ (ZQ (YY M)) h.text 2000 then Xp (ZQ (YY M)) h.text else []))).getD default))=false):
 0≤(Zy j.M (XB (if XZ (ZQ (YY M)) h.text 2000 then Xp (ZQ (YY M)) h.text else []))).getD default∧(Zy j.M (XB (if XZ (ZQ (YY M)) h.text 2000 then Xp (ZQ (YY M)) h.text else []))).getD default< (step:Int)∧
 Za6 j hs step h M=(((Zy j.M (XB (if XZ (ZQ (YY M)) h.text 2000 then Xp (ZQ (YY M)) h.text else []))).getD default).toNat,((Zy j.M (XB (if XZ (ZQ (YY M)) h.text 2000 then Xp (ZQ (YY M)) h.text else []))).getD default).toNat+1):=by
 rw[Za6,if_pos (c:=h.floating=false∧ZxS hs M h.text=true) ⟨hf,hb⟩]
 cases hl:XZ (ZQ (YY M)) h.text 2000 with
 | false=>rw[hl]at hn;simp at hn
 | true=>
  rw[hl]at hn
  simp only[if_true]at hn ⊢
  cases hm:Zy j.M (XB (Xp (ZQ (YY M)) h.text))with
  | none=>rw[hm]at hn;simp at hn
  | some z=>
   rw[hm]at hn
   simp only[Option.isSome_some,Option.getD_some,decide_true,Bool.not_true,Bool.or_self,Bool.false_or,decide_eq_false_iff_not]at hn
   have h0:=(hT.m1 _ _ hm).1
   refine⟨h0,by simp only[Option.getD_some];omega,?_⟩
   simp only[Option.getD_some]
   exact if_pos (show z< (step:Int) by omega)
theorem Zd7 (hT:Zfs j g step) (h:BmOk g.hyps M) {y:Hy} (hy:y∈g.hyps):(if XZ (ZQ (YY M)) y.text 2000 then Xp (ZQ (YY M)) y.text else []).length≤2000∧∀ s∈(if XZ (ZQ (YY M)) y.text 2000 then Xp (ZQ (YY M)) y.text else []),s.size≤60:=by
 cases hl:XZ (ZQ (YY M)) y.text 2000 with
 | false=>simp
 | true=>
  simp only[if_true]
  refine⟨by simpa [XZ]using hl,Zq8 (p:=fun s=>s.size≤60) (fun b hb s hs=>(h.lst b hb).2 s hs) (hT.tx y hy).2⟩
end
section
variable {j:Jb} {g:Fr} {step k a n b:Nat} {M M2 M3:BM} {al al2:List Int} {pre pre2:List (List Int)}
theorem Zoe (hT:Zfs j g step) (hk:k<g.hyps.length) (h:BmOk g.hyps M):∀ n,BmOk g.hyps (Zcc j g step k M al a n).2
 | 0=>h
 | n+1=>by
  have ih:=Zoe hT hk h n
  rw[Zel]
  unfold Zjv
  split
  · rename_i ho
    have hlt:a+n<j.ts.length:=by
     unfold ZnQ at ho
     simp only[Bool.and_eq_true,decide_eq_true_eq]at ho
     have:=(hT.m1 _ _ ho.1).2
     omega
    have h1:=hT.ts _ (Zp hlt)
    have h2:((ge j.ts (a+n)).drop 1).length≤2000∧∀ s∈(ge j.ts (a+n)).drop 1,s.size≤60:=⟨by rw[List.length_drop];omega,fun s hs=>h1.2 s (List.mem_of_mem_drop hs)⟩
    cases hf:(ge g.hyps k).floating with
    | true=>exact(Zof hT (ih.put (Zp hk) hf h2)).del
    | false=>exact Zof hT ih
  · exact ih
theorem put_ok (hT:Zfs j g step) (hk:k<g.hyps.length) (ha:a<j.ts.length) (h:BmOk g.hyps M):BmOk g.hyps (if(ge g.hyps k).floating then XK M (ge (ge g.hyps k).text 1) ((ge j.ts a).drop 1)else M):=by
 have h1:=hT.ts _ (Zp ha)
 have h2:((ge j.ts a).drop 1).length≤2000∧∀ s∈(ge j.ts a).drop 1,s.size≤60:=⟨by rw[List.length_drop];omega,fun s hs=>h1.2 s (List.mem_of_mem_drop hs)⟩
 cases hf:(ge g.hyps k).floating with
 | true=>exact h.put (Zp hk) hf h2
 | false=>exact h
theorem Zej (h:(XJ g.hyps M g.text (ge j.ts step)).1=false):pre=pre++(Zbk j g step k M al).1∧M=(Zbk j g step k M al).2:=by rw[Zvw h];simp
theorem Zob (h:(XJ g.hyps M g.text (ge j.ts step)).1=true) (hk:k=g.hyps.length) (hg:Zdj j g al step=false):pre=pre++(Zbk j g step k M al).1∧M=(Zbk j g step k M al).2:=by rw[Zuv h hk,hg];simp
theorem ZfM (h:(XJ g.hyps M g.text (ge j.ts step)).1=true) (hk:k=g.hyps.length) (hg:Zdj j g al step=true):pre++[al]=pre++(Zbk j g step k M al).1∧M=(Zbk j g step k M al).2:=by rw[Zuv h hk,hg];simp
theorem Zek (h:(XJ g.hyps M g.text (ge j.ts step)).1=true) (hk:k<g.hyps.length) (hs:Za6 j g.hyps step (ge g.hyps k) M=(0,0)):pre=pre++(Zbk j g step k M al).1∧M=(Zbk j g step k M al).2:=by rw[Zvx h hk,hs];simp[ZjF]
theorem ZhQ (h:(XJ g.hyps M g.text (ge j.ts step)).1=true) (hk:k<g.hyps.length) (hs:Za6 j g.hyps step (ge g.hyps k) M=(a,b)) (hn:a+n=b) (h1:pre2=pre++(Zcc j g step k M al a n).1) (h2:M2=(Zcc j g step k M al a n).2):pre2=pre++(Zbk j g step k M al).1∧M2=(Zbk j g step k M al).2:=by
 rw[Zvx h hk,hs]
 have:b-a=n:=by omega
 simp only[this]
 exact⟨h1,h2⟩
theorem tz_pre {xs:List (List Int)} (h:(XJ g.hyps M g.text (ge j.ts step)).1=true) (hk:k<g.hyps.length) (hs:Za6 j g.hyps step (ge g.hyps k) M=(a,b)) (hp:pre++(Zbk j g step k M al).1<+:xs):pre++(Zcc j g step k M al a (b-a)).1<+:xs:=by
 rw[Zvx h hk,hs]at hp;exact hp
theorem Za4 {z1:List (List Int)} {zM:BM} (h1:pre2=pre++(Zcc j g step k M al a n).1) (h2:M2=(Zcc j g step k M al a n).2) (h3:M3=if(ge g.hyps k).floating then XK M2 (ge (ge g.hyps k).text 1) ((ge j.ts (a+n)).drop 1)else M2) (h4:al2=al) (ho:ZnQ j (ge g.hyps k) (a+n)=true)
 (ez:z1=pre2++(Zbk j g step (k+1) M3 (al2++[((a+n:Nat):Int)])).1∧zM=(Zbk j g step (k+1) M3 (al2++[((a+n:Nat):Int)])).2):
 z1=pre++(Zcc j g step k M al a (n+1)).1∧(if(ge g.hyps k).floating then ZeP zM (ge (ge g.hyps k).text 1)else zM)=(Zcc j g step k M al a (n+1)).2:=by
 rw[ZvA ho,←h2,←h3,←h4]
 exact⟨by rw[ez.1,h1,h4,List.append_assoc],by rw[ez.2]⟩
theorem Zux {x:Int} (h:al.length=k):(al++[x]).take k=al:=by rw[←h];simp
end
end Go.Proofs.YtdfadihhfppjaaaGreatDoor
