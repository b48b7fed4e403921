/-
  CONTRACTS of the program: the changes of a step.
  MINIMIZE (plain): a job made of a proof that is right is as the walk wants it; the rounds that fill its map.
  CONTRACTS of the program: a job made of a proof; changes of a proof.
  MINIMIZE (plain): the order of changes, the least of them.
  CONTRACTS of the program: the least of changes.
  MINIMIZE (plain): the search, round by round.
  CONTRACTS of the program: the search.
  MINIMIZE (plain): what the search leaves is not longer; few.
  CONTRACTS of the law: few; proofs that are the same; the search, right or not.
  CONTRACTS of the law: the example.
  THE LAW MinimizeDone returns true.
-/
import Derived.Test.YtdfadihhfppjaaaGreatDoorPAC
set_option maxHeartbeats 8000000
set_option maxRecDepth 100000
namespace Go.Proofs.YtdfadihhfppjaaaGreatDoor
open Go.Proofs.Tryz (prog)
open Go.RowKit
theorem Zu0:Zj prog 69:=Zn Tryz.func69 rfl rfl
theorem ZjF:Zsa prog 37 6:=⟨(#[.int .i64 0,.int .i64 0,.string ⟨#[]⟩,.slice none 0 0,.int .i64 0,.int .i64 0]),rfl,by kernel_rfl⟩
theorem ZsE:XH prog 42:=fun w=>by kernel_rfl
theorem YY:Yl prog 42 37 6:=⟨by kernel_rfl,fun w=>by kernel_rfl⟩
theorem Zmt:Zcl prog 37:=⟨.agg #[.int .i64 0,.int .i64 0,.string ⟨#[]⟩,.slice none 0 0,.int .i64 0,.int .i64 0],fun w=>by kernel_rfl⟩
theorem Zew:Zir prog 42 37 6 72:=Zs6 (.agg #[.int .i64 0,.int .i64 0,.string ⟨#[]⟩,.slice none 0 0,.int .i64 0,.int .i64 0]) (by kernel_rfl) (by kernel_rfl) rfl dz (fun w=>by kernel_rfl)
theorem Zm1:Y9 prog 42 1:=fun w=>by kernel_rfl
theorem ZmC:Zc2 prog 42 [.lit (.slice none 0 0)]:=⟨(.slice none 0 0),fun w=>by kernel_rfl,fun S w=>(show RdL S w [.lit (.slice none 0 0)] [.slice none 0 0]from⟨.lit _ True.intro,trivial⟩)⟩
theorem Zlo:Zc2 prog 134 [.lit .nilFunc]:=⟨(.nilFunc),fun w=>by kernel_rfl,fun S w=>(show RdL S w [.lit .nilFunc] [.nilFunc]from⟨.lit _ True.intro,trivial⟩)⟩
theorem Zlz:Y9 prog 134 1:=fun w=>by kernel_rfl
theorem ZnC:XH prog 134:=fun w=>by kernel_rfl
theorem Zh2:ZcW prog 37 [.int .i64 0,.int .i64 0,.string ⟨#[]⟩,.slice none 0 0,.int .i64 0,.int .i64 0]:=⟨fun i=>(#[(0,1),(1,1),(2,1),(3,1),(4,1),(5,1)]:Array (Nat×Nat))[i]?,fun j hj=>by rcases j with _ | _ | _ | _ | _ | _ | j<;>first | rfl | (simp at hj;omega) | simp at hj,fun parts=>by kernel_rfl⟩
theorem ZoV:Zj prog 75:=Zn Tryz.func75 rfl rfl
theorem ZuZ:Zj prog 76:=Zn Tryz.func76 rfl rfl
theorem ZrY:Zj prog 101:=Zn Tryz.func101 rfl rfl
theorem ZsC {J:WP} (hJ:Stab J) (bj oj bo:Nat) (d:Db) (i:Nat) (ss:List Stp) (ts:List (List BA)) (M:Nat) (c:Chg) (vo:Value) (xs:List Chg) (hok:ZeD ss) (hs0:0≤c.step) (hs1:c.step< (ss.length:Int)) (hca:∀ a∈c.args,0≤a∧a<c.step) (hcl:c.args.length≤40) (hc1:c.reason=2∨1≤c.args.length) (hxl:xs.length≤3000000):FnM (ι:=Value) prog J 75 [] [.agg (chC c),.at bj oj,.at bo 0] [OB.pt bj oj [.ptr [Zb d.consts,Zb d.vars,Yq d.frames,.lit (.int .i64 (((i:Nat):Int))),ZQ ss,Zo ts,.lit (.int .i64 ((((ZH ss):Nat):Int))),.lit (.map (some M))]],OB.var bo [.lit vo],OB.row vo 37 6 (xs.map chC)] (fun _=>.tup []) (fun i'=>[OB.pt bj oj [.ptr [Zb d.consts,Zb d.vars,Yq d.frames,.lit (.int .i64 (((i:Nat):Int))),ZQ ss,Zo ts,.lit (.int .i64 ((((ZH ss):Nat):Int))),.lit (.map (some M))]],OB.var bo [.lit (i')],OB.row i' 37 6 ((xs++(X0 ss c).toList).map chC)]):=by
 refine fEM Tryz.func75 fun S w0 R hS hJ0 hH=>?_
 refine YT (B:=So J S w0 17 (OB.pt bj oj [.ptr [Zb d.consts,Zb d.vars,Yq d.frames,.lit (.int .i64 (((i:Nat):Int))),ZQ ss,Zo ts,.lit (.int .i64 ((((ZH ss):Nat):Int))),.lit (.map (some M))]]::OB.var bo [.lit vo]::OB.row vo 37 6 (xs.map chC)::R) [(0,.agg (chC c)),(1,.at bj oj),(2,.at bo 0)]) ?_ fun a w h=>h
 refine tw (ZmR (i:=0) (m:=1) rfl rfl) (ZK tb hJ [0,2,1000] [.ptr (chC c)] [0] [_,_,_] rfl ⟨iBo hS hJ,trivial⟩ ?_)
 refine tsq (snK 2 tb rfl (sy (.tup [.agg (chC (ZbI ss c)),.bool (decide ((((XY ss c).length:Nat):Int)< ((ZH ss:Nat):Int)))]) (fun h=>Zbj (p_good hJ d i ss ts M c (by exact hok) (by exact hs0) (by exact hs1) (by exact hca) (by exact hcl) (by exact hc1)) Zu0 rfl (Zm hS _ h.keep h.x) (h.x.1) (Za (h.get 1 rfl) (Za (h.get 0 rfl) Zd)) (jo hJ h.x)) ?_))
 refine snK 3 tb rfl (X1 (cs:=chC (ZbI ss c)) ZjF rfl rfl rfl (lb rfl) rfl rfl rfl dz (m:=1) rfl rfl (fun a w h=>Zm hS _ h.keep h.x _ nlr) (fun a w h w' hk'=>Yn hJ _ _ hk' h.x) ?_)
 refine snK 1 tb rfl (seK [0,1,9] [_,_,_] rfl ?_)
 refine nx (qso tb hJ [1,2,1000] [_] [_,_,_] ?_)
 refine cj 2 (fun hb1=>?_) fun hb1=>?_
 ·
  try simp at hb1
  refine ZS (sq (.lit vo) rfl rfl (lb rfl) (fun _ _ h=>Zs ZsE rfl (Zf h.x (mo 1 rfl)) (h.get 1 rfl) rfl h.x) ?_)
  refine snK 1 tb rfl (sy (.rd (Zeq ([(ZbI ss c)]))) (fun h=>Zg7 YY Zmt rfl rfl (h.get 0 rfl) (Zm hS _ h.keep h.x _ nlr) (jo hJ h.x)) ?_)
  refine kw pm2 (Yx (f:=chC) (m:=2) (s:=13) xs ([(ZbI ss c)]) (fun _=>rfl) Zew hJ hJ0 rfl rfl rfl (lb rfl) rfl rfl (fun a w h=>(h.get 0 rfl)) (by simp;omega) (by simp;omega) fun v1=>?_)
  refine kw pm2 (Yb (b:=bo) (off:=0) (es:=[_]) hJ hJ0 Zm1 rfl rfl rfl (lb rfl) rfl (fun a w h=>⟨(h.get 5 rfl),(h.get 0 rfl)⟩) ?_)
  refine seK [1] [_] rfl (kw pm1 ?_)
  refine kw pm1 (kw pm2 ?_)
  exact kw (ob2 (congrArg (fun z'=>OB.row v1 37 6 ((z').map chC)) (show(xs++([(ZbI ss c)]))=((xs++(X0 ss c).toList))from by first | (rw[X0,if_pos hb1];rfl) | (rw[X0,if_neg oz];simp)))) (fun a w h=>Zi0  v1 rfl h rfl)
 ·
  try simp at hb1
  exact Zc (kw (ob2 (congrArg (fun z'=>OB.row vo 37 6 ((z').map chC)) (show xs=((xs++(X0 ss c).toList))from by first | (rw[X0,if_pos hb1];rfl) | (rw[X0,if_neg oz];simp)))) (fun a w h=>Zi0  vo rfl h rfl))
theorem Znr {J:WP} (hJ:Stab J) (d:Db) (i:Nat) (ss:List Stp) (ts:List (List BA)) (M:Nat) (mm:List (BA×Int)) (step:Nat) (hW:JobW (⟨d,i,ss,ts,mm⟩:Jb)) (hs:step<ss.length):FnM (ι:=Unit) prog J 41 [OB.mI M mm] [.ptr [Zb d.consts,Zb d.vars,Yq d.frames,.lit (.int .i64 (((i:Nat):Int))),ZQ ss,Zo ts,.lit (.int .i64 ((((ZH ss):Nat):Int))),.lit (.map (some M))],.int (step:Nat)] [] (fun _=>.rd (Zeq (Zc1 (⟨d,i,ss,ts,mm⟩:Jb) step))) (fun _=>[]):=by
 refine Zfk (N:=67) Tryz.func41 rfl rfl (lb rfl) fun S w0 R hS hJ0 hH=>?_
 refine atw (B:=So J S w0 67 (R) [(0,.ptr [Zb d.consts,Zb d.vars,Yq d.frames,.lit (.int .i64 (((i:Nat):Int))),ZQ ss,Zo ts,.lit (.int .i64 ((((ZH ss):Nat):Int))),.lit (.map (some M))]),(1,.int (step:Nat))]) (fun h=>h) ?_
 have hl0:ts.length=ss.length:=hW.len
 have hfst:=hW.fst hs
 have hok:ZeD ss:=hW.ok
 have h16:ss.length≤16:=hW.l16
 have hf16:d.frames.length≤16:=hW.f16
 have hil:i<d.frames.length:=hW.hi
 refine XA (m:=5) ?_
 refine YR tb hJ [1000,1001] [.ptr [.ptr [Zb d.consts,Zb d.vars,Yq d.frames,.lit (.int .i64 (((i:Nat):Int))),ZQ ss,Zo ts,.lit (.int .i64 ((((ZH ss):Nat):Int))),.lit (.map (some M))]],.ptr [.lit (.int .i64 (((step:Nat):Int)))],_] [0,1] [_,_] rfl ⟨fun _ _ hk hx hl _=>ZfR rfl (hl.env 0 0 _ rfl rfl) (Zm hS _ hk hx _ nlr) (jo hJ hx),fun _ _ hk hx hl _=>Zao rfl (hl.env 1 1 _ rfl rfl) (Zm hS _ hk hx _ nlr) (jo hJ hx),trivial⟩ ?_
 refine ZeK ?_
 refine XA (m:=5) ?_
 refine tw (Z7 37 6 hJ) (ZS (ZA ZmC hJ rfl rfl rfl (lb rfl) fun b1=>?_))
 refine seK [0,1,2] [_,_,_] rfl (ZeK ?_)
 refine XA (m:=5) ?_
 refine ZpB (m:=1) rfl fun bj oj=>?_
 refine ZS (sq (.lit (.func (.func 75) #[] #[.pointer (some ⟨bj,oj,none⟩),.pointer (some ⟨b1,0,none⟩)])) rfl rfl (lb rfl) (fun _ _ h=>Zg6 (caps:=[(Go.Operand.tmp 2),(Go.Operand.tmp 5)]) rfl (map_cons (h.get 0 rfl).lit (map_cons (h.get 1 rfl).lit map_nil)) h.x) ?_)
 refine ZA Zlo hJ rfl rfl rfl (lb rfl) fun b2=>?_
 refine Yb (b:=b2) (off:=0) (es:=[_]) hJ hJ0 Zlz rfl rfl rfl (lb rfl) rfl (fun a w h=>⟨(h.get 0 rfl),(h.get 1 rfl)⟩) ?_
 refine seK [0,2,3,4] [_,_,_,_] rfl (kw (ZmR (i:=1) (m:=1) rfl rfl) ?_)
 refine ZeK ?_
 refine XA (m:=5) ?_
 refine ZK tb hJ [0,1,2,3,1007,1010,1013] [_,_,_,_,_,_,_,_,_,.ptr [Zb (ge ts step)],_,.str (Xz (ge ts step)),.int (((Zw mm (Xz (ge ts step))).getD default)),_] [9,11,12] [_,_,_,_,_,_,_] rfl ⟨iIx Yh,iFo hS hJ (Zp2 hJ (ge ts step) (by exact(hW.ts _ (Zg (show step<ts.length by omega))).1.2) (by exact(hW.ts _ (Zg (show step<ts.length by omega))).2)) Zgo,fun _ _ hk hx hl _=>ZfQ (Kd:=keyS) (f:=(fun z':Int=>AV.int z')) (L:=mm) ZaI ZbC (Xz (ge ts step)) rfl (ZI hH hk hx (mo 0 rfl)) (hl.D 3 15 rfl rfl) (hl.D 11 23 rfl rfl) hx,trivial⟩ ?_
 refine ln 4 fun hl1=>?_
 refine ln 5 fun hl2=>?_
 refine qso tb hJ [0,1,2,3,6,1002] [_,_,_] [_,_,_,_,_,_] ?_
 refine jnoA (ι:=Value×(List Chg)) (fun(_,xj)=>(xj=Zmg (⟨d,i,ss,ts,mm⟩:Jb) step 0)) (fun(wj,xj)=>(OB.var b2 [.lit (.func (.func 75) #[] #[.pointer (some ⟨bj,oj,none⟩),.pointer (some ⟨b1,0,none⟩)])]::OB.pt bj oj [.ptr [Zb d.consts,Zb d.vars,Yq d.frames,.lit (.int .i64 (((i:Nat):Int))),ZQ ss,Zo ts,.lit (.int .i64 ((((ZH ss):Nat):Int))),.lit (.map (some M))]]::OB.var b1 [.lit wj]::OB.row wj 37 6 (xj.map chC)::R)) (fun(_,_)=>[(2,.ptr [.ptr [Zb d.consts,Zb d.vars,Yq d.frames,.lit (.int .i64 (((i:Nat):Int))),ZQ ss,Zo ts,.lit (.int .i64 ((((ZH ss):Nat):Int))),.lit (.map (some M))]]),(6,.at b2 0),(5,.at b1 0),(3,.ptr [.lit (.int .i64 (((step:Nat):Int)))])]) ?_ ?_
 ·
  refine cj 5 (fun hb1=>?_) fun hb1=>?_
  ·
   try simp at hb1
   refine ZS (sq (.lit (.func (.func 75) #[] #[.pointer (some ⟨bj,oj,none⟩),.pointer (some ⟨b1,0,none⟩)])) rfl rfl (lb rfl) (fun _ _ h=>Zs ZnC rfl (Zf h.x (mo 0 rfl)) (h.get 1 rfl) rfl h.x) ?_)
   refine snK 2 tb (env':=[(30,_),(29,_),(28,_),(2,_),(6,_),(5,_),(3,_),(7,_),(27,_)]) rfl (sy (.rd (ZX ([((Zw mm (Xz (ge ts step))).getD default)]))) (fun h=>YB ZC Zdk rfl (h.get 0 rfl) (Zm hS _ h.keep h.x _ nlr) (jo hJ h.x)) ?_)
   refine sq (.agg (chC ((⟨(1:Int),((step:Nat):Int),⟨#[]⟩,[((Zw mm (Xz (ge ts step))).getD default)],0,0⟩:Chg)))) rfl rfl (lb rfl) (fun a _ h=>XJ (ps:=[(0,a.eval (Go.Operand.const (Go.Value.int Go.IntKind.i64 1))),(1,a.eval (Go.Operand.tmp 29)),(3,a.eval (Go.Operand.tmp 31))]) (us:=[a.eval (Go.Operand.const (Go.Value.int Go.IntKind.i64 1)),a.eval (Go.Operand.tmp 29),.string ⟨#[]⟩,a.eval (Go.Operand.tmp 31),.int .i64 0,.int .i64 0]) Zh2 rfl yz (Zml (lb rfl) rfl (Zml (lb rfl) (Rel.oneC (h.get 2 rfl)) (Zml (lb rfl) (Rel.oneC (h.get 0 rfl)) Zms))) rfl (Zp (Rel.of_lit (Go.Value.int Go.IntKind.i64 1)) (Zp (h.get 2 rfl) (Qp (.lit _ nzl) (Zp (h.get 0 rfl) (Qp (.lit _ True.intro) (Qp (.lit _ True.intro) Z4)))))) h.x) ?_
   refine kw pm3 (kw pm3 ?_)
   refine kw pm3 (Zsm (O:=[OB.pt bj oj [.ptr [Zb d.consts,Zb d.vars,Yq d.frames,.lit (.int .i64 (((i:Nat):Int))),ZQ ss,Zo ts,.lit (.int .i64 ((((ZH ss):Nat):Int))),.lit (.map (some M))]],OB.var b1 [.lit (.slice none 0 0)],OB.row (.slice none 0 0) 37 6 (([]:List Chg).map chC)]) (R:=(OB.var b2 [.lit (.func (.func 75) #[] #[.pointer (some ⟨bj,oj,none⟩),.pointer (some ⟨b1,0,none⟩)])]::R)) [.agg (chC ((⟨(1:Int),((step:Nat):Int),⟨#[]⟩,[((Zw mm (Xz (ge ts step))).getD default)],0,0⟩:Chg)))] [.pointer (some ⟨bj,oj,none⟩),.pointer (some ⟨b1,0,none⟩)] [.at bj oj,.at b1 0] (ZsC hJ bj oj b1 d i ss ts M ((⟨(1:Int),((step:Nat):Int),⟨#[]⟩,[((Zw mm (Xz (ge ts step))).getD default)],0,0⟩:Chg)) (.slice none 0 0) ([]:List Chg) (by exact hok) (by dsimp only;omega) (by dsimp only;omega) (by first | exact hcm.2.2 | (intro a ha;rw[List.mem_singleton.1 ha];exact⟨hfst.1,oz⟩)) (by first | (rw[hcm.2.1];omega) | simp) yz (by first | omega | simp)) ZoV rfl rfl rfl (lb rfl) hS hJ0 Zq (fun a w h=>(h.get 4 rfl).lit) (fun a w h=>(Za (h.get 0 rfl) Zd)) (fun w=>(Za (Rel.of_lit (.pointer (some ⟨bj,oj,none⟩))) (Za (Rel.of_lit (.pointer (some ⟨b1,0,none⟩))) Zd))) fun z3=>?_)
   refine seK [2,6,7,8,9] [_,_,_,_,_] rfl (kw pm2 ?_)
   refine kw pm2 (kw pm2 ?_)
   exact kw pm3 (Zud (z3,(([]:List Chg)++(X0 ss ((⟨(1:Int),((step:Nat):Int),⟨#[]⟩,[((Zw mm (Xz (ge ts step))).getD default)],0,0⟩:Chg))).toList)) [1,2,3,4] (show((([]:List Chg)++(X0 ss ((⟨(1:Int),((step:Nat):Int),⟨#[]⟩,[((Zw mm (Xz (ge ts step))).getD default)],0,0⟩:Chg))).toList))=Zmg (⟨d,i,ss,ts,mm⟩:Jb) step 0 from by rw[ZkT,ZeF,if_pos (by show(Zw mm (Xz (ge ts step))).getD 0<_;rw[hfst.2.2];exact hb1),hfst.2.2];simp only[List.filterMap_cons,List.filterMap_nil];cases X0 ss _<;>rfl))
  ·
   try simp at hb1
   exact Zc (Zud ((.slice none 0 0),([]:List Chg)) [0,1,2,3] (show([]:List Chg)=Zmg (⟨d,i,ss,ts,mm⟩:Jb) step 0 from by rw[ZkT,ZeF,if_neg (by show ¬ (Zw mm (Xz (ge ts step))).getD 0<_;rw[hfst.2.2];exact Int.not_lt.2 hb1)];rfl))
 ·
  rintro⟨wj,xj⟩ hF
  have g1_1:xj=Zmg (⟨d,i,ss,ts,mm⟩:Jb) step 0:=hF
  refine ZeK ?_
  refine Zr9 ?_
  refine XA (m:=5) ?_
  refine YR tb hJ [0,1,2,3,1004,1009,1010,1011] [_,_,_,_,_,_,_,_,_,.rd (Yq (d.frames.take i)),.int ((d.frames.take i).length:Nat),_] [9,10] [_,_,_,_,_,_,_,_] rfl ⟨fun _ _ _ hx hl _=>QY (ys:=d.frames.take i) (lo:=0) (hi:=i) List.drop_zero YH (fun _=>rfl) rfl (hl.D 4 38 rfl rfl) rfl (hl.D 8 42 rfl rfl) (by first | omega | (simp;omega) | grind[Zg]) (by first | omega | (simp;omega) | grind[Zg]) hx,Ym QA,trivial⟩ ?_
  refine ZeK ?_
  refine lnA 4 fun hl3=>?_
  refine lnA 5 fun hl4=>?_
  refine ZgH ?_
  refine lpL (ι:=Nat×(List Chg)×Value) (fun(q,out,_)=>(q≤i)∧(out=Zmg (⟨d,i,ss,ts,mm⟩:Jb) step q)) (fun(_,out,wo)=>(OB.var b2 [.lit (.func (.func 75) #[] #[.pointer (some ⟨bj,oj,none⟩),.pointer (some ⟨b1,0,none⟩)])]::OB.pt bj oj [.ptr [Zb d.consts,Zb d.vars,Yq d.frames,.lit (.int .i64 (((i:Nat):Int))),ZQ ss,Zo ts,.lit (.int .i64 ((((ZH ss):Nat):Int))),.lit (.map (some M))]]::OB.var b1 [.lit wo]::OB.row wo 37 6 (out.map chC)::R)) (fun(q,_,_)=>[(45,.int (q:Nat))]) (fun(q,_,_)=>i-q) [0,1,2,3,5,6,7] [_,_,_,_,_,_] (0,xj,wj) ⟨nzl,g1_1⟩ ?_
  rintro⟨q,out,wo⟩ ⟨f1_1,f1_2⟩
  intro Ds1
  refine ZhR (m:=5) ?_
  refine ZbA ?_
  refine snK 1 tb (env':=[(46,_),(2,_),(6,_),(5,_),(3,_),(43,_),(44,_),(45,_)]) rfl (seK [0,1,2,3,4,5,6,7] [_,_,_,_,_,_,_,_] rfl ?_)
  refine nxL ?_
  refine ZhR (m:=5) ?_
  refine d_cj 0 (fun hb2=>?_) fun hb2=>?_
  ·
   try simp at hb2
   have ef:ge (d.frames.take i) q=ge d.frames q:=ZqI oz
   have hcl:=ZoP (j:=(⟨d,i,ss,ts,mm⟩:Jb)) (step:=step) hW.m0 (show step≤16 by omega) (show q≤16 by omega)
   rw[←f1_2]at hcl
   have ex:Zmg (⟨d,i,ss,ts,mm⟩:Jb) step (q+1)=Zmg (⟨d,i,ss,ts,mm⟩:Jb) step q++(Zpm (⟨d,i,ss,ts,mm⟩:Jb) step (ge (d.frames.take i) q)).filterMap (X0 ss):=by rw[ef];exact Zq8 (show q<d.frames.length by omega)
   refine ZsV ?_
   refine nxL ?_
   refine al_seq ?_
   refine Zlh ?_
   refine ZhR (m:=5) ?_
   refine ZbA ?_
   refine sy (.ptr (frC ((ge (d.frames.take i) q)))) (fun h=>ZU (i:=((q:Nat):Int)) YH rfl (h.get 5 rfl) (h.get 7 rfl) nnn (Z0 (xs:=d.frames.take i) (k:=q) (by first | omega | (simp;omega) | grind[Zg])) rfl h.x) ?_
   refine snK 1 tb (env':=[(48,_),(47,_),(46,_),(2,_),(6,_),(5,_),(3,_),(43,_),(44,_),(45,_)]) rfl (X1 (cs:=frC ((ge (d.frames.take i) q))) ZjE rfl rfl rfl (lb rfl) rfl rfl rfl dz (m:=0) rfl rfl (fun a w h=>Zm hS _ h.keep h.x _ nlr) (fun a w h w' hk'=>Yn hJ _ _ hk' h.x) ?_)
   refine seK [0,4,5,6,7,8,9,10] [_,_,_,_,_,_,_,_] rfl (nxL ?_)
   refine ZhR (m:=5) ?_
   refine ZhS ?_
   refine ZbA ?_
   refine snK 2 tb (env':=[(50,_),(49,_),(9,_),(2,_),(6,_),(5,_),(3,_),(43,_),(44,_),(45,_)]) rfl (sy (.int ((((ge (d.frames.take i) q)).hyps).length:Nat)) (fun h=>Zam ZB rfl (h.get 0 rfl) h.x) ?_)
   refine snK 1 tb (env':=[(52,_),(51,_),(50,_),(49,_),(9,_),(2,_),(6,_),(5,_),(3,_),(43,_),(44,_),(45,_)]) rfl (seK [0,2,4,5,6,7,8,9,10,11] [_,_,_,_,_,_,_,_,_,_] rfl ?_)
   refine nxD ?_
   refine lnD 1 fun hl5=>?_
   refine d_cj 0 (fun hb3=>?_) fun hb3=>?_
   ·
    try simp at hb3
    have eF:Zpm (⟨d,i,ss,ts,mm⟩:Jb) step (ge (d.frames.take i) q)=[]:=if_pos oz
    refine ZsX ?_
    refine Zvt (m:=5) ?_
    refine ZbA ?_
    refine sy (.int (q+1:Nat)) (fun h=>ZpW (i:=((q:Nat):Int)) (j:=(1:Int)) rfl (h.get 9 rfl) (Rel.of_lit (Go.Value.int Go.IntKind.i64 1)) (by first | omega | (simp;omega) | grind[Zg]) (by first | omega | (simp;omega) | grind[Zg]) h.x) ?_
    refine snK 1 tb (env':=[(45,_),(65,_),(52,_),(50,_),(9,_),(2,_),(6,_),(5,_),(3,_),(43,_),(44,_)]) rfl (seK [0,5,6,7,8,9,10] [_,_,_,_,_,_,_] rfl ?_)
    exact lpLE (q+1,out,wo) [1,2,3,4,5,6,0] ⟨oz,by rw[ex,eF,←f1_2];first | (simp;done) | exact r1_⟩
   ·
    try simp at hb3
    have eF:Zpm (⟨d,i,ss,ts,mm⟩:Jb) step (ge (d.frames.take i) q)=(ZhY (⟨d,i,ss,ts,mm⟩:Jb) (ge (d.frames.take i) q) step).map fun al=>(⟨2,step,(ge (d.frames.take i) q).label,al,0,0⟩:Chg):=if_neg oz
    refine ZsV ?_
    refine nxL ?_
    refine ZhR (m:=5) ?_
    refine ZbA ?_
    refine snK 3 tb (env':=[(55,_),(54,_),(53,_),(52,_),(50,_),(9,_),(2,_),(6,_),(5,_),(3,_),(43,_),(44,_),(45,_)]) rfl (sy (.fn 101 [.ptr (frC ((((ge (d.frames.take i) q))))),.ptr [.ptr [Zb d.consts,Zb d.vars,Yq d.frames,.lit (.int .i64 (((i:Nat):Int))),ZQ ss,Zo ts,.lit (.int .i64 ((((ZH ss):Nat):Int))),.lit (.map (some M))]],.ptr [.lit (.int .i64 (((step:Nat):Int)))]]) (fun h=>Zbj (Zhe hJ d i ss ts M ((ge (d.frames.take i) q)) step) ZuZ rfl (Zm hS _ h.keep h.x) (h.x.1) (Za (h.get 2 rfl) (Za (h.get 1 rfl) (Za (h.get 0 rfl) Zd))) (jo hJ h.x)) ?_)
    refine seK [0,6,7,8,9,10,11,12,13] [_,_,_,_,_,_,_,_,_] rfl (nxL ?_)
    refine Zlh ?_
    refine alw (fun h=>XU (p:=(out=out++(([]:List (List Int)).map fun al=>(⟨2,step,(ge (d.frames.take i) q).label,al,0,0⟩:Chg)).filterMap (X0 ss))) yz h) ?_
    refine ZpM (m:=5) (κ:=Value×(List Chg)) (μ:=Empty) (σ:=Empty) ((ZfU hJ d i ss ts M mm (ge (d.frames.take i) q) step (by rw[ef];exact hW.try (Zg (show q<d.frames.length by omega)) hs))) ZrY hJ hS hJ0 hH (fun pre (wv,ys)=>[OB.fct ((ys=out++(pre.map fun al=>(⟨2,step,(ge (d.frames.take i) q).label,al,0,0⟩:Chg)).filterMap (X0 ss))),OB.dfrs Ds1,OB.var b2 [.lit (.func (.func 75) #[] #[.pointer (some ⟨bj,oj,none⟩),.pointer (some ⟨b1,0,none⟩)])],OB.pt bj oj [.ptr [Zb d.consts,Zb d.vars,Yq d.frames,.lit (.int .i64 (((i:Nat):Int))),ZQ ss,Zo ts,.lit (.int .i64 ((((ZH ss):Nat):Int))),.lit (.map (some M))]],OB.var b1 [.lit wv],OB.row wv 37 6 (ys.map chC)]) (fun q':Empty=>undef) (fun q'=>[]) (fun s'=>[]) (wo,out) (fun x9=>[(10,.rd (ZX x9)),(57,.rd (ZX x9)),(9,.ptr (frC ((ge (d.frames.take i) q)))),(2,.ptr [.ptr [Zb d.consts,Zb d.vars,Yq d.frames,.lit (.int .i64 (((i:Nat):Int))),ZQ ss,Zo ts,.lit (.int .i64 ((((ZH ss):Nat):Int))),.lit (.map (some M))]]),(6,.at b2 0),(5,.at b1 0),(3,.ptr [.lit (.int .i64 (((step:Nat):Int)))]),(43,.rd (Yq (d.frames.take i))),(44,.int ((d.frames.take i).length:Nat)),(45,.int (q:Nat))]) (lb rfl) Tryz.func41 ?_ ?_ ?_ ?_ ?_ ?_ ?_
    · exact fun a w h=>ZfO (h.get 0 rfl)
    ·
     rintro m9 l9 R' pre x9 ⟨wv,ys⟩ K9 hK9
     refine ZS (snK 1 tb (env':=[(10,_),(57,_),(56,_),(9,_),(2,_),(6,_),(5,_),(3,_),(43,_),(44,_),(45,_)]) rfl (seK [0,1,3,4,5,6,7,8,9,10] [_,_,_,_,_,_,_,_,_,_] rfl ?_))
     exact hK9
    ·
     rintro m9 l9 R' pre x9 ⟨wv,ys⟩ hpre
     refine ZjN fun hF=>?_
     have r1_:ys=out++(pre.map fun al=>(⟨2,step,(ge (d.frames.take i) q).label,al,0,0⟩:Chg)).filterMap (X0 ss):=hF
     have hcm:=ZkU (j:=(⟨d,i,ss,ts,mm⟩:Jb)) (g:=ge (d.frames.take i) q) (step:=step) hW.m0 (x:=x9) (hpre.subset (List.mem_append_right _ (List.mem_singleton.2 rfl)))
     have hyl:ys.length≤2100000:=by have h1:=List.length_filterMap_le (X0 ss) (pre.map fun al=>(⟨2,step,(ge (d.frames.take i) q).label,al,0,0⟩:Chg));have h2:=hpre.length_le;have h3:=ZkV (j:=(⟨d,i,ss,ts,mm⟩:Jb)) (g:=ge (d.frames.take i) q) (step:=step) hW.m0;have h4:=pow4 (n:=step) (m:=(ge (d.frames.take i) q).hyps.length) oz oz;rw[r1_,List.length_append];rw[List.length_map]at h1;simp only[List.length_append,List.length_cons]at h2;omega
     refine ln 0 fun hl6=>?_
     refine Ze (ZS (sq (.lit (.func (.func 75) #[] #[.pointer (some ⟨bj,oj,none⟩),.pointer (some ⟨b1,0,none⟩)])) rfl rfl (lb rfl) (fun _ _ h=>Zs ZnC rfl (Zf h.x (mo 1 rfl)) (h.get 4 rfl) rfl h.x) ?_))
     refine snK 4 tb (env':=[(62,_),(61,_),(60,_),(59,_),(58,_),(10,_),(57,_),(9,_),(2,_),(6,_),(5,_),(3,_),(43,_),(44,_),(45,_)]) rfl (sq (.agg (chC ((⟨(2:Int),((step:Nat):Int),((ge (d.frames.take i) q)).label,x9,0,0⟩:Chg)))) rfl rfl (lb rfl) (fun a _ h=>XJ (ps:=[(0,a.eval (Go.Operand.const (Go.Value.int Go.IntKind.i64 2))),(1,a.eval (Go.Operand.tmp 59)),(2,a.eval (Go.Operand.tmp 61)),(3,a.eval (Go.Operand.tmp 62))]) (us:=[a.eval (Go.Operand.const (Go.Value.int Go.IntKind.i64 2)),a.eval (Go.Operand.tmp 59),a.eval (Go.Operand.tmp 61),a.eval (Go.Operand.tmp 62),.int .i64 0,.int .i64 0]) Zh2 rfl yz (Zml (lb rfl) rfl (Zml (lb rfl) (Rel.oneC (h.get 3 rfl)) (Zml (lb rfl) (Rel.oneC (h.get 1 rfl)) (Zml (lb rfl) (Rel.oneC (h.get 0 rfl)) Zms)))) rfl (Zp (Rel.of_lit (Go.Value.int Go.IntKind.i64 2)) (Zp (h.get 3 rfl) (Zp (h.get 1 rfl) (Zp (h.get 0 rfl) (Qp (.lit _ True.intro) (Qp (.lit _ True.intro) Z4)))))) h.x) ?_)
     refine kw pm1 (kw pm1 ?_)
     refine kw pm4 (kw pm4 ?_)
     refine kw pm4 (Zsm (O:=[OB.pt bj oj [.ptr [Zb d.consts,Zb d.vars,Yq d.frames,.lit (.int .i64 (((i:Nat):Int))),ZQ ss,Zo ts,.lit (.int .i64 ((((ZH ss):Nat):Int))),.lit (.map (some M))]],OB.var b1 [.lit wv],OB.row wv 37 6 (ys.map chC)]) (R:=(OB.dfrs Ds1::OB.var b2 [.lit (.func (.func 75) #[] #[.pointer (some ⟨bj,oj,none⟩),.pointer (some ⟨b1,0,none⟩)])]::R')) [.agg (chC ((⟨(2:Int),((step:Nat):Int),((ge (d.frames.take i) q)).label,x9,0,0⟩:Chg)))] [.pointer (some ⟨bj,oj,none⟩),.pointer (some ⟨b1,0,none⟩)] [.at bj oj,.at b1 0] (ZsC hJ bj oj b1 d i ss ts M ((⟨(2:Int),((step:Nat):Int),((ge (d.frames.take i) q)).label,x9,0,0⟩:Chg)) wv ys (by exact hok) (by dsimp only;omega) (by dsimp only;omega) (by first | exact hcm.2.2 | (intro a ha;rw[List.mem_singleton.1 ha];exact⟨hfst.1,oz⟩)) (by first | (rw[hcm.2.1];omega) | simp) yz (by first | omega | simp)) ZoV rfl rfl rfl (lb rfl) hS hJ0 Zq (fun a w h=>(h.get 5 rfl).lit) (fun a w h=>(Za (h.get 0 rfl) Zd)) (fun w=>(Za (Rel.of_lit (.pointer (some ⟨bj,oj,none⟩))) (Za (Rel.of_lit (.pointer (some ⟨b1,0,none⟩))) Zd))) fun z4=>?_)
     refine seK [9,10,11,12,13,14,15,16] [_,_,_,_,_,_,_,_] rfl (kw pm2 ?_)
     refine kw pm2 (kw pm2 ?_)
     refine kw pm4 (kw pm4 ?_)
     exact kw (fun h=>XU (p:=(((ys++(X0 ss ((⟨(2:Int),((step:Nat):Int),((ge (d.frames.take i) q)).label,x9,0,0⟩:Chg))).toList))=out++((pre++[x9]).map fun al=>(⟨2,step,(ge (d.frames.take i) q).label,al,0,0⟩:Chg)).filterMap (X0 ss))) (by simp only[List.map_append,List.map_cons,List.map_nil];rw[Zuu,←List.append_assoc,←r1_]) h) (fun a w h=>⟨(z4,(ys++(X0 ss ((⟨(2:Int),((step:Nat):Int),((ge (d.frames.take i) q)).label,x9,0,0⟩:Chg))).toList)),h.keep,h.x⟩)
    ·
     rintro hfl ⟨wv,ys⟩ D
     refine kw pm1 (ZjS fun hF=>?_)
     have r1_:ys=out++((ZhY (⟨d,i,ss,ts,mm⟩:Jb) (ge (d.frames.take i) q) step).map fun al=>(⟨2,step,(ge (d.frames.take i) q).label,al,0,0⟩:Chg)).filterMap (X0 ss):=hF
     refine kw pm1 (kw Ztm ?_)
     refine Zvt (m:=5) ?_
     refine ZbA ?_
     refine sy (.int (q+1:Nat)) (fun h=>ZpW (i:=((q:Nat):Int)) (j:=(1:Int)) rfl (h.get 8 rfl) (Rel.of_lit (Go.Value.int Go.IntKind.i64 1)) (by first | omega | (simp;omega) | grind[Zg]) (by first | omega | (simp;omega) | grind[Zg]) h.x) ?_
     refine snK 1 tb (env':=[(45,_),(65,_),(56,_),(9,_),(2,_),(6,_),(5,_),(3,_),(43,_),(44,_)]) rfl (seK [0,4,5,6,7,8,9] [_,_,_,_,_,_,_] rfl ?_)
     exact lpLE (q+1,ys,wv) [1,2,3,4,5,6,0] ⟨oz,by rw[ex,eF,←f1_2];first | (simp;done) | exact r1_⟩
    · exact fun s=>s.elim
    · exact fun v h=>by cases h
    · exact fun q=>q.elim
  ·
   try simp at hb2
   refine ZsX ?_
   refine Zvt (m:=5) ?_
   refine ZhS ?_
   refine ZbA ?_
   refine sy (.lit wo) (fun h=>Zs ZsE rfl (Zf h.x (mo 3 rfl)) (h.get 3 rfl) rfl h.x) ?_
   refine snK 1 tb (env':=[(4,_),(66,_),(46,_),(2,_),(6,_),(5,_),(3,_),(43,_),(44,_),(45,_)]) rfl (seK [0] [_] rfl ?_)
   refine nxD ?_
   refine ZqY ?_
   refine outL hJ hJ0 ?_ _
   refine kw pm3 (kw (fun h=>Ya hS h (m:=0) (s:=4) rfl) ?_)
   refine kw ZJ (kw ZJ ?_)
   exact kw ZJ (fun a w h=>ZN  (m:=0) () rfl h rfl (congrArg (fun z=>AV.rd (Zeq z)) (show out=((Zc1 (⟨d,i,ss,ts,mm⟩:Jb) step))from by rw[f1_2,show q=i by omega];rfl)))
theorem Zfa {J:WP} (hJ:Stab J) (d:Db) (i:Nat) (ss:List Stp) (ts:List (List BA)) (M:Nat) (mm:List (BA×Int)) (step:Nat) (hW:JobW (⟨d,i,ss,ts,mm⟩:Jb)) (hs:step<ss.length):FnR prog J 41 [OB.mI M mm] [.ptr [Zb d.consts,Zb d.vars,Yq d.frames,.lit (.int .i64 (((i:Nat):Int))),ZQ ss,Zo ts,.lit (.int .i64 ((((ZH ss):Nat):Int))),.lit (.map (some M))],.int (step:Nat)] (.rd (Zeq (Zc1 (⟨d,i,ss,ts,mm⟩:Jb) step))):=ZqO (Znr hJ d i ss ts M mm step hW hs)
end Go.Proofs.YtdfadihhfppjaaaGreatDoor
namespace Go.Proofs.YtdfadihhfppjaaaGreatDoor
section
variable {d:Db} {z:Int} {ss:List Stp}
theorem ZgW (h:YA d z ss=0):(Ys d z ss).1.length=ss.length∧∀ t∈(Ys d z ss).1,(1≤t.length∧t.length≤2000)∧∀ s∈t,s.size≤60:=by
 obtain⟨h1,h2⟩:=ZaE h
 obtain⟨ha,hf⟩:=Zer h1
 obtain⟨hck,hz0,hz1⟩:=Zcj ha
 have hi:z.toNat<d.frames.length:=by omega
 have hj:=(Zn2 h).1
 refine⟨hj.len,fun t ht=>⟨?_,fun s hs=>ZgY (Zjj hck) s (hj.sy t ht s hs)⟩⟩
 have h3:Ys d z ss=Zpz d z.toNat ss:=if_pos h1
 have h4:∀ q,q<ss.length→erG d z.toNat ss q=0:=by
  rw[h3]at h2
  unfold Zpz at h2
  split at h2
  · rename_i k hk
    have h5:=List.find?_some hk
    exact absurd h2 (of_decide_eq_true h5)
  · rename_i hk
    intro q hq
    have h5:=List.find?_eq_none.1 hk q (List.mem_range.2 hq)
    simpa using h5
 have h5:(Ys d z ss).1=fmG d z.toNat ss ss.length:=by rw[h3,ZjI h4]
 rw[h5]at ht
 exact Zgg hck hi ss.length (fun q hq=>h4 q hq) t ht
theorem Zn1 (h:YA d z ss=0) (h16:ss.length≤16) (hf:d.frames.length≤16) (hw:∀ f∈d.frames,f.wide.length*32≤140737488351232):JobW (jbG d z ss):=by
 obtain⟨h1,h2⟩:=ZaE h
 obtain⟨ha,_⟩:=Zer h1
 obtain⟨hck,hz0,hz1⟩:=Zcj ha
 have hi:z.toNat<d.frames.length:=by omega
 obtain⟨hl,ht⟩:=ZgW h
 have hg:=Zcc hck
 exact⟨(Zn2 h).2,h16,hl,ht,fun s q e=>(ZsT e).imp_right (·.1),fun i hi'=>by obtain⟨q,hq,_⟩:=ZuC hi';exact Option.isSome_iff_exists.2 ⟨q,hq⟩,hf,hi,hw _ (Zg hi),
  fun g hg'=>(hg g hg').1.2,fun g hg' y hy=>⟨((hg g hg').2.2 y (List.mem_append_left _ hy)).1,fun s hs=>ZgY (Zjj hck) s ((ZoN hck g hg').1 y (List.mem_append_left _ hy) s hs)⟩,fun g hg'=>(hg g hg').1.1⟩
theorem ZqR {ts:List (List BA)} {pre:List (Nat×List BA)} {x:Nat×List BA} (h:(pre++[x])<+:ZeN ts):pre.length<ts.length∧ZaP ts (pre++[x]).length=Xu (ZaP ts pre.length) (Xz x.2) ((x.1:Nat):Int)∧x.2∈ts:=by
 obtain⟨h1,h2,h3⟩:=bw_at h
 refine⟨?_,?_,?_⟩
 · omega
 · rw[List.length_append,List.length_singleton,ZaP,h3,h2]
 · rw[h3];exact Zg oz
end
end Go.Proofs.YtdfadihhfppjaaaGreatDoor
set_option maxHeartbeats 8000000
set_option maxRecDepth 100000
namespace Go.Proofs.YtdfadihhfppjaaaGreatDoor
open Go.Proofs.Tryz (prog)
open Go.RowKit
theorem Zo4:Zj prog 27:=Zn Tryz.func27 rfl rfl
theorem Zu4:Zj prog 61:=Zn Tryz.func61 rfl rfl
theorem Zh4:Zs7 prog 92:=fun _ _ _ _ _ _ _ _ _ _=>by kernel_rfl
theorem ZbM:Zc2 prog 77 [.lit (.pointer none)]:=⟨(.pointer none),fun w=>by kernel_rfl,fun S w=>(show RdL S w [.lit (.pointer none)] [.pointer none]from⟨.lit _ True.intro,trivial⟩)⟩
theorem ZmY:Y9 prog 77 1:=fun w=>by kernel_rfl
theorem Zu3:Zj prog 63:=Zn Tryz.func63 rfl rfl
theorem ZuS:Zj prog 90:=Zn Tryz.func90 rfl rfl
theorem Zeu:Zj prog 32:=Zn Tryz.func32 rfl rfl
theorem Zo0:Zj prog 41:=Zn Tryz.func41 rfl rfl
theorem Zkj {J:WP} (hJ:Stab J) (d:Db) (z:Int) (ss:List Stp) (hw:∀ f∈d.frames,f.wide.length*32≤140737488351232) (hG:XI J) (hr:¬ YA d z ss=0):Fn prog J 32 [.agg (dbC d),.int z,.agg (pfC ss)] (.tup [.rd (.lit (Go.Value.pointer none)),.int (YA d z ss)]):=by
 refine Zed (N:=60) Tryz.func32 rfl rfl (lb rfl) fun S w0 hS hJ0=>?_
 refine atw Ye ?_
 refine XA (m:=5) ?_
 refine YR tb hJ [1,1000,1001] [.ptr (dbC d),.ptr (pfC ss),_,_] [0,1] [_,_,_] rfl ⟨iBo hS hJ,iBo hS hJ,trivial⟩ ?_
 refine ZeK ?_
 refine XA (m:=5) ?_
 refine ZK tb hJ [0,1,2,1004] [_,_,_,.int (Zfx d z ss),_] [3] [_,_,_,_] rfl ⟨iFo hS hJ (Zf0 hJ d z ss (by exact hw) (by exact hG)) Zjo,trivial⟩ ?_
 refine qso tb hJ [0,1,2,3,1001] [_,_] [_,_,_,_,_] ?_
 refine cj 4 (fun hb1=>?_) fun hb1=>?_
 ·
  try simp at hb1
  refine qso tb hJ [1001,1002] [_,_,_] [_,_] ?_
  refine Zv (ZtV ?_)
  exact fun a w h=>YP (m:=0) (k:=1) rfl (Z6 h) rfl rfl rfl (eI (by first | exact absurd hb1 hb2 | (simp[YA, *];done)))
 ·
  try simp at hb1
  refine Zc (ZeK ?_)
  refine XA (m:=5) ?_
  refine ZS (snK 3 tb rfl (sy (.tup [.rd (Zo (((Ys d z ss).1))),.agg (vdC (((Ys d z ss).2))),.int (Zfx d z ss)]) (fun h=>Zbj (Zkn hJ d z ss (by exact hw) (by exact hG)) Zo4 rfl (Zm hS _ h.keep h.x) (h.x.1) (Za (h.get 2 rfl) (Za (h.get 1 rfl) (Za (h.get 0 rfl) Zd))) (jo hJ h.x)) ?_))
  refine snK 4 tb rfl (ZA Zcn hJ rfl rfl rfl (lb rfl) fun b1=>?_)
  refine snK 1 tb rfl (Zt (b:=b1) (off:=0) (es:=[_,_]) (news:=[_,_]) hJ hJ0 Zai rfl rfl rfl (lb rfl) rfl (fun a w h=>⟨(h.get 1 rfl),(h.get 3 rfl)⟩) ?_)
  refine snK 1 tb rfl (kw (fun h=>ZM hS h (m:=2) (s:=10) rfl) ?_)
  refine seK [0,1,2,5,11,12,13] [_,_,_,_,_,_,_] rfl (ZeK ?_)
  refine lnA 2 fun hl1=>?_
  refine XA (m:=5) ?_
  refine Ze (qso tb hJ [0,1,2,4,5,6,1002] [_,_,_] [_,_,_,_,_,_,_] ?_)
  refine cj 6 (fun hb2=>?_) fun hb2=>?_
  ·
   try simp at hb2
   refine qso tb hJ [1001,1002] [_,_,_] [_,_] ?_
   refine Zv (ZtV ?_)
   exact fun a w h=>YP (m:=0) (k:=1) rfl (Z6 h) rfl rfl rfl (eI (by first | exact absurd hb1 hb2 | (simp[YA, *];done)))
  ·
   try simp at hb2
   refine qso tb hJ [2,3,4,5,1003] [_,_,_,_] [_,_,_,_,_] ?_
   refine cj 4 (fun hb3=>?_) fun hb3=>?_
   ·
    try simp at hb3
    refine qso tb hJ [1000,1001] [_,_] [_,_] ?_
    refine Zv (ZtV ?_)
    exact fun a w h=>YP (m:=0) (k:=1) rfl (Z6 h) rfl rfl rfl (eI (by first | exact absurd hb1 hb2 | (simp[YA, *];done)))
   ·
    try simp at hb3
    exact False.elim (hr (by simp[YA, *]))
theorem ZiN {J:WP} (hJ:Stab J) (d:Db) (z:Int) (ss:List Stp) (hw:∀ f∈d.frames,f.wide.length*32≤140737488351232) (hG:XI J) (hr:YA d z ss=0):FnM (ι:=Nat) prog J 32 [] [.agg (dbC d),.int z,.agg (pfC ss)] [] (fun i'=>.tup [.ptr [Zb d.consts,Zb d.vars,Yq d.frames,.lit (.int .i64 (((z.toNat:Nat):Int))),ZQ ss,Zo ((Ys d z ss).1),.lit (.int .i64 ((((ZH ss):Nat):Int))),.lit (.map (some (i')))],.int 0]) (fun i'=>[OB.mI (i') (ZaP (Ys d z ss).1 (Ys d z ss).1.length)]):=by
 refine Zfk (N:=60) Tryz.func32 rfl rfl (lb rfl) fun S w0 R hS hJ0 hH=>?_
 refine atw (B:=So J S w0 60 (R) [(0,.agg (dbC d)),(1,.int z),(2,.agg (pfC ss))]) (fun h=>h) ?_
 have hts:=ZgW hr
 have hok:=(Zn2 hr).2
 have hl0:=hok.1
 have hl1:=hok.2.1
 have hz0:=(Zcj (Zer (ZaE hr).1).1).2.1
 refine XA (m:=5) ?_
 refine YR tb hJ [1,1000,1001] [.ptr (dbC d),.ptr (pfC ss),_,_] [0,1] [_,_,_] rfl ⟨iBo hS hJ,iBo hS hJ,trivial⟩ ?_
 refine ZeK ?_
 refine XA (m:=5) ?_
 refine ZK tb hJ [0,1,2,1004] [_,_,_,.int (Zfx d z ss),_] [3] [_,_,_,_] rfl ⟨iFo hS hJ (Zf0 hJ d z ss (by exact hw) (by exact hG)) Zjo,trivial⟩ ?_
 refine qso tb hJ [0,1,2,3,1001] [_,_] [_,_,_,_,_] ?_
 refine cj 4 (fun hb1=>?_) fun hb1=>?_
 ·
  try simp at hb1
  exact False.elim (hb1 (ZaE hr).1)
 ·
  try simp at hb1
  refine Zc (ZeK ?_)
  refine XA (m:=5) ?_
  refine ZS (snK 3 tb rfl (sy (.tup [.rd (Zo (((Ys d z ss).1))),.agg (vdC (((Ys d z ss).2))),.int (Zfx d z ss)]) (fun h=>Zbj (Zkn hJ d z ss (by exact hw) (by exact hG)) Zo4 rfl (Zm hS _ h.keep h.x) (h.x.1) (Za (h.get 2 rfl) (Za (h.get 1 rfl) (Za (h.get 0 rfl) Zd))) (jo hJ h.x)) ?_))
  refine snK 4 tb rfl (ZA Zcn hJ rfl rfl rfl (lb rfl) fun b1=>?_)
  refine snK 1 tb rfl (Zt (b:=b1) (off:=0) (es:=[_,_]) (news:=[_,_]) hJ hJ0 Zai rfl rfl rfl (lb rfl) rfl (fun a w h=>⟨(h.get 1 rfl),(h.get 3 rfl)⟩) ?_)
  refine snK 1 tb rfl (kw (fun h=>ZM hS h (m:=2) (s:=10) rfl) ?_)
  refine seK [0,1,2,5,11,12,13] [_,_,_,_,_,_,_] rfl (kw (sa 4 rfl (congrArg AV.int (show z=((z.toNat:Nat):Int)from by omega))) ?_)
  refine ZeK ?_
  refine lnA 2 fun hl1=>?_
  refine XA (m:=5) ?_
  refine Ze (qso tb hJ [0,1,2,4,5,6,1002] [_,_,_] [_,_,_,_,_,_,_] ?_)
  refine cj 6 (fun hb2=>?_) fun hb2=>?_
  ·
   try simp at hb2
   exact False.elim (hb2 (ZaE hr).1)
  ·
   try simp at hb2
   refine qso tb hJ [2,3,4,5,1003] [_,_,_,_] [_,_,_,_,_] ?_
   refine cj 4 (fun hb3=>?_) fun hb3=>?_
   ·
    try simp at hb3
    exact False.elim (hb3 (ZaE hr).2)
   ·
    try simp at hb3
    refine Zc (ZeK ?_)
    refine XA (m:=5) ?_
    refine fun a w h=>Qu (R) (γ:=Nat×Value×Nat×Nat) (fun ix'=>([.agg (dbC d),.int (z.toNat:Nat),.agg (pfC ss),.rd (Zo (((Ys d z ss).1))),.agg (pfC ss),.rd (ZfB (Qh ss)),.int (ZeM (Qh ss):Nat),.any,.any,.any,.any,.any]:List AV).getD ix' .any) (fun _=>true) [(9,fun _=>.rd (Zo (((Ys d z ss).1)))),(12,fun g=>.at g.2.2.2 0)] (fun(b:List Bool) (g:Nat×Value×Nat×Nat)=>(bif b.getD 4 false then [OB.var g.2.2.2 [.lit (.pointer (some ⟨g.2.2.1,0,none⟩))]]else(bif b.getD 3 false then [OB.var g.2.2.2 [.lit (.pointer none)]]else []))++((bif b.getD 2 false then [OB.var g.2.2.1 [Zb d.consts,Zb d.vars,Yq d.frames,.lit (.int .i64 (((z.toNat:Nat):Int))),ZQ ss,Zo (((Ys d z ss).1)),.lit (.int .i64 (((ZeM (Qh ss):Nat):Int))),.lit (.map (some g.1))]]else(bif b.getD 1 false then [Zta [Zb d.consts,Zb d.vars,Yq d.frames,.lit (.int .i64 (((z.toNat:Nat):Int))),ZQ ss,Zo (((Ys d z ss).1)),.lit (.int .i64 (((ZeM (Qh ss):Nat):Int))),.lit (.map (some g.1))] g.2.1]else []))++((bif b.getD 0 false then [OB.mI g.1 (([]:List (BA×Int)))]else [])++((R))))) (fun k' g=>match k' with | 0=>(.map (some g.1)) | 1=>g.2.1 | 2=>(.pointer (some ⟨g.2.2.1,0,none⟩)) | 3=>(.pointer (some ⟨g.2.2.2,0,none⟩)) | _=>undef) [7,8,9,10,11] (0,undef,0,0) (fun _=>rfl) h hJ Yk rfl rfl rfl rfl (fun b g p hp=>(List.mem_append_right _ (List.mem_append_right _ (List.mem_append_right _ hp)))) ⟨?_,?_,?_,?_,?_,?_,?_,?_,?_,?_,?_,?_,trivial⟩ ⟨?e9_1_0,?e9_1_1,?e9_1_2,?e9_1_3,?e9_1_4,trivial⟩ ⟨.old 0 9 _,.eff 3 10 12 (fun(g:Nat×Value×Nat×Nat)=>(.pointer (some ⟨g.2.2.2,0,none⟩))) rfl rfl (fun _=>rfl) (fun _=>True.intro),trivial⟩ ?n9_1
    exact oX rfl fun hx hl=>X7 ZgG rfl (hl.env 2 3 _ rfl rfl) nlr hx
    exact oX rfl fun hx hl=>ZW rfl (hl.env 1 1 _ rfl rfl) hx
    exact oX rfl fun hx hl=>X7 Yu rfl (hl.env 3 5 _ rfl rfl) nlr hx
    exact oX rfl fun hx hl=>ZW rfl (hl.env 0 9 _ rfl rfl) hx
    exact oX rfl fun hx hl=>X7 Yu rfl (hl.env 3 5 _ rfl rfl) nlr hx
    exact oY rfl fun hk hx hl=>Zbj (Zkk hJ ss (by exact hok)) ZoX rfl (Zm hS _ hk hx) (hx.1) (Za (hl.D 4 42 rfl rfl) Zd) (jo hJ hx)
    exact oY rfl fun hk hx hl=>Zbj (ZtL hJ (Qh ss)) Zu4 rfl (Zm hS _ hk hx) (hx.1) (Za (hl.D 5 43 rfl rfl) Zd) (jo hJ hx)
    exact Zi rfl
    exact Zi rfl
    exact Zi rfl
    exact Zi rfl
    exact Zi rfl
    case e9_1_0=>exact ZeL [[false,false,false,false,false],[false,false,false,true,false]] (by kernel_rfl) rfl rfl rfl rfl ⟨fun g _ w hk hx _ _=>Zk (d_map keyS (fun z':Int=>AV.int z') hJ rfl hk hx) fun v w' ⟨b',hv,hp⟩=>⟨(b',g.2.1,g.2.2.1,g.2.2.2),(fun k' hk'=>by rcases k' with _ | _ | _ | _ | _ | k'<;>first | rfl | cases hk'),fun _=>hv,True.intro,hp⟩,fun g _ w hk hx _ _=>Zk (d_map keyS (fun z':Int=>AV.int z') hJ rfl hk hx) fun v w' ⟨b',hv,hp⟩=>⟨(b',g.2.1,g.2.2.1,g.2.2.2),(fun k' hk'=>by rcases k' with _ | _ | _ | _ | _ | k'<;>first | rfl | cases hk'),fun _=>hv,True.intro,Xd (.refl _) (Yp (A:=[OB.var g.2.2.2 [.lit (.pointer none)]])).symm hp⟩,trivial⟩
    case e9_1_1=>exact ZeL [[true,false,false,false,false],[true,false,false,true,false]] (by kernel_rfl) rfl rfl rfl rfl ⟨fun g _ w hk hx hl hs=>Zk (ZkO (cs:=[Zb d.consts,Zb d.vars,Yq d.frames,.lit (.int .i64 (((z.toNat:Nat):Int))),ZQ ss,Zo (((Ys d z ss).1)),.lit (.int .i64 (((ZeM (Qh ss):Nat):Int))),.lit (.map (some g.1))]) hk (Zke Zh4 rfl (hl.D 0 38 rfl rfl) (hl.D 1 39 rfl rfl) (hl.D 2 40 rfl rfl) (hl.D 3 41 rfl rfl) (hl.D 6 44 rfl rfl) (hs 0 7 _ 45 rfl rfl rfl rfl) hx)) fun v w' hp=>⟨(g.1,v,g.2.2.1,g.2.2.2),(fun k' hk'=>by rcases k' with _ | _ | _ | _ | _ | k'<;>first | rfl | cases hk'),fun _=>rfl,True.intro,hp⟩,fun g _ w hk hx hl hs=>Zk (ZkO (cs:=[Zb d.consts,Zb d.vars,Yq d.frames,.lit (.int .i64 (((z.toNat:Nat):Int))),ZQ ss,Zo (((Ys d z ss).1)),.lit (.int .i64 (((ZeM (Qh ss):Nat):Int))),.lit (.map (some g.1))]) hk (Zke Zh4 rfl (hl.D 0 38 rfl rfl) (hl.D 1 39 rfl rfl) (hl.D 2 40 rfl rfl) (hl.D 3 41 rfl rfl) (hl.D 6 44 rfl rfl) (hs 0 7 _ 45 rfl rfl rfl rfl) hx)) fun v w' hp=>⟨(g.1,v,g.2.2.1,g.2.2.2),(fun k' hk'=>by rcases k' with _ | _ | _ | _ | _ | k'<;>first | rfl | cases hk'),fun _=>rfl,True.intro,Xd (.refl _) (Yp (A:=[OB.var g.2.2.2 [.lit (.pointer none)]])).symm hp⟩,trivial⟩
    case e9_1_2=>exact ZeL [[true,true,false,false,false],[true,true,false,true,false]] (by kernel_rfl) rfl rfl rfl rfl ⟨fun g _ w hk hx _ hs=>Zk (ZsY (cs:=[Zb d.consts,Zb d.vars,Yq d.frames,.lit (.int .i64 (((z.toNat:Nat):Int))),ZQ ss,Zo (((Ys d z ss).1)),.lit (.int .i64 (((ZeM (Qh ss):Nat):Int))),.lit (.map (some g.1))]) hJ rfl (hs 1 8 _ 46 rfl rfl rfl rfl) hk hx) fun v w' ⟨b',hv,hp⟩=>⟨(g.1,g.2.1,b',g.2.2.2),(fun k' hk'=>by rcases k' with _ | _ | _ | _ | _ | k'<;>first | rfl | cases hk'),fun _=>hv,True.intro,hp⟩,fun g _ w hk hx _ hs=>Zk (ZsY (cs:=[Zb d.consts,Zb d.vars,Yq d.frames,.lit (.int .i64 (((z.toNat:Nat):Int))),ZQ ss,Zo (((Ys d z ss).1)),.lit (.int .i64 (((ZeM (Qh ss):Nat):Int))),.lit (.map (some g.1))]) hJ rfl (hs 1 8 _ 46 rfl rfl rfl rfl) hk (Yw (Yp (A:=[OB.var g.2.2.2 [.lit (.pointer none)]])) hx)) fun v w' ⟨b',hv,hp⟩=>⟨(g.1,g.2.1,b',g.2.2.2),(fun k' hk'=>by rcases k' with _ | _ | _ | _ | _ | k'<;>first | rfl | cases hk'),fun _=>hv,True.intro,Xd (Yp (A:=[OB.var g.2.2.2 [.lit (.pointer none)]])).symm (Yp (A:=[OB.var g.2.2.2 [.lit (.pointer none)]])).symm hp⟩,trivial⟩
    case e9_1_3=>exact ZeL [[false,false,false,false,false],[true,false,false,false,false],[true,true,false,false,false],[true,true,true,false,false]] (by kernel_rfl) rfl rfl rfl rfl ⟨fun g _ w hk hx _ _=>Zk (Xs ZbM hJ rfl hk hx) fun v w' ⟨b',hv,hp⟩=>⟨(g.1,g.2.1,g.2.2.1,b'),(fun k' hk'=>by rcases k' with _ | _ | _ | _ | _ | k'<;>first | rfl | cases hk'),fun _=>hv,True.intro,hp⟩,fun g _ w hk hx _ _=>Zk (Xs ZbM hJ rfl hk hx) fun v w' ⟨b',hv,hp⟩=>⟨(g.1,g.2.1,g.2.2.1,b'),(fun k' hk'=>by rcases k' with _ | _ | _ | _ | _ | k'<;>first | rfl | cases hk'),fun _=>hv,True.intro,hp⟩,fun g _ w hk hx _ _=>Zk (Xs ZbM hJ rfl hk hx) fun v w' ⟨b',hv,hp⟩=>⟨(g.1,g.2.1,g.2.2.1,b'),(fun k' hk'=>by rcases k' with _ | _ | _ | _ | _ | k'<;>first | rfl | cases hk'),fun _=>hv,True.intro,hp⟩,fun g _ w hk hx _ _=>Zk (Xs ZbM hJ rfl hk hx) fun v w' ⟨b',hv,hp⟩=>⟨(g.1,g.2.1,g.2.2.1,b'),(fun k' hk'=>by rcases k' with _ | _ | _ | _ | _ | k'<;>first | rfl | cases hk'),fun _=>hv,True.intro,hp⟩,trivial⟩
    case e9_1_4=>exact ZeL [[true,true,true,true,false]] (by kernel_rfl) rfl rfl rfl rfl ⟨fun g _ w hk hx _ hs=>Zk (Zdc (S':=S) (off:=0) (es:=[_]) (c:=.lit (.pointer (some ⟨g.2.2.1,0,none⟩))) hJ hJ0 ZmY rfl hk hx (ZaY (hs 3 10 _ 12 rfl rfl rfl rfl)) (by rw[(hs 2 9 _ 47 rfl rfl rfl rfl)];exact Rel.of_lit _) (lb rfl) rfl) fun v w' hp=>⟨g,fun _ _=>rfl,fun e=>(by cases e),True.intro,hp⟩,trivial⟩
    clear a w h
    rintro⟨m2,x3,b4,b5⟩
    dsimp only[List.map]
    refine ZeK ?_
    refine lnA 0 fun hl2=>?_
    refine Zr9 ?_
    refine XA (m:=5) ?_
    refine YR tb hJ [1,1001] [_,.fn 90 [.ptr [Zo ((((((Ys d z ss).1)))))]]] [1] [_,_] rfl ⟨iFo hS hJ (Zqg hJ ((((Ys d z ss).1)))) Zu3,trivial⟩ ?_
    refine ZeK ?_
    refine ZgH ?_
    refine atw (fun h=>XU (p:=(([])=ZaP (Ys d z ss).1 ([]:List (Nat×List BA)).length)) (rfl) h) ?_
    refine Zj8 (m:=5) (κ:=(List (BA×Int))) (μ:=Empty) (σ:=Empty) ((Znv hJ (Ys d z ss).1 oz)) ZuS hJ hS hJ0 Zq (fun pre (L:(List (BA×Int)))=>[OB.fct ((L=ZaP (Ys d z ss).1 pre.length)),OB.var b5 [.lit (.pointer (some ⟨b4,0,none⟩))],OB.var b4 [Zb d.consts,Zb d.vars,Yq d.frames,.lit (.int .i64 (((z.toNat:Nat):Int))),ZQ ss,Zo ((((Ys d z ss).1))),.lit (.int .i64 (((ZeM (Qh ss):Nat):Int))),.lit (.map (some m2))],OB.mI m2 L]) (fun q':Empty=>undef) (fun q'=>[]) (fun s'=>[]) ([]) (fun x9=>[(12,.at b5 0),(13,.int (x9.1:Nat)),(14,.rd (Zb x9.2))]) (lb rfl) (lb rfl) Tryz.func32 ?_ ?_ ?_ ?_ ?_ ?_ ?_
    · exact fun a w h=>ZfO (h.get 1 rfl)
    ·
     rintro m9 l9 R' pre x9 L K9 hK9
     refine qso tb hJ [0,2,1000] [_] [_,_,_] ?_
     refine ln 0 fun hl3=>?_
     refine qpo tb hJ [1,2,1000] [_] [_,_,_] ?_
     exact hK9
    ·
     rintro m9 l9 R' pre x9 L hpre
     refine ZjN fun hF=>?_
     have r1_:L=ZaP (Ys d z ss).1 pre.length:=hF
     have hfs:=ZqR hpre
     refine ln 2 fun hl4=>?_
     refine Ze (tw pm2 (fun a w h=>YJ (γ:=Unit) (fun ix'=>([.at b4 0,.at b4 0,.at b4 7,.lit (.map (some m2)),.rd (Zb x9.2),.str (Xz x9.2),.int (x9.1:Nat),.any]:List AV).getD ix' .any) (fun _=>true) [(12,fun _=>.at b5 0)] (fun j' _=>match j' with | 0=>(OB.mI m2 L::OB.var b5 [.lit (.pointer (some ⟨b4,0,none⟩))]::OB.var b4 [Zb d.consts,Zb d.vars,Yq d.frames,.lit (.int .i64 (((z.toNat:Nat):Int))),ZQ ss,Zo ((((Ys d z ss).1))),.lit (.int .i64 (((ZeM (Qh ss):Nat):Int))),.lit (.map (some m2))]::R') | _=>(OB.mI m2 (Xu L (Xz x9.2) (((x9.1:Nat):Int)))::OB.var b5 [.lit (.pointer (some ⟨b4,0,none⟩))]::OB.var b4 [Zb d.consts,Zb d.vars,Yq d.frames,.lit (.int .i64 (((z.toNat:Nat):Int))),ZQ ss,Zo ((((Ys d z ss).1))),.lit (.int .i64 (((ZeM (Qh ss):Nat):Int))),.lit (.map (some m2))]::R')) (fun _ _=>undef) [7] 0 () (fun _=>rfl) h hJ Yk rfl rfl rfl rfl rfl rfl hsb ⟨?_,?_,?_,?_,?_,?_,?_,?_,trivial⟩ ⟨?e13_2_0,trivial⟩ ⟨.old 0 12 _,trivial⟩ ?n13_2))
     exact fun _ O' hO'=>⟨rfl,fun _ _ _ hx hl _=>Zs Zkr rfl (Zf hx (hO' _ (mo 1 rfl))) (hl.env 0 12 _ rfl rfl) rfl hx⟩
     exact oX rfl fun hx hl=>Z5 rfl (hl.D 0 52 rfl rfl) hx
     exact oX rfl fun hx hl=>Zy Zl5 rfl (hl.D 1 53 rfl rfl) hx
     exact fun _ O' hO'=>⟨rfl,fun _ _ _ hx hl _=>Zs one_90 rfl (Zf hx (hO' _ (mo 2 rfl))) (hl.D 2 54 rfl rfl) rfl hx⟩
     exact oX rfl fun hx hl=>ZW rfl (hl.env 2 14 _ rfl rfl) hx
     exact oY rfl fun hk hx hl=>Zbj (Zp2 hJ x9.2 (by exact(hts.2 _ hfs.2.2).1.2) (by exact(hts.2 _ hfs.2.2).2)) Zgo rfl (Zm hS _ hk hx) (hx.1) (Za (hl.D 4 56 rfl rfl) Zd) (jo hJ hx)
     exact oX rfl fun hx hl=>ZW rfl (hl.env 1 13 _ rfl rfl) hx
     exact Zi rfl
     case e13_2_0=>exact⟨_,rfl,rfl,rfl,rfl,fun g _ w hk hx hl _=>Zk (Zjf (f:=(fun z':Int=>AV.int z')) ZaI hJ hJ0 (Xz x9.2) (((x9.1:Nat):Int)) (.inl rfl) hk hx (hl.D 3 55 rfl rfl) (hl.D 5 57 rfl rfl) (hl.D 6 58 rfl rfl)) fun v w' ⟨_,hp⟩=>⟨g,rfl,fun _ _=>rfl,fun e=>(by cases e),hp⟩⟩
     clear a w h
     intro _
     dsimp only[List.map]
     refine kw pm2 (kw pm2 ?_)
     exact kw (fun h=>XU (p:=((Xu L (Xz x9.2) (((x9.1:Nat):Int)))=ZaP (Ys d z ss).1 (pre++[x9]).length)) (by rw[hfs.2.1,←r1_]) h) (fun a w h=>⟨(Xu L (Xz x9.2) (((x9.1:Nat):Int))),h.keep,h.x⟩)
    ·
     rintro hfl L D
     refine kw pm1 (ZjS fun hF=>?_)
     have r1_:L=ZaP (Ys d z ss).1 (ZeN (Ys d z ss).1).length:=hF
     refine Zvt (m:=5) ?_
     refine ZhS ?_
     refine ZbA ?_
     refine sy (.at b4 0) (fun h=>Zs Zkr rfl (Zf h.x (mo 1 rfl)) (h.get 0 rfl) rfl h.x) ?_
     refine snK 2 tb rfl (seK [0,1] [_,_] rfl ?_)
     refine nxD ?_
     refine ZqY ?_
     refine outD hJ hJ0 ?_
     refine kw pm1 (kw (fun h=>ZM hS h (m:=1) (s:=6) rfl) ?_)
     refine kw ZJ (kw (ob0 (congrArg (fun z'=>OB.mI m2 (z')) (show L=((ZaP (Ys d z ss).1 (Ys d z ss).1.length))from by rw[r1_,ZhZ]))) ?_)
     exact fun a w h=>Zub  (m:=0) (k:=1) m2 rfl h rfl rfl (tup2 (show(.ptr [Zb d.consts,Zb d.vars,Yq d.frames,.lit (.int .i64 (((z.toNat:Nat):Int))),ZQ ss,Zo ((((Ys d z ss).1))),.lit (.int .i64 (((ZeM (Qh ss):Nat):Int))),.lit (.map (some m2))]:AV)= .ptr [Zb d.consts,Zb d.vars,Yq d.frames,.lit (.int .i64 (((z.toNat:Nat):Int))),ZQ ss,Zo (((Ys d z ss).1)),.lit (.int .i64 ((((ZH ss):Nat):Int))),.lit (.map (some m2))]from by rfl) (eI (by rfl)))
    · exact fun s=>s.elim
    · exact fun v h=>by cases h
    · exact fun q=>q.elim
theorem Zhn {J:WP} (hJ:Stab J) (d:Db) (z:Int) (ss:List Stp) (step:Nat) (hw:∀ f∈d.frames,f.wide.length*32≤140737488351232) (hG:XI J) (hr:YA d z ss=0) (h16:ss.length≤16) (hf16:d.frames.length≤16) (hs:step<ss.length):Fn prog J 15 [.agg (dbC d),.int z,.agg (pfC ss),.int (step:Nat)] (.tup [.rd (Zeq (Zc1 (jbG d z ss) step)),.int 0]):=by
 refine fE Tryz.func15 fun S w0 hS hJ0=>?_
 refine tw Ye (ZK tb hJ [1,3,1000,1001] [.ptr (dbC d),.ptr (pfC ss),_,_] [0,1] [_,_,_,_] rfl ⟨iBo hS hJ,iBo hS hJ,trivial⟩ ?_)
 refine tsq (snK 3 tb (env':=[(15,_),(14,_),(13,_),(1,_),(3,_),(4,_),(6,_)]) rfl (QT (O:=[]) (R:=[]) (ZiN hJ d z ss (by exact hw) (by exact hG) (by exact hr)) Zeu rfl rfl rfl (lb rfl) hS hJ0 Zq (fun a w h=>(Za (h.get 2 rfl) (Za (h.get 1 rfl) (Za (h.get 0 rfl) Zd)))) fun z1=>?_))
 refine snK 5 tb (env':=[(11,_),(10,_),(18,_),(17,_),(12,_),(16,_),(15,_),(14,_),(13,_),(1,_),(3,_),(4,_),(6,_)]) rfl (seK [0,1,10,12] [_,_,_,_] rfl ?_)
 refine nx (Zh (qso tb hJ [0,1,2,3,1001] [_,_] [_,_,_,_,_] ?_))
 refine cj 4 (fun hb1=>?_) fun hb1=>?_
 ·
  exact False.elim (by simp at hb1)
 ·
  refine Zc (nx (Zh (ZK tb hJ [1,2,1008] [_,_,_,_,_,_,.int (ss.length:Nat),_,_] [6] [_,_,_] rfl ⟨Ym Z1,trivial⟩ ?_)))
  refine cj 2 (fun hb2=>?_) fun hb2=>?_
  ·
   exact False.elim (by simp at hb2;omega)
  ·
   refine Zc (nx (ZK tb hJ [1002,1003,1004] [_,_,.rd (Zeq ((Zc1 (⟨d,z.toNat,ss,(((Ys d z ss).1)),((ZaP (Ys d z ss).1 (Ys d z ss).1.length))⟩:Jb) step))),_,_] [2] [_,_,_] rfl ⟨fun _ _ hk hx hl _=>YX (Zfa hJ d z.toNat ss (((Ys d z ss).1)) z1 ((ZaP (Ys d z ss).1 (Ys d z ss).1.length)) step (by exact Zn1 hr h16 hf16 hw) (by exact hs)) Zo0 rfl (Zm hS _ hk hx) (hx.1) (ZF (Zf hx (mo 0 rfl)) Zq) (Za (hl.D 0 31 rfl rfl) (Za (hl.D 1 32 rfl rfl) Zd)) (jo hJ hx),trivial⟩ ?_))
   refine ln 0 fun hl1=>?_
   exact Zv (fun a w h=>YP (m:=1) (k:=2) rfl (Z6 h) rfl rfl (congrArg (fun z=>AV.rd (Zeq z)) (show((Zc1 (⟨d,z.toNat,ss,(((Ys d z ss).1)),((ZaP (Ys d z ss).1 (Ys d z ss).1.length))⟩:Jb) step))=(Zc1 (jbG d z ss) step)from by rfl)) (eI (by rfl)))
end Go.Proofs.YtdfadihhfppjaaaGreatDoor
namespace Go.Proofs.YtdfadihhfppjaaaGreatDoor
def ZgN (x y:Int):Int:=if x<y then-1 else if y<x then 1 else 0
def cmpC (a b:Chg):Int:=orI [ZgN a.after b.after,ZgN a.step b.step]
theorem ZoL {a b:Chg}:decide (cmpC a b<0)=ltK a b:=by
 unfold cmpC ZgN ltK orI
 by_cases h1:a.after<b.after
 · simp[h1]
 · by_cases h2:b.after<a.after
   · have:¬ a.after=b.after:=by omega
     simp[h1,h2,this]
   · have h3:a.after=b.after:=by omega
     by_cases h4:a.step<b.step
     · simp[h3,h4]
     · by_cases h5:b.step<a.step
       · simp[h3,h4,h5]
       · simp[h3,h4,h5]
def Yg:List Chg→Chg×Bool
 | []=>(⟨0,0,⟨#[]⟩,[],0,0⟩,false)
 | c::cs=>(XQ c cs,true)
theorem Zd6:∀(l:List Chg) (c x:Chg),XQ c (l++[x])=if ltK x (XQ c l)then x else XQ c l
 | [],c,x=>rfl
 | y::l,c,x=>by rw[List.cons_append,XQ,Zd6 l,XQ]
def Zqs (xs:List Chg) (k:Nat):Chg:=XQ (ge xs 0) ((xs.take k).drop 1)
section
variable {xs:List Chg} {k:Nat}
theorem lstP_one:Zqs xs 1=ge xs 0:=by
 unfold Zqs
 rw[List.drop_eq_nil_of_le (by rw[List.length_take];omega),XQ]
theorem Zhz (h1:1≤k) (h:k<xs.length):Zqs xs (k+1)=if ltK (ge xs k) (Zqs xs k)then ge xs k else Zqs xs k:=by
 unfold Zqs
 rw[List.take_add_one,List.getElem?_eq_getElem h,←YL h,List.drop_append_of_le_length (by rw[List.length_take];omega)]
 exact Zd6 _ _ _
theorem Zf9 (h:1≤xs.length):Zqs xs xs.length=(Yg xs).1∧(Yg xs).2=true:=by
 cases xs with
 | nil=>simp at h
 | cons c cs=>
  unfold Zqs
  rw[List.take_length]
  exact⟨rfl,rfl⟩
end
end Go.Proofs.YtdfadihhfppjaaaGreatDoor
set_option maxHeartbeats 8000000
set_option maxRecDepth 100000
namespace Go.Proofs.YtdfadihhfppjaaaGreatDoor
open Go.Proofs.Tryz (prog)
open Go.RowKit
theorem ZoU:Zj prog 78:=Zn Tryz.func78 rfl rfl
theorem ZoZ:Zj prog 45:=Zn Tryz.func45 rfl rfl
theorem Zu6:Zj prog 43:=Zn Tryz.func43 rfl rfl
theorem X3:prog.underlying 42=some (.slice 37):=by kernel_rfl
theorem ZuY:Zj prog 77:=Zn Tryz.func77 rfl rfl
theorem Zkl {J:WP} (hJ:Stab J) (x:Int)  :Fn prog J 78 [.int x] (.bool false):=by
 refine fE Tryz.func78 fun S w0 hS hJ0=>?_
 clear hJ0
 refine qs tb hJ [0] [_] [_] ?_
 refine qs tb hJ [1003] [_,_,_,_] [_] ?_
 exact tRn 0 (hE:=eB yz)
theorem ZsB {J:WP} (hJ:Stab J) (x y:Int)  :Fn prog J 45 [.int x,.int y] (.int (ZgN x y)):=by
 refine fE Tryz.func45 fun S w0 hS hJ0=>?_
 clear hJ0
 refine qs tb hJ [0,1] [_] [_,_] ?_
 refine hqs tb hJ [0,1,1002] [_,.bool false,_] [1] [_,_,_] rfl ⟨iFn hS hJ (Zkl hJ x) ZoU,trivial⟩ ?_
 refine hqs tb hJ [0,1,2,1002] [_,.bool false,_] [1] [_,_,_,_] rfl ⟨iFn hS hJ (Zkl hJ y) ZoU,trivial⟩ ?_
 refine Zh (qs tb hJ [0,1,3,1000] [_] [_,_,_,_] ?_)
 refine cj 3 (fun hb1=>?_) fun hb1=>?_
 ·
  exact False.elim (by cases hb1)
 ·
  refine Zc (nx (Zh (qs tb hJ [0,1,1000] [_] [_,_,_] ?_)))
  refine cj 2 (fun hb3=>?_) fun hb3=>?_
  ·
   exact False.elim (by cases hb3)
  ·
   refine Zc (nx (Zh (qs tb hJ [0,1,1002] [_,_,_] [_,_,_] ?_)))
   refine cj 2 (fun hb4=>?_) fun hb4=>?_
   ·
    try simp at hb4
    refine qs tb hJ [1000] [_] [_] ?_
    exact tRn 0 (hE:=eI (by first | (simp_all[ZgN];done) | grind[ZgN]))
   ·
    try simp at hb4
    refine Zc (nx (Zh (qs tb hJ [1002] [_,_,_] [_] ?_)))
    refine cj 0 (fun hb5=>?_) fun hb5=>?_
    ·
     try simp at hb5
     refine qs tb hJ [1000] [_] [_] ?_
     exact tRn 0 (hE:=eI (by first | (simp_all[ZgN];done) | grind[ZgN]))
    ·
     try simp at hb5
     refine Zc (nx (qs tb hJ [1000] [_] [_] ?_))
     exact tRn 0 (hE:=eI (by first | (simp_all[ZgN];done) | grind[ZgN]))
theorem ZtH {J:WP} (hJ:Stab J) (a':Chg) (b':Chg)  :Fn prog J 43 [.agg (chC (a')),.agg (chC (b'))] (.int (cmpC a' b')):=by
 refine fE Tryz.func43 fun S w0 hS hJ0=>?_
 clear hJ0
 refine hqs tb hJ [1000,1001] [.ptr (chC (a')),.ptr (chC (b')),_] [0,1] [_,_] rfl ⟨iBs hS hJ,iBs hS hJ,trivial⟩ ?_
 refine hqs tb hJ [1010,1012] [_,_,_,_,.int (ZgN ((a').after) ((b').after)),_,_,_,_,.int (ZgN ((a').step) ((b').step)),.rd (ZX (([ZgN ((a').after) ((b').after),ZgN ((a').step) ((b').step)]:List Int))),.int (orI (([ZgN ((a').after) ((b').after),ZgN ((a').step) ((b').step)]:List Int))),_] [4,9,10,11] [_,_] rfl ⟨iFn hS hJ (ZsB hJ ((a').after) ((b').after)) ZoZ,iFn hS hJ (ZsB hJ ((a').step) ((b').step)) ZoZ,fun a _ hk hx hl _=>QZ (k:=2) (us:=[a.eval (Go.Operand.tmp 9),a.eval (Go.Operand.tmp 14)]) ZC Zdm rfl yz (Zp (hl.D 4 9 rfl rfl) (Zp (hl.D 9 14 rfl rfl) Z4)) rfl dz dz (hS _ hk.size) (js hJ hx),iFn hS hJ (p_OrI hJ (([ZgN ((a').after) ((b').after),ZgN ((a').step) ((b').step)]:List Int))) Zjq,trivial⟩ ?_
 refine ln 0 fun hl1=>?_
 exact tRn 1 (hE:=eI (rfl))
theorem Znt {J:WP} (hJ:Stab J) (xs:List Chg) (hx1:1≤xs.length):Fn prog J 77 [.rd (Zeq xs),.fn 43 []] (.agg (chC ((Yg xs).1))):=by
 refine fE Tryz.func77 fun S w0 hS hJ0=>?_
 refine tw Ye (ln 0 fun hl1=>?_)
 refine tsq (ZA XE hJ rfl rfl rfl (lb rfl) fun b1=>?_)
 refine seK [0,1,2] [_,_,_] rfl (nx (Zh (ZK tb hJ [0,1,2,1002] [_,.int (xs.length:Nat),_] [1] [_,_,_,_] rfl ⟨Ym X3,trivial⟩ ?_)))
 refine cj 3 (fun hb1=>?_) fun hb1=>?_
 ·
  try simp at hb1
  exact False.elim oz
 ·
  try simp at hb1
  refine Zc (nx (tsq (snK 1 tb rfl (sy (.ptr (chC (ge xs 0))) (fun h=>ZU (i:=((0:Nat):Int)) YY rfl (h.get 0 rfl) (Rel.of_lit (Go.Value.int Go.IntKind.i64 0)) nnn (Z0 (xs:=xs) (k:=0) (by first | omega | (simp;omega) | grind[Zg])) rfl h.x) ?_))))
  refine snK 1 tb rfl (ZA XE hJ rfl rfl rfl (lb rfl) fun b2=>?_)
  refine Zt (b:=b2) (off:=0) (es:=[_,_,_,_,_,_]) (news:=[_,_,_,_,_,_]) hJ hJ0 Zaj rfl rfl rfl (lb rfl) rfl (fun a w h=>⟨(h.get 0 rfl),(h.get 1 rfl)⟩) ?_
  refine seK [0,4,5,6] [_,_,_,_] rfl (nx (Zh (qso tb hJ [0,1,2,3,1000] [_] [_,_,_,_,_] ?_)))
  refine Ze (lpo (ι:=Nat×Chg) (fun(k,cm)=>(1≤k)∧(k≤xs.length)∧(cm=Zqs xs k)) (fun(_,cm)=>[OB.var b2 (chC cm),OB.var b1 [.lit (.int .i64 0),.lit (.int .i64 0),.lit (.string (⟨#[]⟩:BA)),ZX ([]:List Int),.lit (.int .i64 0),.lit (.int .i64 0)]]) (fun(k,_)=>[(6,.int (k:Nat))]) (fun(k,_)=>xs.length-k) [0,1,2,3,4] [_,_,_,_] (1,(ge xs 0)) ⟨Nat.le_refl _,hx1,lstP_one.symm⟩ ?_)
  rintro⟨k,cm⟩ ⟨f1_1,f1_2,f1_3⟩
  refine Zh (ZK tb hJ [0,1,2,3,4,1003] [_,_,.int (xs.length:Nat),_] [2] [_,_,_,_,_,_] rfl ⟨Ym X3,trivial⟩ ?_)
  refine cj 5 (fun hb2=>?_) fun hb2=>?_
  ·
   try simp at hb2
   refine Zc (nx (Zh (Ze (ZK tb hJ [0,1,2,3,4,1007] [_,_,_,.ptr (chC (ge xs k)),_,.agg (chC cm),.int (cmpC (ge xs k) cm),_] [3,5,6] [_,_,_,_,_,_] rfl ⟨iIx YY,fun _ _ _ hx hl _=>Yt (ds:=[.lit (.int .i64 cm.reason),.lit (.int .i64 cm.step),.lit (.string cm.label),ZX cm.args,.lit (.int .i64 cm.before),.lit (.int .i64 cm.after)]) Qd rfl (Zf hx (mo 0 rfl)) (hl.env 0 5 _ rfl rfl) rfl rfl hx,fun _ _ hk hx hl _=>Zan ((ZtH hJ (ge xs k) cm).rr) Zu6 rfl (hl.D 0 20 rfl rfl) (Zm hS _ hk hx) (hx.1) Zq (Za (hl.D 4 24 rfl rfl) (Za (hl.D 5 25 rfl rfl) Zd)) (jo hJ hx),trivial⟩ ?_))))
   refine cj 5 (fun hb3=>?_) fun hb3=>?_
   ·
    try simp at hb3
    refine ZS (snK 2 tb rfl (sy (.ptr (chC (ge xs k))) (fun h=>ZU (i:=((k:Nat):Int)) YY rfl (h.get 1 rfl) (h.get 0 rfl) nnn (Z0 (xs:=xs) (k:=k) (by first | omega | (simp;omega) | grind[Zg])) rfl h.x) ?_))
    refine snK 1 tb rfl (Zt (b:=b2) (off:=0) (es:=[_,_,_,_,_,_]) (news:=[_,_,_,_,_,_]) hJ hJ0 Zaj rfl rfl rfl (lb rfl) rfl (fun a w h=>⟨(h.get 4 rfl),(h.get 0 rfl)⟩) ?_)
    refine seK [4,5,6,7,8] [_,_,_,_,_] rfl (nx (YR tb hJ [0,1,2,3,1002] [_,.int (k+1:Nat),_] [1] [_,_,_,_,_] rfl ⟨YN,trivial⟩ ?_))
    exact Xf ((k+1),(ge xs k)) [0,1,2,3,4] ⟨oz,oz,by rw[Zhz f1_1 oz,←ZoL,←f1_3];first | rw[if_pos (decide_eq_true hb3)] | rw[if_neg (by simp;omega)]⟩
   ·
    try simp at hb3
    refine Zc (nx (YR tb hJ [0,1,2,3,1002] [_,.int (k+1:Nat),_] [1] [_,_,_,_,_] rfl ⟨YN,trivial⟩ ?_))
    exact Xf ((k+1),cm) [0,1,2,3,4] ⟨oz,oz,by rw[Zhz f1_1 oz,←ZoL,←f1_3];first | rw[if_pos (decide_eq_true hb3)] | rw[if_neg (by simp;omega)]⟩
  ·
   try simp at hb2
   refine Zu (nx (tsq (sy (.agg (chC cm)) (fun h=>Yt (ds:=[.lit (.int .i64 cm.reason),.lit (.int .i64 cm.step),.lit (.string cm.label),ZX cm.args,.lit (.int .i64 cm.before),.lit (.int .i64 cm.after)]) Qd rfl (Zf h.x (mo 0 rfl)) (h.get 0 rfl) rfl rfl h.x) ?_)))
   refine kw pm1 (Zt (b:=b1) (off:=0) (es:=[_,_,_,_,_,_]) (news:=[_,_,_,_,_,_]) hJ hJ0 Zaj rfl rfl rfl (lb rfl) rfl (fun a w h=>⟨(h.get 2 rfl),(h.get 0 rfl)⟩) ?_)
   exact seK [2] [_] rfl (nx (Zv (fun a w h=>Zby (m:=0) rfl Qd h rfl rfl (show(_:List CD)=[.lit (.int .i64 (((Yg xs).1).reason)),.lit (.int .i64 (((Yg xs).1).step)),.lit (.string (((Yg xs).1).label)),ZX (((Yg xs).1).args),.lit (.int .i64 (((Yg xs).1).before)),.lit (.int .i64 (((Yg xs).1).after))]from by(rw[←(Zf9 hx1).1,f1_3,show k=xs.length by omega])<;>rfl))))
theorem p_best {J:WP} (hJ:Stab J) (xs:List Chg)  :Fn prog J 42 [.rd (Zeq xs),.fn 43 []] (.tup [.agg (chC ((Yg xs).1)),.bool ((Yg xs).2)]):=by
 refine fE Tryz.func42 fun S w0 hS hJ0=>?_
 refine tw Ye (ln 0 fun hl1=>?_)
 refine tsq (ZA XE hJ rfl rfl rfl (lb rfl) fun b1=>?_)
 refine snK 1 tb rfl (seK [1,2,3] [_,_,_] rfl ?_)
 refine nx (tsq (ZA XE hJ rfl rfl rfl (lb rfl) fun b2=>?_))
 refine seK [0,1,2,3] [_,_,_,_] rfl (nx (Zh (ZK tb hJ [0,1,2,3,1002] [_,.int (xs.length:Nat),_] [1] [_,_,_,_,_] rfl ⟨Ym X3,trivial⟩ ?_)))
 refine cj 4 (fun hb1=>?_) fun hb1=>?_
 ·
  try simp at hb1
  have eb:Yg xs=(⟨0,0,⟨#[]⟩,[],0,0⟩,false):=by rw[hb1];rfl
  refine tsq (sy (.agg [.lit (.int .i64 0),.lit (.int .i64 0),.lit (.string (⟨#[]⟩:BA)),ZX ([]:List Int),.lit (.int .i64 0),.lit (.int .i64 0)]) (fun h=>Yt (ds:=[.lit (.int .i64 0),.lit (.int .i64 0),.lit (.string (⟨#[]⟩:BA)),ZX ([]:List Int),.lit (.int .i64 0),.lit (.int .i64 0)]) Qd rfl (Zf h.x (mo 0 rfl)) (h.get 0 rfl) rfl rfl h.x) ?_)
  refine kw pm1 (Zt (b:=b1) (off:=0) (es:=[_,_,_,_,_,_]) (news:=[_,_,_,_,_,_]) hJ hJ0 Zaj rfl rfl rfl (lb rfl) rfl (fun a w h=>⟨(h.get 2 rfl),(h.get 0 rfl)⟩) ?_)
  refine snK 1 tb rfl (seK [0,3] [_,_] rfl ?_)
  exact nx (Zv (fun a w h=>Zd5 (m:=1) (q:=0) rfl Qd h rfl rfl (show(_:List CD)=[.lit (.int .i64 (((Yg xs).1).reason)),.lit (.int .i64 (((Yg xs).1).step)),.lit (.string (((Yg xs).1).label)),ZX (((Yg xs).1).args),.lit (.int .i64 (((Yg xs).1).before)),.lit (.int .i64 (((Yg xs).1).after))]from by(first | rw[eb] | rfl)<;>rfl) rfl (eB (by first | (rw[eb];done) | exact(Zf9 hx1).2.symm))))
 ·
  try simp at hb1
  have hx1:1≤xs.length:=by cases xs with | nil=>exact absurd rfl hb1 | cons=>simp
  refine Zc (nx (tsq (snK 2 tb rfl (sy (.agg (chC (((Yg xs).1)))) (fun h=>Zbj (Znt hJ xs (by exact hx1)) ZuY rfl (Zm hS _ h.keep h.x) (h.x.1) (Za (h.get 1 rfl) (Za (h.get 0 rfl) Zd)) (jo hJ h.x)) ?_))))
  refine kw pm1 (Zt (b:=b1) (off:=0) (es:=[_,_,_,_,_,_]) (news:=[_,_,_,_,_,_]) hJ hJ0 Zaj rfl rfl rfl (lb rfl) rfl (fun a w h=>⟨(h.get 4 rfl),(h.get 0 rfl)⟩) ?_)
  refine snK 1 tb rfl (seK [0,5] [_,_] rfl ?_)
  exact nx (Zv (fun a w h=>Zd5 (m:=1) (q:=0) rfl Qd h rfl rfl (show(_:List CD)=[.lit (.int .i64 (((Yg xs).1).reason)),.lit (.int .i64 (((Yg xs).1).step)),.lit (.string (((Yg xs).1).label)),ZX (((Yg xs).1).args),.lit (.int .i64 (((Yg xs).1).before)),.lit (.int .i64 (((Yg xs).1).after))]from by(first | rw[eb] | rfl)<;>rfl) rfl (eB (by first | (rw[eb];done) | exact(Zf9 hx1).2.symm))))
end Go.Proofs.YtdfadihhfppjaaaGreatDoor
namespace Go.Proofs.YtdfadihhfppjaaaGreatDoor
section
variable {j:Jb} {step:Nat} {c:Chg}
theorem Zq7 (h:JobW j) (hs:step<j.ss.length) (hc:c∈Zc1 j step):c.step=(step:Int)∧(∀ a∈c.args,0≤a∧a<c.step)∧c.args.length≤40∧(c.reason=2∨1≤c.args.length):=by
 obtain⟨c0,h0,hg⟩:=List.mem_filterMap.1 hc
 have e:c=ZbI j.ss c0:=by
  unfold X0 at hg
  split at hg
  · exact(Option.some.inj hg).symm
  · cases hg
 have key:c0.step=(step:Int)∧(∀ a∈c0.args,0≤a∧a<c0.step)∧c0.args.length≤40∧(c0.reason=2∨1≤c0.args.length):=by
  rcases List.mem_append.1 h0 with h0 | h0
  · unfold ZeF at h0
    split at h0
    · rename_i hz
      obtain rfl:=List.mem_singleton.1 h0
      have hf:=h.fst hs
      refine⟨rfl,fun a ha=>?_,by simp,.inr yz⟩
      rw[List.mem_singleton.1 ha]
      exact⟨by rw[hf.2.2];exact hf.1,hz⟩
    · cases h0
  · obtain⟨g,_,h1⟩:=List.mem_flatMap.1 h0
    unfold Zpm at h1
    split at h1
    · cases h1
    · rename_i hy
      obtain⟨al,ha,rfl⟩:=List.mem_map.1 h1
      obtain⟨_,h2,h3⟩:=ZkU h.m0 ha
      exact⟨rfl,h3,by show al.length≤40;omega,.inl rfl⟩
 rw[e]
 exact key
theorem Zr8 (h:JobW j) (hc:c∈Zmr j):0≤c.step∧c.step< (j.ss.length:Int)∧(∀ a∈c.args,0≤a∧a<c.step)∧c.args.length≤40∧(c.reason=2∨1≤c.args.length):=by
 obtain⟨s,hs,h1⟩:=List.mem_flatMap.1 hc
 have hs:=List.mem_range.1 hs
 obtain⟨e,g2,g3,g4⟩:=Zq7 h hs h1
 exact⟨by rw[e];exact Int.natCast_nonneg _,by rw[e];exact Int.ofNat_lt.2 hs,g2,g3,g4⟩
theorem ZoM (h:JobW j) (hs:step<j.ss.length):(Zc1 j step).length≤2000000:=
 ZoP (j:=j) (step:=step) h.m0 (by have:=h.l16;omega) (q:=j.i) (by have:=h.hi;have:=h.f16;omega)
end
def Zvw (j:Jb) (q:Nat):List Chg:=(List.range q).flatMap (Zc1 j)
theorem Zih {j:Jb} {q:Nat}:Zvw j (q+1)=Zvw j q++Zc1 j q:=by
 unfold Zvw
 rw[List.range_succ,List.flatMap_append]
 simp
theorem Zlg {j:Jb} (h:JobW j):∀ q,q≤j.ss.length→(Zvw j q).length≤q*2000000
 | 0,_=>by simp[Zvw]
 | q+1,hq=>by
  have h1:=Zlg h q oz
  have h2:=ZoM h (step:=q) oz
  rw[Zih,List.length_append,Nat.add_mul]
  omega
theorem Zgy {xs:List Chg} (h:(Yg xs).2=true):(Yg xs).1∈xs:=by
 cases xs with
 | nil=>cases h
 | cons c cs=>
  show XQ c cs∈c::cs
  rcases ZcB cs c with h | h<;>simp[h]
section
variable {R:List Stp→Int} {A:List Stp→List Chg} {k:Nat} {ss:List Stp} {l:List Chg}
theorem ZsH (h:(Yg (A ss)).2=false):ZgL R A k ss l=(ss,l,0):=by
 cases k with
 | zero=>rfl
 | succ k=>
  rw[ZgL]
  cases e:A ss with
  | nil=>rfl
  | cons c cs=>rw[e]at h;cases h
theorem ml_ok (h:(Yg (A ss)).2=true) (h0:R (XY ss (Yg (A ss)).1)=0):ZgL R A (k+1) ss l=ZgL R A k (XY ss (Yg (A ss)).1) (l++[(Yg (A ss)).1]):=by
 rw[ZgL]
 cases e:A ss with
 | nil=>rw[e]at h;cases h
 | cons c cs=>
  rw[e]at h0
  exact if_pos h0
theorem ZsI (h:(Yg (A ss)).2=true) (h0:¬ R (XY ss (Yg (A ss)).1)=0):ZgL R A (k+1) ss l=([],[],R (XY ss (Yg (A ss)).1)):=by
 rw[ZgL]
 cases e:A ss with
 | nil=>rw[e]at h;cases h
 | cons c cs=>
  rw[e]at h0
  exact if_neg h0
end
end Go.Proofs.YtdfadihhfppjaaaGreatDoor
set_option maxHeartbeats 8000000
set_option maxRecDepth 100000
namespace Go.Proofs.YtdfadihhfppjaaaGreatDoor
open Go.RowKit
theorem Zh3:ZcW Tryz.prog 28 [.slice none 0 0]:=⟨fun i=>(#[(0,1)]:Array (Nat×Nat))[i]?,fun j hj=>by rcases j with _ | j<;>first | rfl | (simp at hj;omega) | simp at hj,fun parts=>by kernel_rfl⟩
theorem Zu7:Zj Tryz.prog 42:=Zn Tryz.func42 rfl rfl
theorem ZpG {xs:List Stp} {k:Nat}:xs.set k (⟨(ge xs k).label,(ge xs k).args⟩:Stp)=xs:=by
 rcases Nat.lt_or_ge k xs.length with h | h
 · rw[show(⟨(ge xs k).label,(ge xs k).args⟩:Stp)=xs[k]from YL h]
   exact List.set_getElem_self h
 · exact List.set_eq_of_length_le h
theorem ZiR {J:WP} (hJ:Stab J) (d:Db) (z:Int) (ss:List Stp) (most:Nat) (hw:∀ f∈d.frames,f.wide.length*32≤140737488351232) (hG:XI J) (hr:¬ YA d z ss=0):Fn Tryz.prog J 14 [.agg (dbC d),.int z,.agg (pfC ss),.int (most:Nat)] (.tup [.agg (pfC ([]:List Stp)),.rd (Zeq ([]:List Chg)),.int (YA d z ss)]):=by
 refine fE Tryz.func14 fun S w0 hS hJ0=>?_
 refine tw Ye (tsq ?_)
 refine sy (.ptr (dbC d)) (fun h=>ZcZ rfl (h.get 0 rfl) (Zm hS _ h.keep h.x _ nlr) (jo hJ h.x)) ?_
 refine sy (.ptr (pfC ss)) (fun h=>ZcZ rfl (h.get 3 rfl) (Zm hS _ h.keep h.x _ nlr) (jo hJ h.x)) ?_
 refine ZA QD hJ rfl rfl rfl (lb rfl) fun b1=>?_
 refine snK 2 tb rfl (seK [2,3,4,6,8] [_,_,_,_,_] rfl ?_)
 refine nx (ZfG (ZK tb hJ [0,1,2,3,4,1007,1008] [_,_,_,.tup [.rd (.lit (Go.Value.pointer none)),.int (YA d z ss)],_,_,_,_,_] [3] [_,_,_,_,_,_,_] rfl ⟨iFo hS hJ (Zkj hJ d z ss (by exact hw) (by exact hG) (by exact hr)) Zeu,trivial⟩ ?_))
 refine Zh (qso tb hJ [0,1,2,3,4,5,6,1001] [_,_] [_,_,_,_,_,_,_,_] ?_)
 refine cj 7 (fun hb1=>?_) fun hb1=>?_
 ·
  refine tsq (sy (.agg (pfC ([]:List Stp))) (fun h=>XJ (ps:=[]) (us:=[.slice none 0 0]) Zh3 rfl yz Zms rfl (Qp (.nil _ _ nzl) Z4) h.x) ?_)
  refine snK 1 tb rfl (Zt (b:=b1) (off:=0) (es:=[_]) (news:=[_]) hJ hJ0 Y5 rfl rfl rfl (lb rfl) rfl (fun a w h=>⟨(h.get 2 rfl),(h.get 1 rfl)⟩) ?_)
  refine snK 2 tb rfl (seK [0,1,4] [_,_,_] rfl ?_)
  exact nx (tw (fun h=>Xk h (m:=1) (s:=9) rfl) (Zv (fun a w h=>Zc9 (cs:=[ZQ ([]:List Stp)]) (m:=2) (q:=1) (z:=0) rfl Yu h rfl rfl rfl rfl rfl rfl rfl)))
 ·
  exact False.elim (hr (by simpa using hb1))
theorem ZiQ {J:WP} (hJ:Stab J) (d:Db) (z:Int) (ss:List Stp) (most:Nat) (hw:∀ f∈d.frames,f.wide.length*32≤140737488351232) (hG:XI J) (hr:YA d z ss=0) (h16:ss.length≤16) (hf16:d.frames.length≤16) (hm:most≤100):Fn Tryz.prog J 14 [.agg (dbC d),.int z,.agg (pfC ss),.int (most:Nat)] (.tup [.agg (pfC ((X9 d z ss most).1)),.rd (Zeq ((X9 d z ss most).2.1)),.int ((X9 d z ss most).2.2)]):=by
 refine fE Tryz.func14 fun S w0 hS hJ0=>?_
 refine tw Ye ?_
 have hok:=(Zn2 hr).2
 have hl0:=hok.1
 have hl1:=hok.2.1
 refine tsq (sy (.ptr (dbC d)) (fun h=>ZcZ rfl (h.get 0 rfl) (Zm hS _ h.keep h.x _ nlr) (jo hJ h.x)) ?_)
 refine ZdB (cs:=[ZQ ss]) hJ rfl rfl rfl (lb rfl) (fun a w h=>(h.get 3 rfl)) fun b1=>?_
 refine ZA QD hJ rfl rfl rfl (lb rfl) fun b2=>?_
 refine snK 2 tb (env':=[(10,_),(9,_),(8,_),(6,_),(4,_),(0,_),(1,_),(2,_),(3,_)]) rfl (seK [2,3,4,6,8] [_,_,_,_,_] rfl ?_)
 refine nx (ZfG (tsq (snK 2 tb (env':=[(22,_),(21,_),(8,_),(6,_),(4,_),(1,_),(3,_)]) rfl (sy (.agg (pfC ss)) (fun h=>Yt (ds:=[ZQ ss]) Yu rfl (Zf h.x (mo 1 rfl)) (h.get 3 rfl) rfl rfl h.x) ?_))))
 refine QT (O:=[]) (R:=[OB.var b2 [ZQ ([]:List Stp)],OB.var b1 [ZQ ss]]) (ZiN hJ d z ss (by exact hw) (by exact hG) (by first | exact hr2 | exact hr)) Zeu rfl rfl rfl (lb rfl) hS hJ0 Zq (fun a w h=>(Za (h.get 2 rfl) (Za (h.get 1 rfl) (Za (h.get 0 rfl) Zd)))) fun z3=>?_
 refine snK 5 tb (env':=[(12,_),(11,_),(26,_),(25,_),(20,_),(24,_),(23,_),(22,_),(21,_),(8,_),(6,_),(4,_),(1,_),(3,_)]) rfl (seK [0,1,9,10,11,12,13] [_,_,_,_,_,_,_] rfl ?_)
 refine nx (Zh (qso tb hJ [0,1,2,3,4,5,6,1001] [_,_] [_,_,_,_,_,_,_,_] ?_))
 refine cj 7 (fun hb1=>?_) fun hb1=>?_
 ·
  exact False.elim (by simp at hb1)
 ·
  refine Zc (nx (tsq (sy (.at b1 0) (fun h=>Zy Yz rfl (h.get 3 rfl) h.x) ?_)))
  refine sy (.rd (ZQ ss)) (fun h=>Zs Zaq rfl (Zf h.x (mo 2 rfl)) (h.get 0 rfl) rfl h.x) ?_
  refine QT (O:=[]) (R:=[OB.mI z3 ((ZaP (Ys d z ss).1 (Ys d z ss).1.length)),OB.var b2 [ZQ ([]:List Stp)],OB.var b1 [ZQ ss]]) (Zhm hJ ss oz) Zo1 rfl rfl rfl (lb rfl) hS hJ0 Zq (fun a w h=>(Za (h.get 0 rfl) Zd)) fun z4=>?_
  refine sq (.agg [.lit z4]) rfl rfl (lb rfl) (fun a _ h=>XD (us:=[a.eval (Go.Operand.tmp 33)]) ZcH rfl yz (Zp (h.get 0 rfl) Z4) rfl h.x) ?_
  refine kw pm3 (Zt (b:=b1) (off:=0) (es:=[_]) (news:=[_]) hJ hJ0 Y5 rfl rfl rfl (lb rfl) rfl (fun a w h=>⟨(h.get 7 rfl),(h.get 0 rfl)⟩) ?_)
  refine seK [2,5,6,7,8,9,10] [_,_,_,_,_,_,_] rfl (nx (ln 0 fun hl1=>?_))
  refine Zh (ZqG tb hJ [1,2,3,4,5,6,1001,1002,1003] [.at b1 0,.lit z4,.int (ss.length:Nat),_] [0,1,2] [_,_,_,_,_,_,_,_,_] rfl ⟨fun _ _ _ hx hl _=>Zy Yz rfl (hl.env 3 6 _ rfl rfl) hx,fun _ _ _ hx hl _=>Zs Zaq rfl (Zb3 hx (mo 0 rfl)) (hl.D 0 35 rfl rfl) rfl hx,fun _ _ _ hx hl _=>Zam Z1 rfl (XK hS hx (mo 1 rfl) (hl.D 1 36 rfl rfl)) hx,trivial⟩ ?_)
  refine Ze (lpo (ι:=Nat×(List Stp)) (fun(q,out)=>(q≤ss.length)∧(out=ss)) (fun(_,out)=>[OB.var b1 [.lit z4],OB.row z4 88 2 (out.map spC),OB.mI z3 ((ZaP (Ys d z ss).1 (Ys d z ss).1.length)),OB.var b2 [ZQ ([]:List Stp)]]) (fun(q,_)=>[(38,.int (q:Nat))]) (fun(q,_)=>ss.length-q) [0,1,2,3,4,5,6,7,8] [_,_,_,_,_,_,_,_] (0,ss) ⟨nzl,rfl⟩ ?_)
  rintro⟨q,out⟩ ⟨f1_1,f1_2⟩
  refine qso tb hJ [0,1,2,3,4,5,6,7,8,1000] [_] [_,_,_,_,_,_,_,_,_,_] ?_
  refine cjS 9 (fun hb2=>?_) fun hb2=>?_
  ·
   try simp at hb2
   have e0:=Zf2 hok (show q<ss.length by omega)
   rw[←f1_2]at e0
   have hol:out.length=ss.length:=by rw[f1_2]
   refine Zc (nx (Zh (Ze (tsq (snK 1 tb (env':=[(40,_),(11,_),(8,_),(6,_),(4,_),(1,_),(3,_),(36,_),(37,_),(38,_),(39,_)]) rfl (sy (.lit (YS z4 (q*2))) (fun h=>Yc (i:=((q:Nat):Int)) Z3 rfl (Zf h.x (mo 1 rfl)) (h.get 7 rfl) (h.get 9 rfl) nnn (by rw[List.length_map];exact Int.ofNat_lt.2 (by first | omega | (simp;omega) | grind[Zg])) h.x) ?_))))))
   refine sy (.agg (spC (ge out q))) (fun h=>Xw (i:=q) Zck rfl (Zf h.x (mo 1 rfl)) (h.get 0 rfl) (Qq (xs:=out) (k:=q) (by first | omega | (simp;omega) | grind[Zg])) rfl h.x) ?_
   refine ZA Xv hJ rfl rfl rfl (lb rfl) fun b5=>?_
   refine snK 1 tb (env':=[(13,_),(14,_),(42,_),(41,_),(40,_),(11,_),(8,_),(6,_),(4,_),(1,_),(3,_),(36,_),(37,_),(38,_),(39,_)]) rfl (Zt (b:=b5) (off:=0) (es:=[_,_]) (news:=[_,_]) hJ hJ0 Qe rfl rfl rfl (lb rfl) rfl (fun a w h=>⟨(h.get 1 rfl),(h.get 2 rfl)⟩) ?_)
   refine kw (fun h=>ZM hS h (m:=1) (s:=14) rfl) (seK [0,1,5,6,7,8,9,10,11,12,13] [_,_,_,_,_,_,_,_,_,_,_] rfl ?_)
   refine nx (fun a w h=>YJ (γ:=Value) (fun ix'=>([.at b1 0,.lit z4,.int (q:Nat),.ptr [ZX ((ge out q).args)],.rd (ZX ((ge out q).args)),.any,.lit (YS z4 (q*2)),.lit (YS z4 (q*2+1)),.any]:List AV).getD ix' .any) (fun _=>true) [(11,fun _=>.ptr [Zb d.consts,Zb d.vars,Yq d.frames,.lit (.int .i64 (((z.toNat:Nat):Int))),ZQ ss,Zo (((Ys d z ss).1)),.lit (.int .i64 ((((ZH ss):Nat):Int))),.lit (.map (some z3))]),(8,fun _=>.at b2 0),(6,fun _=>.at b1 0),(4,fun _=>.ptr (dbC d)),(1,fun _=>.int z),(3,fun _=>.int (most:Nat)),(36,fun _=>.lit z4),(37,fun _=>.int (ss.length:Nat)),(38,fun _=>.int (q:Nat))] (fun j' g=>match j' with | 0=>[OB.var b1 [.lit z4],OB.row z4 88 2 (out.map spC),OB.mI z3 ((ZaP (Ys d z ss).1 (Ys d z ss).1.length)),OB.var b2 [ZQ ([]:List Stp)]] | 1=>[OB.row g 3 1 ((((ge out q).args)).map Xa),OB.var b1 [.lit z4],OB.row z4 88 2 (out.map spC),OB.mI z3 ((ZaP (Ys d z ss).1 (Ys d z ss).1.length)),OB.var b2 [ZQ ([]:List Stp)]] | _=>[OB.row g 3 1 ((((ge out q).args)).map Xa),OB.var b1 [.lit z4],OB.row z4 88 2 ((out.map spC).set q ((spC (ge out q)).set 1 (.lit g))),OB.mI z3 ((ZaP (Ys d z ss).1 (Ys d z ss).1.length)),OB.var b2 [ZQ ([]:List Stp)]]) (fun k' g=>match k' with | 0=>g | _=>undef) [5,8] 1 (.slice none 0 0) (fun _=>rfl) h hJ Yk rfl rfl rfl rfl rfl rfl hsb ⟨?_,?_,?_,?_,?_,?_,?_,?_,?_,trivial⟩ ⟨?e8_1_0,?e8_1_1,trivial⟩ ⟨.old 2 11 _,.old 3 8 _,.old 4 6 _,.old 5 4 _,.old 6 1 _,.old 7 3 _,.old 8 36 _,.old 9 37 _,.old 10 38 _,trivial⟩ ?n8_1)
   exact oX rfl fun hx hl=>Zy Yz rfl (hl.env 4 6 _ rfl rfl) hx
   exact fun _ O' hO'=>⟨rfl,fun _ _ _ hx hl _=>Zs Zaq rfl (Zf hx (hO' _ (mo 0 rfl))) (hl.D 0 43 rfl rfl) rfl hx⟩
   exact oX rfl fun hx hl=>ZW rfl (hl.env 1 13 _ rfl rfl) hx
   exact oX rfl fun hx hl=>ZE Qa rfl (hl.env 0 14 _ rfl rfl) hx
   exact oX rfl fun hx hl=>Zz QG rfl (hl.D 3 46 rfl rfl) hx
   exact Zi rfl
   exact fun _ O' hO'=>⟨rfl,fun _ _ _ hx hl _=>Yc (i:=((q:Nat):Int)) Z3 rfl (Zf hx (hO' _ (mo 1 rfl))) (hl.D 1 44 rfl rfl) (hl.D 2 45 rfl rfl) nnn (by rw[List.length_map];exact Int.ofNat_lt.2 (by first | omega | (simp;omega) | grind[Zg])) hx⟩
   exact fun _ O' hO'=>⟨rfl,fun _ _ _ hx hl _=>Zcs Qa rfl (Zf hx (hO' _ (mo 1 rfl))) (by rw[List.length_map];exact Nat.lt_of_le_of_lt (Nat.zero_le q) (by first | omega | (simp;omega) | grind[Zg])) (hl.D 6 49 rfl rfl) hx⟩
   exact Zi rfl
   case e8_1_0=>exact⟨_,rfl,rfl,rfl,rfl,fun _ _ w hk hx hl _=>Zk (ZsW (O:=[]) (R:=[OB.var b1 [.lit z4],OB.row z4 88 2 (out.map spC),OB.mI z3 ((ZaP (Ys d z ss).1 (Ys d z ss).1.length)),OB.var b2 [ZQ ([]:List Stp)]]) (Zc7 hJ ((ge out q).args) (by first | omega | (simp;omega) | grind[Zg])) Zgp rfl hS hJ0 Zq hk hx (Za (hl.D 4 47 rfl rfl) Zd)) fun v w' ⟨i,hp,hv⟩=>⟨i,rfl,fun k' hk'=>absurd hk' (Nat.not_lt_zero _),fun _=>hv.lit,hp⟩⟩
   case e8_1_1=>exact⟨_,rfl,rfl,rfl,rfl,fun g _ w hk hx hl hs=>Zk (ZhT (i:=q) (j:=1) (c:=.lit g) hJ hJ0 Zak rfl hk (Yw (Yp (A:=[OB.row g 3 1 ((((ge out q).args)).map Xa),OB.var b1 [.lit z4]])) hx) (hl.D 7 50 rfl rfl) (by rw[(hs 0 5 _ 48 oz rfl rfl rfl)];exact Rel.of_lit _ (ZaX (hx.2.1 _ (mo 0 rfl)))) (Qq (xs:=out) (k:=q) (by first | omega | (simp;omega) | grind[Zg])) (lb rfl)) fun v w' hp=>⟨g,rfl,fun _ _=>rfl,fun e=>(by cases e),Xd (Yp (A:=[OB.row g 3 1 ((((ge out q).args)).map Xa),OB.var b1 [.lit z4]])).symm (Yp (A:=[OB.row g 3 1 ((((ge out q).args)).map Xa),OB.var b1 [.lit z4]])).symm hp⟩⟩
   clear a w h
   intro z6
   dsimp only[List.map]
   refine nx (tw pm2 (tw pm1 ?_))
   refine tw (fun h=>ZbR (rows':=(out.set q (⟨(ge out q).label,((ge out q).args)⟩:Stp)).map spC) (i:=q) (j:=1) hS (ZfN (xs:=out) (k:=q) (by first | omega | (simp;omega) | grind[Zg])) rfl (by rw[List.map_set,List.set_set];rfl) h) (YR tb hJ [0,1,2,3,4,5,6,7,1001] [.int (q+1:Nat),_] [0] [_,_,_,_,_,_,_,_,_] rfl ⟨YN,trivial⟩ ?_)
   refine kw pm3 (kw pm3 ?_)
   refine kw pm2 (kw pm3 ?_)
   exact Xf (q+1,out.set q (⟨(ge out q).label,((ge out q).args)⟩:Stp)) [0,1,2,3,4,5,6,7,8] ⟨oz,by rw[ZpG];exact f1_2⟩
  ·
   try simp at hb2
   refine tw (ob1 (congrArg (fun z'=>OB.row z4 88 2 ((z').map spC)) (show out=ss from f1_2))) (Zu (nx (tw pm1 ?_)))
   refine tw (fun h=>Y7 (j:=0) (cs':=[ZQ ss]) hS rfl rfl h) (qso tb hJ [0,1,2,3,4,5,1000] [_] [_,_,_,_,_,_,_] ?_)
   refine Zh (ZjM (nx (Zh (Ze (tw (Z7 37 6 hJ) (lpo (ι:=(List Stp)×(List Chg)×Value×Nat) (fun(cur,dn,_,_)=>(YA d z cur=0)∧(cur.length≤16)∧(dn.length≤most)∧(ZgL (YA d z) (fun s=>Zmr (jbG d z s)) most ss []=ZgL (YA d z) (fun s=>Zmr (jbG d z s)) (most-dn.length) cur dn)) (fun(cur,dn,wd,mj)=>[OB.row wd 37 6 (dn.map chC),OB.var b1 [ZQ cur],OB.mI mj (ZaP (Ys d z cur).1 (Ys d z cur).1.length),OB.var b2 [ZQ ([]:List Stp)]]) (fun(cur,_,wd,mj)=>[(15,.lit wd),(11,.ptr [Zb d.consts,Zb d.vars,Yq d.frames,.lit (.int .i64 (((z.toNat:Nat):Int))),ZQ cur,Zo ((Ys d z cur).1),.lit (.int .i64 ((((ZH cur):Nat):Int))),.lit (.map (some mj))])]) (fun(_,dn,_,_)=>most-dn.length) [1,2,3,4,5,6,0] [_,_,_,_,_] (ss,[],(.slice none 0 0),z3) ⟨hr,h16,nzl,rfl⟩ ?_))))))
   rintro⟨cur,dn,wd,mj⟩ ⟨f2_1,f2_2,f2_3,f2_4⟩
   refine Zh (ZqG tb hJ [0,1,2,3,4,5,6,1003] [_,.int (dn.length:Nat),_,_] [1] [_,_,_,_,_,_,_,_] rfl ⟨fun _ _ _ hx hl _=>Zam X3 rfl (XK hS hx (mo 0 rfl) (hl.D 0 52 rfl rfl)) hx,trivial⟩ ?_)
   refine cj 7 (fun hb3=>?_) fun hb3=>?_
   ·
    try simp at hb3
    have hW2:JobW (jbG d z cur):=Zn1 f2_1 f2_2 hf16 hw
    refine Zc (nx (Ze (qso tb hJ [0,1,2,3,4,5,6,1000] [_] [_,_,_,_,_,_,_,_] ?_)))
    refine Zh (ZK tb hJ [0,1,2,3,4,5,6,7,1004,1005,1006] [_,_,_,_,_,.int (cur.length:Nat),_] [5] [_,_,_,_,_,_,_,_,_,_,_] rfl ⟨Ym Z1,trivial⟩ ?_)
    refine ln 8 fun hl2=>?_
    refine Ze (tw (Z7 37 6 hJ) (lpo (ι:=Nat×Value×(List Chg)) (fun(q,_,ys)=>(q≤cur.length)∧(ys=Zvw (jbG d z cur) q)) (fun(_,wy,ys)=>[OB.row wy 37 6 (ys.map chC),OB.row wd 37 6 (dn.map chC),OB.var b1 [ZQ cur],OB.mI mj (ZaP (Ys d z cur).1 (Ys d z cur).1.length),OB.var b2 [ZQ ([]:List Stp)]]) (fun(q,wy,_)=>[(62,.int (q:Nat)),(16,.lit wy)]) (fun(q,_,_)=>cur.length-q) [0,1,2,3,4,5,6,9,10,7] [_,_,_,_,_,_,_,_] (0,(.slice none 0 0),([]:List Chg)) ⟨nzl,rfl⟩ ?_))
    rintro⟨q,wy,ys⟩ ⟨f3_1,f3_2⟩
    refine qso tb hJ [0,1,2,3,4,5,6,7,8,9,1000] [_] [_,_,_,_,_,_,_,_,_,_,_] ?_
    refine cjS 10 (fun hb4=>?_) fun hb4=>?_
    ·
     try simp at hb4
     have hal:=Zlg hW2 q (show q≤cur.length by omega)
     rw[←f3_2]at hal
     have hcl2:=ZoM hW2 (step:=q) (show q<cur.length by omega)
     have hcl3:(Zc1 (⟨d,z.toNat,cur,(Ys d z cur).1,ZaP (Ys d z cur).1 (Ys d z cur).1.length⟩:Jb) q).length≤2000000:=hcl2
     refine Zc (nx (Zh (Ze (qso tb hJ [0,1,2,3,4,5,6,7,8,9,1001] [_,_] [_,_,_,_,_,_,_,_,_,_,_] ?_))))
     refine ZS (snK 3 tb (env':=[(67,_),(66,_),(65,_),(8,_),(6,_),(4,_),(1,_),(3,_),(15,_),(11,_),(61,_),(62,_),(16,_),(17,_)]) rfl (sy (.rd (Zeq ((Zc1 (⟨d,z.toNat,cur,((Ys d z cur).1),(ZaP (Ys d z cur).1 (Ys d z cur).1.length)⟩:Jb) q)))) (fun h=>YX (Zfa hJ d z.toNat cur ((Ys d z cur).1) mj (ZaP (Ys d z cur).1 (Ys d z cur).1.length) q (by exact hW2) (by show q<cur.length;omega)) Zo0 rfl (Zm hS _ h.keep h.x) (h.x.1) (ZF (Zf h.x (mo 3 rfl)) Zq) (Za (h.get 1 rfl) (Za (h.get 0 rfl) Zd)) (jo hJ h.x)) ?_))
     refine Yx (f:=chC) (m:=3) (s:=65) ys ((Zc1 (⟨d,z.toNat,cur,((Ys d z cur).1),(ZaP (Ys d z cur).1 (Ys d z cur).1.length)⟩:Jb) q)) (fun _=>rfl) Zew hJ hJ0 rfl rfl rfl (lb rfl) rfl rfl (fun a w h=>(h.get 0 rfl)) (by first | omega | (simp;omega) | grind[Zg]) (by first | omega | (simp;omega) | grind[Zg]) fun v7=>?_
     refine snK 1 tb (env':=[(16,_),(69,_),(68,_),(67,_),(66,_),(65,_),(8,_),(6,_),(4,_),(1,_),(3,_),(15,_),(11,_),(61,_),(62,_),(17,_)]) rfl (seK [0,2,6,7,8,9,10,11,12,13,14] [_,_,_,_,_,_,_,_,_,_,_] rfl ?_)
     refine nx (ln 1 fun hl3=>?_)
     refine YR tb hJ [0,2,3,4,5,6,7,8,9,1001] [.int (q+1:Nat),_] [0] [_,_,_,_,_,_,_,_,_,_] rfl ⟨YN,trivial⟩ ?_
     exact Xf (q+1,v7,ys++((Zc1 (⟨d,z.toNat,cur,((Ys d z cur).1),(ZaP (Ys d z cur).1 (Ys d z cur).1.length)⟩:Jb) q))) [1,2,3,4,5,6,7,8,9,0] ⟨oz,by rw[Zih,←f3_2];rfl⟩
    ·
     try simp at hb4
     have eA:ys=Zmr (jbG d z cur):=by rw[f3_2,show q=cur.length by omega];rfl
     refine Zu (nx (tw (fun h=>Ya hS h (m:=9) (s:=16) rfl) (tsq ?_)))
     refine snK 1 tb (env':=[(72,_),(16,_),(8,_),(6,_),(4,_),(1,_),(3,_),(15,_),(11,_),(61,_),(62,_),(63,_)]) rfl (sy (.tup [.agg (chC (((Yg ys).1))),.bool ((Yg ys).2)]) (fun h=>Zbj (p_best hJ ys) Zu7 rfl (Zm hS _ h.keep h.x) (h.x.1) (Za (h.get 0 rfl) (Za (Qt 43) Zd)) (jo hJ h.x)) ?_)
     refine snK 3 tb (env':=[(75,_),(74,_),(71,_),(73,_),(72,_),(16,_),(8,_),(6,_),(4,_),(1,_),(3,_),(15,_),(11,_),(61,_),(62,_),(63,_)]) rfl (X1 (cs:=chC (((Yg ys).1))) ZjF rfl rfl rfl (lb rfl) rfl rfl rfl dz (m:=1) rfl rfl (fun a w h=>Zm hS _ h.keep h.x _ nlr) (fun a w h w' hk'=>Yn hJ _ _ hk' h.x) ?_)
     refine snK 1 tb (env':=[(19,_),(18,_),(75,_),(74,_),(71,_),(73,_),(72,_),(16,_),(8,_),(6,_),(4,_),(1,_),(3,_),(15,_),(11,_),(61,_),(62,_),(63,_)]) rfl (seK [0,1,6,7,8,9,10,11,12,13,14] [_,_,_,_,_,_,_,_,_,_,_] rfl ?_)
     refine nx (ln 2 fun hl4=>?_)
     refine Zh (qso tb hJ [1,4,5,6,7,8,9,10,1001] [_,_] [_,_,_,_,_,_,_,_,_] ?_)
     refine cj 8 (fun hb5=>?_) fun hb5=>?_
     ·
      try simp at hb5
      have eE:X9 d z ss most=(cur,dn,0):=by rw[X9,if_pos hr,f2_4];exact ZsH (by(try dsimp only);rw[←eA];exact hb5)
      refine Zu (nx (tsq (sy (.agg (pfC cur)) (fun h=>Yt (ds:=[ZQ cur]) Yu rfl (Zf h.x (mo 1 rfl)) (h.get 2 rfl) rfl rfl h.x) ?_)))
      refine snK 1 tb (env':=[(100,_),(99,_),(18,_),(8,_),(6,_),(4,_),(1,_),(3,_),(15,_),(11,_),(77,_)]) rfl (kw pm3 ?_)
      refine Zt (b:=b2) (off:=0) (es:=[_]) (news:=[_]) hJ hJ0 Y5 rfl rfl rfl (lb rfl) rfl (fun a w h=>⟨(h.get 3 rfl),(h.get 1 rfl)⟩) ?_
      refine snK 2 tb (env':=[(10,_),(9,_),(100,_),(99,_),(18,_),(8,_),(6,_),(4,_),(1,_),(3,_),(15,_),(11,_),(77,_)]) rfl (seK [0,1,5] [_,_,_] rfl ?_)
      refine nx (tw pm1 (tw (fun h=>Ya hS h (m:=1) (s:=9) rfl) ?_))
      exact Zv (fun a w h=>Zc9 (cs:=[ZQ cur]) (m:=2) (q:=1) (z:=0) rfl Yu h rfl rfl (show(_:List CD)=[ZQ (((X9 d z ss most).1))]from by(rw[eE])<;>rfl) rfl (congrArg (fun z=>AV.rd (Zeq z)) (show dn=((X9 d z ss most).2.1)from by rw[eE])) rfl (congrArg AV.int (show(0:Int)=(X9 d z ss most).2.2 from by rw[eE])))
     ·
      try simp at hb5
      have hbt:(Yg ((fun s=>Zmr (jbG d z s)) cur)).2=true:=by(try dsimp only);rw[←eA];exact hb5
      have hk:most-dn.length=(most-dn.length-1)+1:=by omega
      have hca:=Zr8 hW2 (c:=(Yg ys).1) (by rw[←eA];exact Zgy hb5)
      refine Zc (nx (Zh (tw pm1 (fun a w h=>YJ (γ:=Unit) (fun ix'=>([.ptr [Zb d.consts,Zb d.vars,Yq d.frames,.lit (.int .i64 (((z.toNat:Nat):Int))),ZQ cur,Zo ((Ys d z cur).1),.lit (.int .i64 ((((ZH cur):Nat):Int))),.lit (.map (some mj))],.ptr [Zb d.consts,Zb d.vars,Yq d.frames,.lit (.int .i64 (((z.toNat:Nat):Int))),ZQ cur,Zo ((Ys d z cur).1),.lit (.int .i64 ((((ZH cur):Nat):Int))),.lit (.map (some mj))],.ptr [ZQ cur,Zo ((Ys d z cur).1),.lit (.int .i64 ((((ZH cur):Nat):Int))),.lit (.map (some mj))],.agg (pfC cur),.agg (chC (((Yg ys).1))),.agg (pfC ((XY cur (((Yg ys).1))))),.any]:List AV).getD ix' .any) (fun _=>true) [(18,fun _=>.ptr (chC (((Yg ys).1)))),(8,fun _=>.at b2 0),(6,fun _=>.at b1 0),(4,fun _=>.ptr (dbC d)),(1,fun _=>.int z),(3,fun _=>.int (most:Nat)),(15,fun _=>.lit wd)] (fun j' _=>match j' with | 0=>[OB.var b1 [ZQ cur],OB.row wd 37 6 (dn.map chC),OB.mI mj (ZaP (Ys d z cur).1 (Ys d z cur).1.length),OB.var b2 [ZQ ([]:List Stp)]] | _=>[OB.var b1 [ZQ (((XY cur (((Yg ys).1)))))],OB.row wd 37 6 (dn.map chC),OB.mI mj (ZaP (Ys d z cur).1 (Ys d z cur).1.length),OB.var b2 [ZQ ([]:List Stp)]]) (fun _ _=>undef) [6] 0 () (fun _=>rfl) h hJ Yk rfl rfl rfl rfl rfl rfl hsb ⟨?_,?_,?_,?_,?_,?_,?_,trivial⟩ ⟨?e20_2_0,trivial⟩ ⟨.old 0 18 _,.old 1 8 _,.old 2 6 _,.old 3 4 _,.old 4 1 _,.old 5 3 _,.old 6 15 _,trivial⟩ ?n20_2))))
      exact oX rfl fun hx hl=>ZW rfl (hl.env 7 11 _ rfl rfl) hx
      exact oX rfl fun hx hl=>Yy rfl (hl.D 0 78 rfl rfl) hx
      exact oX rfl fun hx hl=>ZE Zfl rfl (hl.D 1 79 rfl rfl) hx
      exact oX rfl fun hx hl=>X7 (k:=1) Yu rfl (hl.D 2 80 rfl rfl) (lb rfl) hx
      exact oX rfl fun hx hl=>X7 Qd rfl (hl.env 0 18 _ rfl rfl) nlr hx
      exact oY rfl fun hk hx hl=>Zbj (Zhd hJ cur (((Yg ys).1)) (by exact(Zn2 f2_1).2) (by exact hca.1) (by exact hca.2.1) (by exact hca.2.2.1) (by exact hca.2.2.2.1) (by exact hca.2.2.2.2)) Zo3 rfl (Zm hS _ hk hx) (hx.1) (Za (hl.D 3 81 rfl rfl) (Za (hl.D 4 82 rfl rfl) Zd)) (jo hJ hx)
      exact Zi rfl
      case e20_2_0=>exact⟨_,rfl,rfl,rfl,rfl,fun g _ w hk hx hl _=>(by obtain⟨us2,hv2,hr3⟩:=X6 (hl.D 5 83 rfl rfl);exact Zk (Y3 (off:=0) (news:=[_]) (es:=[_]) (us:=us2) hJ hJ0 Y5 rfl hk hx (hl.env 2 6 _ rfl rfl) (by rw[hv2];rfl) hr3 (lb rfl) rfl) fun v w' hp=>⟨g,rfl,fun _ _=>rfl,fun e=>(by cases e),hp⟩)⟩
      clear a w h
      intro _
      dsimp only[List.map]
      refine nx (tsq (snK 2 tb (env':=[(85,_),(84,_),(18,_),(8,_),(6,_),(4,_),(1,_),(3,_),(15,_)]) rfl (sy (.rd (Zeq ([((Yg ys).1)]))) (fun h=>Zg7 YY Zmt rfl rfl (h.get 0 rfl) (Zm hS _ h.keep h.x _ nlr) (jo hJ h.x)) ?_)))
      refine kw pm1 (Yx (f:=chC) (m:=2) (s:=84) dn ([((Yg ys).1)]) (fun _=>rfl) Zew hJ hJ0 rfl rfl rfl (lb rfl) rfl rfl (fun a w h=>(h.get 0 rfl)) (by first | omega | (simp;omega) | grind[Zg]) (by first | omega | (simp;omega) | grind[Zg]) fun v8=>?_)
      refine snK 1 tb (env':=[(15,_),(87,_),(86,_),(85,_),(84,_),(18,_),(8,_),(6,_),(4,_),(1,_),(3,_)]) rfl (seK [0,2,6,7,8,9,10] [_,_,_,_,_,_,_] rfl ?_)
      refine nx (ln 1 fun hl5=>?_)
      refine Zh ?_
      by_cases hr2:YA d z (XY cur (Yg ys).1)=0
      ·
       refine ZS (snK 2 tb (env':=[(90,_),(89,_),(15,_),(86,_),(8,_),(6,_),(4,_),(1,_),(3,_)]) rfl (sy (.agg (pfC ((XY cur (((Yg ys).1)))))) (fun h=>Yt (ds:=[ZQ (((XY cur (((Yg ys).1)))))]) Yu rfl (Zf h.x (mo 1 rfl)) (h.get 5 rfl) rfl rfl h.x) ?_))
       refine QT (O:=[]) (R:=[OB.row v8 37 6 ((dn++([((Yg ys).1)])).map chC),OB.var b1 [ZQ (((XY cur (((Yg ys).1)))))],OB.mI mj (ZaP (Ys d z cur).1 (Ys d z cur).1.length),OB.var b2 [ZQ ([]:List Stp)]]) (ZiN hJ d z ((XY cur (((Yg ys).1)))) (by exact hw) (by exact hG) (by first | exact hr2 | exact hr)) Zeu rfl rfl rfl (lb rfl) hS hJ0 Zq (fun a w h=>(Za (h.get 2 rfl) (Za (h.get 1 rfl) (Za (h.get 0 rfl) Zd)))) fun z9=>?_
       refine snK 5 tb (env':=[(12,_),(11,_),(94,_),(93,_),(88,_),(92,_),(91,_),(90,_),(89,_),(15,_),(86,_),(8,_),(6,_),(4,_),(1,_),(3,_)]) rfl (seK [0,1,9,11,12,13,14,15] [_,_,_,_,_,_,_,_] rfl ?_)
       refine nx (qso tb hJ [0,1,2,3,4,5,6,7,1001] [_,_] [_,_,_,_,_,_,_,_,_] ?_)
       refine cj 8 (fun hb6=>?_) fun hb6=>?_
       ·
        exact False.elim (by simp at hb6)
       ·
        refine Zc (kw pm3 (kw ZJ ?_))
        refine kw pm3 (kw pm1 ?_)
        refine kw pm3 (kw pm3 ?_)
        exact Xf (((XY cur (((Yg ys).1)))),dn++([((Yg ys).1)]),v8,z9) [3,4,5,6,7,2,1] ⟨by exact hr2,by(try dsimp only);have h8:=Zjk (d:=d) (z:=z) cur (Yg ys).1 (by rw[←eA];exact Zgy hb5);have h9:=Zc5 cur;omega,by simp;omega,by rw[f2_4,hk,ml_ok hbt (show YA d z (XY cur (Yg ((fun s=>Zmr (jbG d z s)) cur)).1)=0 by(try dsimp only);rw[←eA];exact hr2)];(try dsimp only);rw[←eA,List.length_append,List.length_singleton,Nat.sub_add_eq]⟩
      ·
       have eE:X9 d z ss most=([],[],YA d z (XY cur (Yg ys).1)):=by rw[X9,if_pos hr,f2_4,hk,eA];exact ZsI hbt (by(try dsimp only);rw[←eA];exact hr2)
       refine YR tb hJ [0,2,3,4,5,6,1007,1008] [_,_,.agg (pfC ((XY cur (((Yg ys).1))))),.tup [.rd (.lit (Go.Value.pointer none)),.int (YA d z ((XY cur (((Yg ys).1)))))],_,_,_,_,_] [2,3] [_,_,_,_,_,_,_,_] rfl ⟨fun _ _ _ hx hl _=>Yt (ds:=[ZQ (((XY cur (((Yg ys).1)))))]) Yu rfl (Zf hx (mo 1 rfl)) (hl.env 3 6 _ rfl rfl) rfl rfl hx,iFo hS hJ (Zkj hJ d z ((XY cur (((Yg ys).1)))) (by exact hw) (by exact hG) (by exact hr2)) Zeu,trivial⟩ ?_
       refine nx (qso tb hJ [0,1,2,3,4,5,6,7,1001] [_,_] [_,_,_,_,_,_,_,_,_] ?_)
       refine cj 8 (fun hb6=>?_) fun hb6=>?_
       ·
        refine tsq (sy (.agg (pfC ([]:List Stp))) (fun h=>XJ (ps:=[]) (us:=[.slice none 0 0]) Zh3 rfl yz Zms rfl (Qp (.nil _ _ nzl) Z4) h.x) ?_)
        refine snK 1 tb (env':=[(98,_),(97,_),(15,_),(8,_),(6,_),(4,_),(1,_),(3,_),(11,_),(12,_),(96,_)]) rfl (kw pm3 ?_)
        refine Zt (b:=b2) (off:=0) (es:=[_]) (news:=[_]) hJ hJ0 Y5 rfl rfl rfl (lb rfl) rfl (fun a w h=>⟨(h.get 3 rfl),(h.get 1 rfl)⟩) ?_
        refine snK 2 tb (env':=[(10,_),(9,_),(98,_),(97,_),(15,_),(8,_),(6,_),(4,_),(1,_),(3,_),(11,_),(12,_),(96,_)]) rfl (seK [0,1,5] [_,_,_] rfl ?_)
        exact nx (tw (fun h=>Xk h (m:=1) (s:=9) rfl) (Zv (fun a w h=>Zc9 (cs:=[ZQ ([]:List Stp)]) (m:=2) (q:=1) (z:=0) rfl Yu h rfl rfl (show(_:List CD)=[ZQ (((X9 d z ss most).1))]from by(rw[eE])<;>rfl) rfl (congrArg (fun z=>AV.rd (Zeq z)) (show([]:List Chg)=((X9 d z ss most).2.1)from by rw[eE])) rfl (congrArg AV.int (show YA d z ((XY cur (((Yg ys).1))))=(X9 d z ss most).2.2 from by rw[eE])))))
       ·
        exact False.elim (hr2 (by simpa using hb6))
   ·
    try simp at hb3
    have eE:X9 d z ss most=(cur,dn,0):=by rw[X9,if_pos hr,f2_4,show most-dn.length=0 by omega];rfl
    refine Zu (nx (tsq (sy (.agg (pfC cur)) (fun h=>Yt (ds:=[ZQ cur]) Yu rfl (Zf h.x (mo 1 rfl)) (h.get 1 rfl) rfl rfl h.x) ?_)))
    refine snK 1 tb (env':=[(100,_),(99,_),(8,_),(6,_),(4,_),(1,_),(3,_),(15,_),(11,_),(55,_)]) rfl (kw pm3 ?_)
    refine Zt (b:=b2) (off:=0) (es:=[_]) (news:=[_]) hJ hJ0 Y5 rfl rfl rfl (lb rfl) rfl (fun a w h=>⟨(h.get 2 rfl),(h.get 1 rfl)⟩) ?_
    refine snK 2 tb (env':=[(10,_),(9,_),(100,_),(99,_),(8,_),(6,_),(4,_),(1,_),(3,_),(15,_),(11,_),(55,_)]) rfl (seK [0,1,4] [_,_,_] rfl ?_)
    refine nx (tw pm1 (tw (fun h=>Ya hS h (m:=1) (s:=9) rfl) ?_))
    exact Zv (fun a w h=>Zc9 (cs:=[ZQ cur]) (m:=2) (q:=1) (z:=0) rfl Yu h rfl rfl (show(_:List CD)=[ZQ (((X9 d z ss most).1))]from by(rw[eE])<;>rfl) rfl (congrArg (fun z=>AV.rd (Zeq z)) (show dn=((X9 d z ss most).2.1)from by rw[eE])) rfl (congrArg AV.int (show(0:Int)=(X9 d z ss most).2.2 from by rw[eE])))
end Go.Proofs.YtdfadihhfppjaaaGreatDoor
namespace Go.Proofs.YtdfadihhfppjaaaGreatDoor
theorem Zku {R:List Stp→Int} {A:List Stp→List Chg} (hA:∀ ss c,c∈A ss→(XY ss c).length<ZH ss):∀(k:Nat) (ss:List Stp) (l:List Chg),(ZgL R A k ss l).1.length≤ss.length
 | 0,ss,l=>Nat.le_refl _
 | k+1,ss,l=>by
  cases hb:(Yg (A ss)).2 with
  | false=>rw[ZsH hb];exact Nat.le_refl _
  | true=>
   have h1:=hA ss _ (Zgy hb)
   have h2:=Zc5 ss
   by_cases h0:R (XY ss (Yg (A ss)).1)=0
   · rw[ml_ok hb h0]
     have:=Zku (R:=R) hA k (XY ss (Yg (A ss)).1) (l++[(Yg (A ss)).1])
     omega
   · rw[ZsI hb h0];exact Nat.zero_le _
theorem Zqm {d:Db} {z:Int} {ss:List Stp} {k:Nat}:(X9 d z ss k).1.length≤ss.length:=by
 unfold X9
 split
 · exact Zku (fun s c h=>Zjk s c h) k ss []
 · exact Nat.zero_le _
def ZqU (f:Fr):Bool:=decide ((12:Int)< ((f.hyps.length:Nat):Int))||decide ((40:Int)< ((f.text.length:Nat):Int))||decide ((60:Int)< ((f.proof.length:Nat):Int))
def fewN (d:Db) (ss:List Stp):Bool:=decide (((ss.length:Nat):Int)≤16)&&decide (((d.frames.length:Nat):Int)≤16)&& !d.frames.any ZqU
theorem ZqT {d:Db} {ss:List Stp} (h:fewN d ss=true):ss.length≤16∧d.frames.length≤16:=by
 simp only[fewN,Bool.and_eq_true,decide_eq_true_eq]at h
 omega
end Go.Proofs.YtdfadihhfppjaaaGreatDoor
set_option maxHeartbeats 8000000
set_option maxRecDepth 100000
namespace Go.Proofs.YtdfadihhfppjaaaGreatDoor
open Go.Proofs.Tryz (prog)
open Go.RowKit
theorem Zva:Zj prog 29:=Zn Tryz.func29 rfl rfl
theorem Zvb:Zj prog 28:=Zn Tryz.func28 rfl rfl
theorem Zo2:Zj prog 39:=Zn Tryz.func39 rfl rfl
theorem w_few1 {J:WP} (hJ:Stab J) (f:Fr)  :Fn prog J 29 [.agg (frC f)] (.bool (ZqU f)):=by
 refine fE Tryz.func29 fun S w0 hS hJ0=>?_
 clear hJ0
 refine hqs tb hJ [1000] [.ptr (frC f),_] [0] [_] rfl ⟨iBs hS hJ,trivial⟩ ?_
 refine hqs tb hJ [1001,1016] [_,_,.int (f.hyps.length:Nat),_,_,_,_,.int (f.text.length:Nat),_,_,_,_,_,.int (f.proof.length:Nat),_,_,_] [2,7,13] [_,_] rfl ⟨Ym ZB,Ym Zx,Ym Zx,trivial⟩ ?_
 refine ln 0 fun hl1=>?_
 exact tRn 1 (hE:=eB (rfl))
theorem w_few {J:WP} (hJ:Stab J) (d:Db) (ss:List Stp)  :Fn prog J 8 [.agg (dbC d),.agg (pfC ss)] (.bool (fewN d ss)):=by
 refine fE Tryz.func8 fun S w0 hS hJ0=>?_
 clear hJ0
 refine hqs tb hJ [1000,1001] [.ptr (dbC d),.ptr (pfC ss),_] [0,1] [_,_] rfl ⟨iBs hS hJ,iBs hS hJ,trivial⟩ ?_
 refine hqs tb hJ [1001,1016] [_,_,.int (ss.length:Nat),_,_,_,_,.int (d.frames.length:Nat),_,_,_,_,_,.bool (d.frames.any ZqU),_,_,_] [2,7,13] [_,_] rfl ⟨Ym Z1,Ym QA,fun _ _ hk hx hl hc=>YX (ZdR hJ d.frames 29 [] [] ZqU (fun q'=>(w_few1 hJ q').rr) (Zva)) Zvb rfl (nm hS hk) (hx) Zq (Za (hl.D 12 17 rfl hc) (Za (Qt 29) Zd)) (js hJ hx),trivial⟩ ?_
 refine ln 0 fun hl1=>?_
 exact tRn 1 (hE:=eB (rfl))
theorem Zse {J:WP} (hJ:Stab J) (l:List Int)  :Fn prog J 39 [.rd (ZX l),.rd (ZX l)] (.bool false):=by
 refine fE Tryz.func39 fun S w0 hS hJ0=>?_
 clear hJ0
 refine ln 0 fun hl1=>?_
 refine qs tb hJ [0,1] [_] [_,_] ?_
 refine Zh (qs tb hJ [0,1,1000] [_] [_,_,_] ?_)
 refine Ze (lp (ι:=Nat) (fun k=>(k≤l.length)) (fun k=>[(5,.int (k:Nat))]) (fun k=>l.length-k) [0,1,2] [_,_] 0 (show(0≤l.length)from Nat.zero_le _) ?_)
 rintro k hF
 have f1_1:k≤l.length:=hF
 refine Zh (hqs tb hJ [0,1,2,1009] [_,_,.int (l.length:Nat),_,_,_,_,.int (l.length:Nat),_,_] [2,7] [_,_,_,_] rfl ⟨Ym YE,Ym YE,trivial⟩ ?_)
 refine cj 3 (fun hb1=>?_) fun hb1=>?_
 ·
  try simp at hb1
  refine Zc (nx (Zh (Ze (hqs tb hJ [0,1,2,1008] [_,_,.ptr [.lit (.int .i64 (ge l k))],_,_,_,.ptr [.lit (.int .i64 (ge l k))],_,_] [2,6] [_,_,_,_] rfl ⟨iIx ZC,iIx ZC,trivial⟩ ?_))))
  refine cj 3 (fun hb2=>?_) fun hb2=>?_
  ·
   exact False.elim (by simp at hb2)
  ·
   refine Zc (nx (hqp tb hJ [0,1,1002] [_,.int (k+1:Nat),_] [1] [_,_,_] rfl ⟨YN,trivial⟩ ?_))
   exact lpE (k+1) [0,1,2] (show((k+1)≤l.length)from by omega)
 ·
  try simp at hb1
  refine Zu (nx (hqs tb hJ [1005] [_,.int (l.length:Nat),_,.int (l.length:Nat),_,_] [1,3] [_] rfl ⟨Ym YE,Ym YE,trivial⟩ ?_))
  exact tRn 0 (hE:=eB yz)
theorem Ziu {J:WP} (hJ:Stab J) (ss:List Stp)  :Fn prog J 13 [.agg (pfC ss),.agg (pfC ss)] (.bool true):=by
 refine fE Tryz.func13 fun S w0 hS hJ0=>?_
 refine tw Ye (ZK tb hJ [1000,1001] [.ptr (pfC ss),.ptr (pfC ss),_] [0,1] [_,_] rfl ⟨iBo hS hJ,iBo hS hJ,trivial⟩ ?_)
 refine Zh (ZK tb hJ [0,1,1001,1004,1006] [_,_,.int (ss.length:Nat),_,_,.int (ss.length:Nat),_] [2,5] [_,_,_,_,_] rfl ⟨Ym Z1,Ym Z1,trivial⟩ ?_)
 refine ln 2 fun hl1=>?_
 refine cj 4 (fun hb1=>?_) fun hb1=>?_
 ·
  exact False.elim (by simp at hb1)
 ·
  refine Zc (nx (Zh (qso tb hJ [0,1,1000] [_] [_,_,_] ?_)))
  refine Ze (lpo (ι:=Nat) (fun k=>(k≤ss.length)) (fun _=>[]) (fun k=>[(5,.int (k:Nat))]) (fun k=>ss.length-k) [0,1,2] [_,_] 0 (show(0≤ss.length)from Nat.zero_le _) ?_)
  rintro k hF
  have f1_1:k≤ss.length:=hF
  refine Zh (ZK tb hJ [0,1,2,1004] [_,_,_,.int (ss.length:Nat),_] [3] [_,_,_,_] rfl ⟨Ym Z1,trivial⟩ ?_)
  refine cj 3 (fun hb2=>?_) fun hb2=>?_
  ·
   try simp at hb2
   refine Zc (nx (Zh (Ze (Zh (fun a w h=>Qu [] (γ:=Nat×Nat) (fun ix'=>([.ptr (pfC ss),.rd (ZQ ss),.int (k:Nat),.ptr (spC (ge ss k)),.agg (spC (ge ss k)),.ptr (pfC ss),.rd (ZQ ss),.int (k:Nat),.ptr (spC (ge ss k)),.agg (spC (ge ss k)),.any,.any,.any,.any]:List AV).getD ix' .any) (fun _=>true) [(2,fun _=>.ptr (pfC ss)),(3,fun _=>.ptr (pfC ss)),(5,fun _=>.int (k:Nat)),(6,fun g=>.at g.1 0),(7,fun g=>.at g.2 0)] (fun(b:List Bool) (g:Nat×Nat)=>(bif b.getD 3 false then [OB.var g.2 (spC (ge ss k))]else(bif b.getD 1 false then [OB.var g.2 [.lit (.string (⟨#[]⟩:BA)),ZX ([]:List Int)]]else []))++((bif b.getD 2 false then [OB.var g.1 (spC (ge ss k))]else(bif b.getD 0 false then [OB.var g.1 [.lit (.string (⟨#[]⟩:BA)),ZX ([]:List Int)]]else []))++([]))) (fun k' g=>match k' with | 0=>(.pointer (some ⟨g.1,0,none⟩)) | 1=>(.pointer (some ⟨g.2,0,none⟩)) | _=>undef) [10,11,12,13] (0,0) (fun _=>rfl) h hJ Yk rfl rfl rfl rfl (fun b g p hp=>(List.mem_append_right _ (List.mem_append_right _ hp))) ⟨?_,?_,?_,?_,?_,?_,?_,?_,?_,?_,?_,?_,?_,?_,trivial⟩ ⟨?e6_1_0,?e6_1_1,?e6_1_2,?e6_1_3,trivial⟩ ⟨.old 0 2 _,.old 1 3 _,.old 2 5 _,.eff 0 10 6 (fun(g:Nat×Nat)=>(.pointer (some ⟨g.1,0,none⟩))) rfl rfl (fun _=>rfl) (fun _=>True.intro),.eff 1 11 7 (fun(g:Nat×Nat)=>(.pointer (some ⟨g.2,0,none⟩))) rfl rfl (fun _=>rfl) (fun _=>True.intro),trivial⟩ ?n6_1)))))
   exact oX rfl fun hx hl=>ZE Yz rfl (hl.env 0 2 _ rfl rfl) hx
   exact oX rfl fun hx hl=>Zz Zaq rfl (hl.D 0 22 rfl rfl) hx
   exact oX rfl fun hx hl=>ZW rfl (hl.env 2 5 _ rfl rfl) hx
   exact oX rfl fun hx hl=>ZU (i:=((k:Nat):Int)) Z3 rfl (hl.D 1 23 rfl rfl) (hl.D 2 24 rfl rfl) nnn (Z0 (xs:=ss) (k:=k) (by first | omega | (simp;omega) | grind[Zg])) rfl hx
   exact oX rfl fun hx hl=>X7 Zck rfl (hl.D 3 25 rfl rfl) nlr hx
   exact oX rfl fun hx hl=>ZE Yz rfl (hl.env 1 3 _ rfl rfl) hx
   exact oX rfl fun hx hl=>Zz Zaq rfl (hl.D 5 27 rfl rfl) hx
   exact oX rfl fun hx hl=>ZW rfl (hl.env 2 5 _ rfl rfl) hx
   exact oX rfl fun hx hl=>ZU (i:=((k:Nat):Int)) Z3 rfl (hl.D 6 28 rfl rfl) (hl.D 7 29 rfl rfl) nnn (Z0 (xs:=ss) (k:=k) (by first | omega | (simp;omega) | grind[Zg])) rfl hx
   exact oX rfl fun hx hl=>X7 Zck rfl (hl.D 8 30 rfl rfl) nlr hx
   exact Zi rfl
   exact Zi rfl
   exact Zi rfl
   exact Zi rfl
   case e6_1_0=>exact ZeL [[false,false,false,false],[false,true,false,false]] (by kernel_rfl) rfl rfl rfl rfl ⟨fun g _ w hk hx _ _=>Zk (Xs Xv hJ rfl hk hx) fun v w' ⟨b',hv,hp⟩=>⟨(b',g.2),(fun k' hk'=>by rcases k' with _ | _ | _ | _ | k'<;>first | rfl | cases hk'),fun _=>hv,True.intro,hp⟩,fun g _ w hk hx _ _=>Zk (Xs Xv hJ rfl hk hx) fun v w' ⟨b',hv,hp⟩=>⟨(b',g.2),(fun k' hk'=>by rcases k' with _ | _ | _ | _ | k'<;>first | rfl | cases hk'),fun _=>hv,True.intro,Xd (.refl _) (Yp (A:=[OB.var g.2 [.lit (.string (⟨#[]⟩:BA)),ZX ([]:List Int)]])).symm hp⟩,trivial⟩
   case e6_1_1=>exact ZeL [[false,false,false,false],[true,false,false,false]] (by kernel_rfl) rfl rfl rfl rfl ⟨fun g _ w hk hx _ _=>Zk (Xs Xv hJ rfl hk hx) fun v w' ⟨b',hv,hp⟩=>⟨(g.1,b'),(fun k' hk'=>by rcases k' with _ | _ | _ | _ | k'<;>first | rfl | cases hk'),fun _=>hv,True.intro,hp⟩,fun g _ w hk hx _ _=>Zk (Xs Xv hJ rfl hk hx) fun v w' ⟨b',hv,hp⟩=>⟨(g.1,b'),(fun k' hk'=>by rcases k' with _ | _ | _ | _ | k'<;>first | rfl | cases hk'),fun _=>hv,True.intro,hp⟩,trivial⟩
   case e6_1_2=>exact ZeL [[true,true,false,false]] (by kernel_rfl) rfl rfl rfl rfl ⟨fun g _ w hk hx hl hs=>(by obtain⟨us2,hv2,hr3⟩:=X6 ((hl.D 4 26 rfl rfl).sub fun _ _ hs=>hs.perm (Yp (A:=[OB.var g.2 [.lit (.string (⟨#[]⟩:BA)),ZX ([]:List Int)]])));exact Zk (Y3 (S':=S) (off:=0) (news:=[_,_]) (es:=[_,_]) (us:=us2) hJ hJ0 Qe rfl hk (Yw (Yp (A:=[OB.var g.2 [.lit (.string (⟨#[]⟩:BA)),ZX ([]:List Int)]])) hx) (ZaY (hs 0 10 _ 6 rfl rfl rfl rfl)) (by rw[hv2];rfl) hr3 (lb rfl) rfl) fun v w' hp=>⟨g,fun _ _=>rfl,fun e=>(by cases e),True.intro,Xd (Yp (A:=[OB.var g.2 [.lit (.string (⟨#[]⟩:BA)),ZX ([]:List Int)]])).symm (Yp (A:=[OB.var g.2 [.lit (.string (⟨#[]⟩:BA)),ZX ([]:List Int)]])).symm hp⟩),trivial⟩
   case e6_1_3=>exact ZeL [[true,true,true,false]] (by kernel_rfl) rfl rfl rfl rfl ⟨fun g _ w hk hx hl hs=>(by obtain⟨us2,hv2,hr3⟩:=X6 (hl.D 9 31 rfl rfl);exact Zk (Y3 (S':=S) (off:=0) (news:=[_,_]) (es:=[_,_]) (us:=us2) hJ hJ0 Qe rfl hk hx (ZaY (hs 1 11 _ 7 rfl rfl rfl rfl)) (by rw[hv2];rfl) hr3 (lb rfl) rfl) fun v w' hp=>⟨g,fun _ _=>rfl,fun e=>(by cases e),True.intro,hp⟩),trivial⟩
   clear a w h
   rintro⟨b1,b2⟩
   dsimp only[List.map]
   refine kw pm1 (kw (fun h=>ZM hS h (m:=3) (s:=6) rfl) ?_)
   refine kw (fun h=>ZM hS h (m:=4) (s:=7) rfl) (nx (ZK tb hJ [2,3,4,1018] [_,_,_,_,_,_,_,_,_,_,.bool false,_,_,_,_,_,_,.bool false,_] [10,17] [_,_,_,_] rfl ⟨iFo hS hJ (Zse hJ ((ge ss k).args)) Zo2,iFo hS hJ (Zse hJ ((ge ss k).args)) Zo2,trivial⟩ ?_))
   refine cj 3 (fun hb3=>?_) fun hb3=>?_
   ·
    exact False.elim (by simp at hb3)
   ·
    refine Zc (nx (YR tb hJ [0,1,1002] [_,.int (k+1:Nat),_] [1] [_,_,_] rfl ⟨YN,trivial⟩ ?_))
    exact Xf (k+1) [0,1,2] (show((k+1)≤ss.length)from by omega)
  ·
   try simp at hb2
   refine Zu (nx (qso tb hJ [1000] [_] [_] ?_))
   exact tRo 0 (hE:=rfl)
theorem ZdM {J:WP} (hJ:Stab J) (d:Db) (z:Int) (ss:List Stp) (most:Nat) (hw:∀ f∈d.frames,f.wide.length*32≤140737488351232) (hG:XI J) (h16:ss.length≤16) (hf16:d.frames.length≤16) (hm:most≤100):Fn prog J 14 [.agg (dbC d),.int z,.agg (pfC ss),.int (most:Nat)] (.tup [.agg (pfC (X9 d z ss most).1),.rd (Zeq (X9 d z ss most).2.1),.int (X9 d z ss most).2.2]):=by
 by_cases hr:YA d z ss=0
 · exact ZiQ hJ d z ss most hw hG hr h16 hf16 hm
 · have e:X9 d z ss most=([],[],YA d z ss):=if_neg hr
   rw[e]
   exact ZiR hJ d z ss most hw hG hr
theorem ZiS {J:WP} (hJ:Stab J) (d:Db) (z:Int) (ss:List Stp) (most:Nat) (hw:∀ f∈d.frames,f.wide.length*32≤140737488351232) (hG:XI J) (h16:ss.length≤16) (hf16:d.frames.length≤16) (hm:most≤100) (hB:X9 d z ss most=(ss,[],0)):Fn prog J 14 [.agg (dbC d),.int z,.agg (pfC ss),.int (most:Nat)] (.tup [.agg (pfC ss),.rd (Zeq []),.int 0]):=by
 have:=ZdM hJ d z ss most hw hG h16 hf16 hm
 rw[hB]at this
 exact this
theorem Qo:Zc2 prog 72 [.lit (.string ⟨#[]⟩),.lit (.bool false),.sl [],.sl [],.sl [],.sl [],.sl [],.sl []]:=⟨(.agg #[.string ⟨#[]⟩,.bool false,.slice none 0 0,.slice none 0 0,.slice none 0 0,.slice none 0 0,.slice none 0 0,.slice none 0 0]),fun w=>by kernel_rfl,fun S w=>(show RdL S w [.lit (.string ⟨#[]⟩),.lit (.bool false),.sl [],.sl [],.sl [],.sl [],.sl [],.sl []] [.string ⟨#[]⟩,.bool false,.slice none 0 0,.slice none 0 0,.slice none 0 0,.slice none 0 0,.slice none 0 0,.slice none 0 0]from⟨.lit _ nzl,.lit _ True.intro,.nil _ _ nzl,.nil _ _ nzl,.nil _ _ nzl,.nil _ _ nzl,.nil _ _ nzl,.nil _ _ nzl,trivial⟩)⟩
theorem Zdl:ZeP prog 9 1:=⟨(.string ⟨#[]⟩),fun w=>by kernel_rfl,rfl,by simp[Value.cells,Value.oneCell']⟩
theorem Zo7:ZcW prog 72 [.string ⟨#[]⟩,.bool false,.slice none 0 0,.slice none 0 0,.slice none 0 0,.slice none 0 0,.slice none 0 0,.slice none 0 0]:=⟨fun i=>(#[(0,1),(1,1),(2,1),(3,1),(4,1),(5,1),(6,1),(7,1)]:Array (Nat×Nat))[i]?,fun j hj=>by rcases j with _ | _ | _ | _ | _ | _ | _ | _ | j<;>first | rfl | (simp at hj;omega) | simp at hj,fun parts=>by kernel_rfl⟩
theorem ZdD:Y9 prog 72 8:=fun w=>by kernel_rfl
theorem Zpr:Zcl prog 119:=⟨.agg #[.string ⟨#[]⟩,.bool false,.slice none 0 0],fun w=>by kernel_rfl⟩
theorem Zet:Zj prog 60:=Zn Tryz.func60 rfl rfl
theorem ZbD:Zc2 prog 25 [.sl [],.sl [],.sl []]:=⟨(.agg #[.slice none 0 0,.slice none 0 0,.slice none 0 0]),fun w=>by kernel_rfl,fun S w=>(show RdL S w [.sl [],.sl [],.sl []] [.slice none 0 0,.slice none 0 0,.slice none 0 0]from⟨.nil _ _ nzl,.nil _ _ nzl,.nil _ _ nzl,trivial⟩)⟩
theorem Zmj:Zpj prog 25:=fun ad ad' k c k' c'=>by kernel_rfl
theorem ZdE:Y9 prog 25 3:=fun w=>by kernel_rfl
def XX (l to:BA) (fr:List BA):Fr:=⟨l,false,fr.map fun s=>⟨l++s,false,[⟨#[124,45]⟩,s]⟩,[],[⟨#[124,45]⟩,to],[],[],[]⟩
theorem Zae {J:WP} (hJ:Stab J) (l to:BA) (fr:List BA) (hf:fr.length≤10) (hl:l.size≤10) (hs:∀ s∈fr,s.size≤10):Fn prog J 60 [.str l,.str to,.rd (Zb fr)] (.agg (frC (XX l to fr))):=by
 refine fE Tryz.func60 fun S w0 hS hJ0=>?_
 refine tw Ye (ln 2 fun hl1=>?_)
 refine tsq (ZA Qo hJ rfl rfl rfl (lb rfl) fun b1=>?_)
 refine seK [0,1,2,3] [_,_,_,_] rfl (nx (tw (Z7 119 3 hJ) ?_))
 refine tsq (snK 2 tb rfl (sq (.rd (Zb (([(⟨#[124,45]⟩:BA),to]:List BA)))) rfl rfl (lb rfl) (fun a _ h=>QZ (k:=2) (us:=[a.eval (Go.Operand.const (Go.Value.string { data:= #[124,45] })),a.eval (Go.Operand.tmp 11)]) Zl Zdl rfl yz (Zp (Rel.of_lit (Go.Value.string { data:= #[124,45] }) (lb rfl)) (Zp (h.get 0 rfl) Z4)) rfl dz dz (Zm hS _ h.keep h.x _ nlr) (jo hJ h.x)) ?_))
 refine sq (.agg [.lit (.string l),.lit (.bool false),.lit (.slice none 0 0),XS ([]:List Pr),Zb (([(⟨#[124,45]⟩:BA),to]:List BA)),XC ([]:List Hy),XS ([]:List Pr),Zb ([]:List BA)]) rfl rfl (lb rfl) (fun a _ h=>XJ (ps:=[(0,a.eval (Go.Operand.tmp 10)),(4,a.eval (Go.Operand.tmp 12))]) (us:=[a.eval (Go.Operand.tmp 10),.bool false,.slice none 0 0,.slice none 0 0,a.eval (Go.Operand.tmp 12),.slice none 0 0,.slice none 0 0,.slice none 0 0]) Zo7 rfl yz (Zml (lb rfl) (Rel.oneC (h.get 2 rfl)) (Zml (lb rfl) (Rel.oneC (h.get 0 rfl)) Zms)) rfl (Zp (h.get 2 rfl) (Qp (.lit _ True.intro) (Qp (.lit _ True.intro) (Qp (.nil _ _ nzl) (Zp (h.get 0 rfl) (Qp (.nil _ _ nzl) (Qp (.nil _ _ nzl) (Qp (.nil _ _ nzl) Z4)))))))) h.x) ?_
 refine ZA Qo hJ rfl rfl rfl (lb rfl) fun b2=>?_
 refine Zt (b:=b2) (off:=0) (es:=[_,_,_,_,_,_,_,_]) (news:=[_,_,_,_,_,_,_,_]) hJ hJ0 ZdD rfl rfl rfl (lb rfl) rfl (fun a w h=>⟨(h.get 0 rfl),(h.get 1 rfl)⟩) ?_
 refine seK [0,2,5,6,8] [_,_,_,_,_] rfl (nx (ln 1 fun hl2=>?_))
 refine Zh (ZK tb hJ [0,2,3,1000,1001,1002] [_,.int (fr.length:Nat),_] [1] [_,_,_,_,_,_] rfl ⟨Ym Zx,trivial⟩ ?_)
 refine Ze (lpo (ι:=Nat×(List Hy)×Value) (fun(q,hy,_)=>(q≤fr.length)∧(hy=(fr.take q).map fun s=>(⟨l++s,false,[⟨#[124,45]⟩,s]⟩:Hy))) (fun(_,hy,wh)=>[OB.var b2 [.lit (.string l),.lit (.bool false),.lit wh,XS ([]:List Pr),Zb ([(⟨#[124,45]⟩:BA),to]),XC ([]:List Hy),XS ([]:List Pr),Zb ([]:List BA)],OB.row wh 119 3 (hy.map hyC),OB.var b1 [.lit (.string (⟨#[]⟩:BA)),.lit (.bool false),XC ([]:List Hy),XS ([]:List Pr),Zb ([]:List BA),XC ([]:List Hy),XS ([]:List Pr),Zb ([]:List BA)]]) (fun(q,_,_)=>[(16,.int (q:Nat))]) (fun(q,_,_)=>fr.length-q) [0,1,2,3,4,5] [_,_,_,_,_] (0,[],(.slice none 0 0)) ⟨nzl,rfl⟩ ?_)
 rintro⟨q,hy,wh⟩ ⟨f1_1,f1_2⟩
 refine qso tb hJ [0,1,2,3,4,5,1000] [_] [_,_,_,_,_,_,_] ?_
 refine cjS 6 (fun hb1=>?_) fun hb1=>?_
 ·
  try simp at hb1
  have hsq:=hs (ge fr q) (Zg oz)
  have hyl:hy.length=q:=by rw[f1_2,List.length_map,List.length_take];omega
  refine Zc (nx (Zh (Ze (ZK tb hJ [0,1,2,3,4,5,1002] [.ptr [.lit (.string (ge fr q))],_,_] [0] [_,_,_,_,_,_,_] rfl ⟨iIx Zl,trivial⟩ ?_))))
  refine ZS (sq (.at b2 2) rfl rfl (lb rfl) (fun _ _ h=>Zy ZcD rfl (h.get 0 rfl) h.x) ?_)
  refine sy (.lit wh) (fun h=>Zs ZnA rfl (Zf h.x (mo 0 rfl)) (h.get 0 rfl) rfl h.x) ?_
  refine snK 2 tb rfl (sy (.str ((l++(ge fr q)))) (fun h=>r_addS rfl (h.get 1 rfl) (h.get 0 rfl) (by first | omega | (simp;omega) | grind[Zg]) h.x) ?_)
  refine snK 1 tb rfl (sq (.rd (Zb (([(⟨#[124,45]⟩:BA),(ge fr q)]:List BA)))) rfl rfl (lb rfl) (fun a _ h=>QZ (k:=2) (us:=[a.eval (Go.Operand.const (Go.Value.string { data:= #[124,45] })),a.eval (Go.Operand.tmp 25)]) Zl Zdl rfl yz (Zp (Rel.of_lit (Go.Value.string { data:= #[124,45] }) (lb rfl)) (Zp (h.get 0 rfl) Z4)) rfl dz dz (Zm hS _ h.keep h.x _ nlr) (jo hJ h.x)) ?_)
  refine sq (.agg (hyC ((⟨(l++(ge fr q)),false,([(⟨#[124,45]⟩:BA),(ge fr q)]:List BA)⟩:Hy)))) rfl rfl (lb rfl) (fun a _ h=>XJ (ps:=[(0,a.eval (Go.Operand.tmp 24)),(2,a.eval (Go.Operand.tmp 26))]) (us:=[a.eval (Go.Operand.tmp 24),.bool false,a.eval (Go.Operand.tmp 26)]) ZfA rfl yz (Zml (lb rfl) (Rel.oneC (h.get 2 rfl)) (Zml (lb rfl) (Rel.oneC (h.get 0 rfl)) Zms)) rfl (Zp (h.get 2 rfl) (Qp (.lit _ True.intro) (Zp (h.get 0 rfl) Z4))) h.x) ?_
  refine sy (.rd (XC ([(⟨(l++(ge fr q)),false,([(⟨#[124,45]⟩:BA),(ge fr q)]:List BA)⟩:Hy)]))) (fun h=>Zb1 ZG Zpr dz rfl rfl (h.get 0 rfl) (Zm hS _ h.keep h.x _ nlr) (jo hJ h.x)) ?_
  refine kw pm1 (Yx (f:=hyC) (m:=7) (s:=21) hy ([(⟨(l++(ge fr q)),false,([(⟨#[124,45]⟩:BA),(ge fr q)]:List BA)⟩:Hy)]) (fun _=>rfl) Zbr hJ hJ0 rfl rfl rfl (lb rfl) rfl rfl (fun a w h=>(h.get 0 rfl)) (by first | omega | (simp;omega) | grind[Zg]) (by first | omega | (simp;omega) | grind[Zg]) fun v3=>?_)
  refine sy (.at b2 2) (fun h=>Zy ZcD rfl (h.get 10 rfl) h.x) ?_
  refine kw pm1 (Yb (b:=b2) (off:=2) (es:=[_,_,_,_,_,_,_,_]) hJ hJ0 Zg0 rfl rfl rfl (lb rfl) rfl (fun a w h=>⟨(h.get 0 rfl),(h.get 1 rfl)⟩) ?_)
  refine seK [2,4,11,12,13,14,15,16] [_,_,_,_,_,_,_,_] rfl (nx (ln 0 fun hl3=>?_))
  refine ln 1 fun hl4=>?_
  refine YR tb hJ [2,3,4,5,6,1001] [.int (q+1:Nat),_] [0] [_,_,_,_,_,_] rfl ⟨YN,trivial⟩ ?_
  exact Xf (q+1,hy++([(⟨(l++(ge fr q)),false,([(⟨#[124,45]⟩:BA),(ge fr q)]:List BA)⟩:Hy)]),v3) [0,1,2,3,4,5] ⟨oz,by rw[List.take_add_one,List.getElem?_eq_getElem oz,←YL oz,List.map_append,←f1_2];rfl⟩
 ·
  try simp at hb1
  refine Zu (nx (tw pm1 (tw (fun h=>Y7 (j:=2) (cs':=[.lit (.string l),.lit (.bool false),XC hy,XS ([]:List Pr),Zb ([(⟨#[124,45]⟩:BA),to]),XC ([]:List Hy),XS ([]:List Pr),Zb ([]:List BA)]) hS rfl rfl h) ?_)))
  refine tsq (sy (.agg [.lit (.string l),.lit (.bool false),XC hy,XS ([]:List Pr),Zb ([(⟨#[124,45]⟩:BA),to]),XC ([]:List Hy),XS ([]:List Pr),Zb ([]:List BA)]) (fun h=>Yt (ds:=[.lit (.string l),.lit (.bool false),XC hy,XS ([]:List Pr),Zb ([(⟨#[124,45]⟩:BA),to]),XC ([]:List Hy),XS ([]:List Pr),Zb ([]:List BA)]) Zbs rfl (Zf h.x (mo 0 rfl)) (h.get 0 rfl) rfl rfl h.x) ?_)
  refine kw pm1 (Zt (b:=b1) (off:=0) (es:=[_,_,_,_,_,_,_,_]) (news:=[_,_,_,_,_,_,_,_]) hJ hJ0 ZdD rfl rfl rfl (lb rfl) rfl (fun a w h=>⟨(h.get 2 rfl),(h.get 0 rfl)⟩) ?_)
  exact seK [2] [_] rfl (nx (Zv (fun a w h=>Zby (m:=0) rfl Zbs h rfl rfl (show(_:List CD)=[.lit (.string ((XX l to fr).label)),.lit (.bool ((XX l to fr).thm)),XC ((XX l to fr).hyps),XS ((XX l to fr).apart),Zb ((XX l to fr).text),XC ((XX l to fr).dummies),XS ((XX l to fr).wide),Zb ((XX l to fr).proof)]from by(rw[f1_2,show q=fr.length by omega,List.take_length];rfl)<;>rfl))))
theorem Zmy {J:WP} (hJ:Stab J)   :Fn prog J 30 [] (.tup [.agg (dbC exDb),.agg (pfC ZgM)]):=by
 refine fE Tryz.func30 fun S w0 hS hJ0=>?_
 refine tw Ye (tsq ?_)
 refine ZA ZbD hJ rfl rfl rfl (lb rfl) fun b1=>?_
 refine ZA QD hJ rfl rfl rfl (lb rfl) fun b2=>?_
 refine seK [0,1] [_,_] rfl (nx (qso tb hJ [0,1,1000] [_] [_,_,_] ?_))
 refine tsq (snK 1 tb rfl (sy (.agg (frC (((XX (⟨#[116]⟩:BA) (⟨#[113]⟩:BA) ([]:List BA)))))) (fun h=>Zan ((Zae hJ (⟨#[116]⟩:BA) (⟨#[113]⟩:BA) ([]:List BA) dz dz dz).rr) Zet rfl (h.get 0 rfl) (Zm hS _ h.keep h.x) (h.x.1) Zq (Za (Rel.of_lit (Go.Value.string { data:= #[116] }) (lb rfl)) (Za (Rel.of_lit (Go.Value.string { data:= #[113] }) (lb rfl)) (Za (Zf4 (Rel.of_lit (Go.Value.slice none 0 0))) Zd))) (jo hJ h.x)) ?_))
 refine ZA Qo hJ rfl rfl rfl (lb rfl) fun b3=>?_
 refine Zt (b:=b3) (off:=0) (es:=[_,_,_,_,_,_,_,_]) (news:=[_,_,_,_,_,_,_,_]) hJ hJ0 ZdD rfl rfl rfl (lb rfl) rfl (fun a w h=>⟨(h.get 0 rfl),(h.get 1 rfl)⟩) ?_
 refine seK [0,3,4,5] [_,_,_,_] rfl (nx (tsq ?_))
 refine sy (.at b3 1) (fun h=>Zy Zma rfl (h.get 0 rfl) h.x) ?_
 refine Yb (b:=b3) (off:=1) (es:=[_,_,_,_,_,_,_,_]) hJ hJ0 ZbT rfl rfl rfl (lb rfl) rfl (fun a w h=>⟨(h.get 0 rfl),(Rel.of_lit (Go.Value.bool true))⟩) ?_
 refine seK [1,2,3,4] [_,_,_,_] rfl (nx (tw (ob0 (show OB.var b3 [.lit (.string ((((XX (⟨#[116]⟩:BA) (⟨#[113]⟩:BA) ([]:List BA)))).label)),.lit (.bool true),XC ((((XX (⟨#[116]⟩:BA) (⟨#[113]⟩:BA) ([]:List BA)))).hyps),XS ((((XX (⟨#[116]⟩:BA) (⟨#[113]⟩:BA) ([]:List BA)))).apart),Zb ((((XX (⟨#[116]⟩:BA) (⟨#[113]⟩:BA) ([]:List BA)))).text),XC ((((XX (⟨#[116]⟩:BA) (⟨#[113]⟩:BA) ([]:List BA)))).dummies),XS ((((XX (⟨#[116]⟩:BA) (⟨#[113]⟩:BA) ([]:List BA)))).wide),Zb ((((XX (⟨#[116]⟩:BA) (⟨#[113]⟩:BA) ([]:List BA)))).proof)]=OB.var b3 (frC ({ XX ⟨#[116]⟩ ⟨#[113]⟩ []with thm:=true }:Fr))from rfl)) ?_))
 refine Zh (fun a w h=>Qu [OB.var b3 (frC ({ XX ⟨#[116]⟩ ⟨#[113]⟩ []with thm:=true }:Fr)),OB.var b2 [ZQ ([]:List Stp)],OB.var b1 [Zb ([]:List BA),Zb ([]:List BA),Yq ([]:List Fr)]] (γ:=Nat) (fun ix'=>([.rd (Zb (([(⟨#[124,45]⟩:BA),(⟨#[112]⟩:BA),(⟨#[113]⟩:BA),(⟨#[114]⟩:BA)]:List BA))),.fn 60 [],.agg (frC (((XX (⟨#[97]⟩:BA) (⟨#[112]⟩:BA) ([]:List BA))))),.fn 60 [],.rd (Zb ([(⟨#[112]⟩:BA)])),.agg (frC (((XX (⟨#[98]⟩:BA) (⟨#[113]⟩:BA) ([(⟨#[112]⟩:BA)]))))),.fn 60 [],.rd (Zb ([(⟨#[113]⟩:BA)])),.agg (frC (((XX (⟨#[99]⟩:BA) (⟨#[114]⟩:BA) ([(⟨#[113]⟩:BA)]))))),.fn 60 [],.rd (Zb ([(⟨#[114]⟩:BA)])),.agg (frC (((XX (⟨#[100]⟩:BA) (⟨#[113]⟩:BA) ([(⟨#[114]⟩:BA)]))))),.agg (frC ({ XX ⟨#[116]⟩ ⟨#[113]⟩ []with thm:=true }:Fr)),.rd (Yq ([((XX (⟨#[97]⟩:BA) (⟨#[112]⟩:BA) ([]:List BA))),((XX (⟨#[98]⟩:BA) (⟨#[113]⟩:BA) ([(⟨#[112]⟩:BA)]))),((XX (⟨#[99]⟩:BA) (⟨#[114]⟩:BA) ([(⟨#[113]⟩:BA)]))),((XX (⟨#[100]⟩:BA) (⟨#[113]⟩:BA) ([(⟨#[114]⟩:BA)]))),({ XX ⟨#[116]⟩ ⟨#[113]⟩ []with thm:=true }:Fr)])),.agg (dbC ((⟨([(⟨#[124,45]⟩:BA),(⟨#[112]⟩:BA),(⟨#[113]⟩:BA),(⟨#[114]⟩:BA)]:List BA),[],[((XX (⟨#[97]⟩:BA) (⟨#[112]⟩:BA) ([]:List BA))),((XX (⟨#[98]⟩:BA) (⟨#[113]⟩:BA) ([(⟨#[112]⟩:BA)]))),((XX (⟨#[99]⟩:BA) (⟨#[114]⟩:BA) ([(⟨#[113]⟩:BA)]))),((XX (⟨#[100]⟩:BA) (⟨#[113]⟩:BA) ([(⟨#[114]⟩:BA)]))),({ XX ⟨#[116]⟩ ⟨#[113]⟩ []with thm:=true }:Fr)]⟩:Db))),.any,.any]:List AV).getD ix' .any) (fun _=>true) [(1,fun _=>.at b2 0),(0,fun _=>.at b1 0),(4,fun g=>.at g 0)] (fun(b:List Bool) (g:Nat)=>(bif b.getD 1 false then [OB.var g (dbC (((⟨([(⟨#[124,45]⟩:BA),(⟨#[112]⟩:BA),(⟨#[113]⟩:BA),(⟨#[114]⟩:BA)]:List BA),[],[((XX (⟨#[97]⟩:BA) (⟨#[112]⟩:BA) ([]:List BA))),((XX (⟨#[98]⟩:BA) (⟨#[113]⟩:BA) ([(⟨#[112]⟩:BA)]))),((XX (⟨#[99]⟩:BA) (⟨#[114]⟩:BA) ([(⟨#[113]⟩:BA)]))),((XX (⟨#[100]⟩:BA) (⟨#[113]⟩:BA) ([(⟨#[114]⟩:BA)]))),({ XX ⟨#[116]⟩ ⟨#[113]⟩ []with thm:=true }:Fr)]⟩:Db))))]else(bif b.getD 0 false then [OB.var g [Zb ([]:List BA),Zb ([]:List BA),Yq ([]:List Fr)]]else []))++([OB.var b3 (frC ({ XX ⟨#[116]⟩ ⟨#[113]⟩ []with thm:=true }:Fr)),OB.var b2 [ZQ ([]:List Stp)],OB.var b1 [Zb ([]:List BA),Zb ([]:List BA),Yq ([]:List Fr)]])) (fun k' g=>match k' with | 0=>(.pointer (some ⟨g,0,none⟩)) | _=>undef) [15,16] 0 (fun _=>rfl) h hJ Yk rfl rfl rfl rfl (fun b g p hp=>(List.mem_append_right _ hp)) ⟨?_,?_,?_,?_,?_,?_,?_,?_,?_,?_,?_,?_,?_,?_,?_,?_,?_,trivial⟩ ⟨?e4_1_0,?e4_1_1,trivial⟩ ⟨.old 1 1 _,.old 2 0 _,.eff 0 15 4 (fun(g:Nat)=>(.pointer (some ⟨g,0,none⟩))) rfl rfl (fun _=>rfl) (fun _=>True.intro),trivial⟩ ?n4_1)
 exact fun _ O' _=>⟨rfl,fun a _ hk hx _ _=>QZ (k:=4) (us:=[a.eval (Go.Operand.const (Go.Value.string { data:= #[124,45] })),a.eval (Go.Operand.const (Go.Value.string { data:= #[112] })),a.eval (Go.Operand.const (Go.Value.string { data:= #[113] })),a.eval (Go.Operand.const (Go.Value.string { data:= #[114] }))]) Zl Zdl rfl yz (Zp (Rel.of_lit (Go.Value.string { data:= #[124,45] }) (lb rfl)) (Zp (Rel.of_lit (Go.Value.string { data:= #[112] }) (lb rfl)) (Zp (Rel.of_lit (Go.Value.string { data:= #[113] }) (lb rfl)) (Zp (Rel.of_lit (Go.Value.string { data:= #[114] }) (lb rfl)) Z4)))) rfl dz dz (Zm hS _ hk hx _ nlr) (jo hJ hx)⟩
 exact oX rfl fun hx hl=>ZW rfl (hl.env 3 2 _ rfl rfl) hx
 exact oY rfl fun hk hx hl=>Zan ((Zae hJ (⟨#[97]⟩:BA) (⟨#[112]⟩:BA) ([]:List BA) dz dz dz).rr) Zet rfl (hl.D 1 9 rfl rfl) (Zm hS _ hk hx) (hx.1) Zq (Za (Rel.of_lit (Go.Value.string { data:= #[97] }) (lb rfl)) (Za (Rel.of_lit (Go.Value.string { data:= #[112] }) (lb rfl)) (Za (Zf4 (Rel.of_lit (Go.Value.slice none 0 0))) Zd))) (jo hJ hx)
 exact oX rfl fun hx hl=>ZW rfl (hl.env 3 2 _ rfl rfl) hx
 exact fun _ O' _=>⟨rfl,fun _ _ hk hx _ _=>YB Zl ZaR rfl (Rel.of_lit (Go.Value.string { data:= #[112] }) (lb rfl)) (Zm hS _ hk hx _ nlr) (jo hJ hx)⟩
 exact oY rfl fun hk hx hl=>Zan ((Zae hJ (⟨#[98]⟩:BA) (⟨#[113]⟩:BA) ([(⟨#[112]⟩:BA)]) dz dz dz).rr) Zet rfl (hl.D 3 11 rfl rfl) (Zm hS _ hk hx) (hx.1) Zq (Za (Rel.of_lit (Go.Value.string { data:= #[98] }) (lb rfl)) (Za (Rel.of_lit (Go.Value.string { data:= #[113] }) (lb rfl)) (Za (hl.D 4 12 rfl rfl) Zd))) (jo hJ hx)
 exact oX rfl fun hx hl=>ZW rfl (hl.env 3 2 _ rfl rfl) hx
 exact fun _ O' _=>⟨rfl,fun _ _ hk hx _ _=>YB Zl ZaR rfl (Rel.of_lit (Go.Value.string { data:= #[113] }) (lb rfl)) (Zm hS _ hk hx _ nlr) (jo hJ hx)⟩
 exact oY rfl fun hk hx hl=>Zan ((Zae hJ (⟨#[99]⟩:BA) (⟨#[114]⟩:BA) ([(⟨#[113]⟩:BA)]) dz dz dz).rr) Zet rfl (hl.D 6 14 rfl rfl) (Zm hS _ hk hx) (hx.1) Zq (Za (Rel.of_lit (Go.Value.string { data:= #[99] }) (lb rfl)) (Za (Rel.of_lit (Go.Value.string { data:= #[114] }) (lb rfl)) (Za (hl.D 7 15 rfl rfl) Zd))) (jo hJ hx)
 exact oX rfl fun hx hl=>ZW rfl (hl.env 3 2 _ rfl rfl) hx
 exact fun _ O' _=>⟨rfl,fun _ _ hk hx _ _=>YB Zl ZaR rfl (Rel.of_lit (Go.Value.string { data:= #[114] }) (lb rfl)) (Zm hS _ hk hx _ nlr) (jo hJ hx)⟩
 exact oY rfl fun hk hx hl=>Zan ((Zae hJ (⟨#[100]⟩:BA) (⟨#[113]⟩:BA) ([(⟨#[114]⟩:BA)]) dz dz dz).rr) Zet rfl (hl.D 9 17 rfl rfl) (Zm hS _ hk hx) (hx.1) Zq (Za (Rel.of_lit (Go.Value.string { data:= #[100] }) (lb rfl)) (Za (Rel.of_lit (Go.Value.string { data:= #[113] }) (lb rfl)) (Za (hl.D 10 18 rfl rfl) Zd))) (jo hJ hx)
 exact fun _ O' hO'=>⟨rfl,fun _ _ _ hx hl _=>Yt (ds:=[.lit (.string (({ XX ⟨#[116]⟩ ⟨#[113]⟩ []with thm:=true }:Fr).label)),.lit (.bool (({ XX ⟨#[116]⟩ ⟨#[113]⟩ []with thm:=true }:Fr).thm)),XC (({ XX ⟨#[116]⟩ ⟨#[113]⟩ []with thm:=true }:Fr).hyps),XS (({ XX ⟨#[116]⟩ ⟨#[113]⟩ []with thm:=true }:Fr).apart),Zb (({ XX ⟨#[116]⟩ ⟨#[113]⟩ []with thm:=true }:Fr).text),XC (({ XX ⟨#[116]⟩ ⟨#[113]⟩ []with thm:=true }:Fr).dummies),XS (({ XX ⟨#[116]⟩ ⟨#[113]⟩ []with thm:=true }:Fr).wide),Zb (({ XX ⟨#[116]⟩ ⟨#[113]⟩ []with thm:=true }:Fr).proof)]) Zbs rfl (Zf hx (hO' _ (mo 0 rfl))) (hl.env 0 3 _ rfl rfl) rfl rfl hx⟩
 exact fun _ O' _=>⟨rfl,fun a w hk hx hl _=>Zsr (z:= #[.string ⟨#[]⟩,.bool false,.slice none 0 0,.slice none 0 0,.slice none 0 0,.slice none 0 0,.slice none 0 0,.slice none 0 0]) (cs:=[frC (((XX (⟨#[97]⟩:BA) (⟨#[112]⟩:BA) ([]:List BA)))),frC (((XX (⟨#[98]⟩:BA) (⟨#[113]⟩:BA) ([(⟨#[112]⟩:BA)])))),frC (((XX (⟨#[99]⟩:BA) (⟨#[114]⟩:BA) ([(⟨#[113]⟩:BA)])))),frC (((XX (⟨#[100]⟩:BA) (⟨#[113]⟩:BA) ([(⟨#[114]⟩:BA)])))),frC ({ XX ⟨#[116]⟩ ⟨#[113]⟩ []with thm:=true }:Fr)]) (vs:=[a.eval (Go.Operand.tmp 10),a.eval (Go.Operand.tmp 13),a.eval (Go.Operand.tmp 16),a.eval (Go.Operand.tmp 19),a.eval (Go.Operand.tmp 20)]) YH (fun w=>by kernel_rfl) rfl yz (Za (hl.D 2 10 rfl rfl) (Za (hl.D 5 13 rfl rfl) (Za (hl.D 8 16 rfl rfl) (Za (hl.D 11 19 rfl rfl) (Za (hl.D 12 20 rfl rfl) Zd))))) (of_decide_eq_true rfl) rfl dz dz dz (Zm hS _ hk hx _ nlr) (jo hJ hx)⟩
 exact oX rfl fun hx hl=>Znb (xs:=(([(⟨#[124,45]⟩:BA),(⟨#[112]⟩:BA),(⟨#[113]⟩:BA),(⟨#[114]⟩:BA)]:List BA))) (fs:=([((XX (⟨#[97]⟩:BA) (⟨#[112]⟩:BA) ([]:List BA))),((XX (⟨#[98]⟩:BA) (⟨#[113]⟩:BA) ([(⟨#[112]⟩:BA)]))),((XX (⟨#[99]⟩:BA) (⟨#[114]⟩:BA) ([(⟨#[113]⟩:BA)]))),((XX (⟨#[100]⟩:BA) (⟨#[113]⟩:BA) ([(⟨#[114]⟩:BA)]))),({ XX ⟨#[116]⟩ ⟨#[113]⟩ []with thm:=true }:Fr)])) Zmj rfl (hl.D 0 8 rfl rfl) (hl.D 13 21 rfl rfl) hx
 exact Zi rfl
 exact Zi rfl
 case e4_1_0=>exact ZeL [[false,false]] (by kernel_rfl) rfl rfl rfl rfl ⟨fun _ _ w hk hx _ _=>Zk (Xs ZbD hJ rfl hk hx) fun v w' ⟨b',hv,hp⟩=>⟨b',(fun k' hk'=>by rcases k' with _ | _ | k'<;>first | rfl | cases hk'),fun _=>hv,True.intro,hp⟩,trivial⟩
 case e4_1_1=>exact ZeL [[true,false]] (by kernel_rfl) rfl rfl rfl rfl ⟨fun g _ w hk hx hl hs=>(by obtain⟨us2,hv2,hr3⟩:=X6 (hl.D 14 22 rfl rfl);exact Zk (Y3 (S':=S) (off:=0) (news:=[_,_,_]) (es:=[_,_,_]) (us:=us2) hJ hJ0 ZdE rfl hk hx (ZaY (hs 0 15 _ 4 rfl rfl rfl rfl)) (by rw[hv2];rfl) hr3 (lb rfl) rfl) fun v w' hp=>⟨g,fun _ _=>rfl,fun e=>(by cases e),True.intro,hp⟩),trivial⟩
 clear a w h
 intro b4
 dsimp only[List.map]
 refine kw (fun h=>ZM hS h (m:=2) (s:=4) rfl) (nx (tsq ?_))
 refine snK 1 tb rfl (sq (.agg (spC ((⟨(⟨#[97]⟩:BA),[]⟩:Stp)))) rfl rfl (lb rfl) (fun a _ h=>XJ (ps:=[(0,a.eval (Go.Operand.const (Go.Value.string { data:= #[97] })))]) (us:=[a.eval (Go.Operand.const (Go.Value.string { data:= #[97] })),.slice none 0 0]) Zh0 rfl yz (Zml (lb rfl) rfl Zms) rfl (Zp (Rel.of_lit (Go.Value.string { data:= #[97] }) (lb rfl)) (Qp (.nil _ _ nzl) Z4)) h.x) ?_)
 refine sy (.rd (ZX ([(0:Int)]))) (fun h=>YB ZC Zdk rfl (Rel.of_lit (Go.Value.int Go.IntKind.i64 0)) (Zm hS _ h.keep h.x _ nlr) (jo hJ h.x)) ?_
 refine sq (.agg (spC ((⟨(⟨#[98]⟩:BA),[(0:Int)]⟩:Stp)))) rfl rfl (lb rfl) (fun a _ h=>XD (us:=[a.eval (Go.Operand.const (Go.Value.string { data:= #[98] })),a.eval (Go.Operand.tmp 25)]) Zbp rfl yz (Zp (Rel.of_lit (Go.Value.string { data:= #[98] }) (lb rfl)) (Zp (h.get 0 rfl) Z4)) rfl h.x) ?_
 refine sy (.rd (ZX ([(1:Int)]))) (fun h=>YB ZC Zdk rfl (Rel.of_lit (Go.Value.int Go.IntKind.i64 1)) (Zm hS _ h.keep h.x _ nlr) (jo hJ h.x)) ?_
 refine sq (.agg (spC ((⟨(⟨#[99]⟩:BA),[(1:Int)]⟩:Stp)))) rfl rfl (lb rfl) (fun a _ h=>XD (us:=[a.eval (Go.Operand.const (Go.Value.string { data:= #[99] })),a.eval (Go.Operand.tmp 27)]) Zbp rfl yz (Zp (Rel.of_lit (Go.Value.string { data:= #[99] }) (lb rfl)) (Zp (h.get 0 rfl) Z4)) rfl h.x) ?_
 refine sy (.rd (ZX ([(2:Int)]))) (fun h=>YB ZC Zdk rfl (Rel.of_lit (Go.Value.int Go.IntKind.i64 2)) (Zm hS _ h.keep h.x _ nlr) (jo hJ h.x)) ?_
 refine sq (.agg (spC ((⟨(⟨#[100]⟩:BA),[(2:Int)]⟩:Stp)))) rfl rfl (lb rfl) (fun a _ h=>XD (us:=[a.eval (Go.Operand.const (Go.Value.string { data:= #[100] })),a.eval (Go.Operand.tmp 29)]) Zbp rfl yz (Zp (Rel.of_lit (Go.Value.string { data:= #[100] }) (lb rfl)) (Zp (h.get 0 rfl) Z4)) rfl h.x) ?_
 refine sq (.rd (ZQ ([(⟨(⟨#[97]⟩:BA),[]⟩:Stp),(⟨(⟨#[98]⟩:BA),[(0:Int)]⟩:Stp),(⟨(⟨#[99]⟩:BA),[(1:Int)]⟩:Stp),(⟨(⟨#[100]⟩:BA),[(2:Int)]⟩:Stp)]))) rfl rfl (lb rfl) (fun a _ h=>Zsr (z:= #[.string ⟨#[]⟩,.slice none 0 0]) (cs:=[spC ((⟨(⟨#[97]⟩:BA),[]⟩:Stp)),spC ((⟨(⟨#[98]⟩:BA),[(0:Int)]⟩:Stp)),spC ((⟨(⟨#[99]⟩:BA),[(1:Int)]⟩:Stp)),spC ((⟨(⟨#[100]⟩:BA),[(2:Int)]⟩:Stp))]) (vs:=[a.eval (Go.Operand.tmp 24),a.eval (Go.Operand.tmp 26),a.eval (Go.Operand.tmp 28),a.eval (Go.Operand.tmp 30)]) Z3 (fun w=>by kernel_rfl) rfl yz (Za (h.get 6 rfl) (Za (h.get 4 rfl) (Za (h.get 2 rfl) (Za (h.get 0 rfl) Zd)))) (of_decide_eq_true rfl) rfl dz dz dz (Zm hS _ h.keep h.x _ nlr) (jo hJ h.x)) ?_
 refine sq (.agg (pfC ([(⟨(⟨#[97]⟩:BA),[]⟩:Stp),(⟨(⟨#[98]⟩:BA),[(0:Int)]⟩:Stp),(⟨(⟨#[99]⟩:BA),[(1:Int)]⟩:Stp),(⟨(⟨#[100]⟩:BA),[(2:Int)]⟩:Stp)]))) rfl rfl (lb rfl) (fun a _ h=>XD (us:=[a.eval (Go.Operand.tmp 31)]) ZcH rfl yz (Zp (h.get 0 rfl) Z4) rfl h.x) ?_
 refine kw pm2 (Zt (b:=b1) (off:=0) (es:=[_,_,_]) (news:=[_,_,_]) hJ hJ0 ZdE rfl rfl rfl (lb rfl) rfl (fun a w h=>⟨(h.get 12 rfl),(h.get 9 rfl)⟩) ?_)
 refine kw pm2 (Zt (b:=b2) (off:=0) (es:=[_]) (news:=[_]) hJ hJ0 Y5 rfl rfl rfl (lb rfl) rfl (fun a w h=>⟨(h.get 11 rfl),(h.get 0 rfl)⟩) ?_)
 refine seK [1,3,5,7,11,12] [_,_,_,_,_,_] rfl (nx (ln 0 fun hl1=>?_))
 refine ln 1 fun hl2=>?_
 refine ln 2 fun hl3=>?_
 refine ln 3 fun hl4=>?_
 exact tw pm1 (Zv (fun a w h=>Zqu (m:=5) (q:=4) rfl ZgG Yu h rfl rfl rfl rfl (show(_:List CD)=[Zb exDb.consts,Zb exDb.vars,Yq exDb.frames]from rfl) (show(_:List CD)=[ZQ ZgM]from rfl)))
theorem Zu9:Zj prog 30:=Zn Tryz.func30 rfl rfl
theorem Zo5:Zj prog 15:=Zn Tryz.func15 rfl rfl
theorem Zu8:Zj prog 31:=Zn Tryz.func31 rfl rfl
theorem call_8:Zj prog 8:=Zn Tryz.func8 rfl rfl
theorem ZoS:Zj prog 9:=Zn Tryz.func9 rfl rfl
theorem Zo6:Zj prog 14:=Zn Tryz.func14 rfl rfl
theorem ZjG:Zsa prog 28 1:=⟨(#[.slice none 0 0]),rfl,by kernel_rfl⟩
theorem Zvc:Zj prog 13:=Zn Tryz.func13 rfl rfl
theorem Zdq {J:WP} (hJ:Stab J)  (hG:XI J):Fn prog J 9 [] (.bool true):=by
 refine fE Tryz.func9 fun S w0 hS hJ0=>?_
 refine tw Ye ?_
 obtain⟨lc,hlc⟩:=ex_law
 obtain⟨xs,hxs⟩:∃ xs,Zc1 (jbG exDb 4 ZgM) 3=xs:=⟨_,rfl⟩
 rw[hxs]at hlc
 have hxl:0<xs.length:=by rw[hlc];simp
 refine qso tb hJ [] [_] [] ?_
 refine tsq (sy (.tup [.agg (dbC exDb),.agg (pfC ZgM)]) (fun h=>Zbj (Zmy hJ  ) Zu9 rfl (Zm hS _ h.keep h.x) (h.x.1) Zd (jo hJ h.x)) ?_)
 refine snK 3 tb rfl (ZA ZbD hJ rfl rfl rfl (lb rfl) fun b1=>?_)
 refine ZA QD hJ rfl rfl rfl (lb rfl) fun b2=>?_
 refine kw pm1 (Zt (b:=b1) (off:=0) (es:=[_,_,_]) (news:=[_,_,_]) hJ hJ0 ZdE rfl rfl rfl (lb rfl) rfl (fun a w h=>⟨(h.get 1 rfl),(h.get 3 rfl)⟩) ?_)
 refine kw pm1 (Zt (b:=b2) (off:=0) (es:=[_]) (news:=[_]) hJ hJ0 Y5 rfl rfl rfl (lb rfl) rfl (fun a w h=>⟨(h.get 0 rfl),(h.get 2 rfl)⟩) ?_)
 refine kw pm1 (kw (fun h=>ZM hS h (m:=1) (s:=1) rfl) ?_)
 refine kw (fun h=>ZM hS h (m:=1) (s:=2) rfl) (seK [0,1] [_,_] rfl ?_)
 refine nx (Zh (YR tb hJ [1004,1006,1007] [_,_,.tup [.rd (Zeq ((Zc1 (jbG exDb (4:Int) ZgM) 3))),.int 0],_,_,_,_,_] [2] [_,_,_] rfl ⟨iFo hS hJ (Zhn hJ exDb (4:Int) ZgM 3 dz (by exact hG) (by exact ZqV) dz dz dz) Zo5,trivial⟩ ?_))
 refine kw (sa 1 rfl (congrArg (fun z'=>AV.rd (Zeq z')) (show((Zc1 (jbG exDb (4:Int) ZgM) 3))=xs from hxs))) (nx (ln 0 fun hl1=>?_))
 refine ln 1 fun hl2=>?_
 refine ZK tb hJ [1036] [_,_,_,_,.int (xs.length:Nat),_,_,_,_,.ptr (chC (ge xs 0)),_,_,_,_,_,_,.ptr (chC (ge xs 0)),_,_,.rd (ZX ([(1:Int)])),.bool (decide (((ge xs 0).args)=([(1:Int)]))),_,_,_,.ptr (chC (ge xs 0)),_,_,_,_,_,_,.ptr (chC (ge xs 0)),_,_,_,_,_] [4,9,16,19,20,24,31] [_] rfl ⟨Ym X3,gIx (k:=0) YY (hk:=fun _=>by first | omega | (simp;omega) | grind[Zg]),gIx (k:=0) YY (hk:=fun _=>by first | omega | (simp;omega) | grind[Zg]),fun _ _ hk hx _ _=>YB ZC Zdk rfl (Rel.of_lit (Go.Value.int Go.IntKind.i64 1)) (Zm hS _ hk hx _ nlr) (jo hJ hx),iFo hS hJ (Zqc hJ ((ge xs 0).args) ([(1:Int)])) Zu8,gIx (k:=0) YY (hk:=fun _=>by first | omega | (simp;omega) | grind[Zg]),gIx (k:=0) YY (hk:=fun _=>by first | omega | (simp;omega) | grind[Zg]),trivial⟩ ?_
 exact tRo 0 (hE:=eB (by rw[hlc];simp[ge]))
theorem Zi1 {J:WP} (hJ:Stab J) (d:Db) (z:Int) (ss:List Stp) (hw:∀ f∈d.frames,f.wide.length*32≤140737488351232) (hG:XI J):Fn prog J 4 [.agg (dbC d),.int z,.agg (pfC ss)] (.bool true):=by
 refine fE Tryz.func4 fun S w0 hS hJ0=>?_
 refine tw Ye (ZK tb hJ [1,1000,1001] [.ptr (dbC d),.ptr (pfC ss),_] [0,1] [_,_,_] rfl ⟨iBo hS hJ,iBo hS hJ,trivial⟩ ?_)
 refine Zh (ZK tb hJ [0,1,2,1003] [_,_,.bool (fewN d ss),_] [2] [_,_,_,_] rfl ⟨iFo hS hJ (w_few hJ d ss) call_8,trivial⟩ ?_)
 refine cj 3 (fun hb1=>?_) fun hb1=>?_
 ·
  try simp at hb1
  refine ZK tb hJ [1001] [.bool true,_] [0] [_] rfl ⟨iFo hS hJ (Zdq hJ  (by exact hG)) ZoS,trivial⟩ ?_
  exact tRo 0 (hE:=rfl)
 ·
  try simp at hb1
  have hfl:=ZqT hb1
  have hql:(X9 d z ss 100).1.length≤16:=Nat.le_trans Zqm hfl.1
  refine Zc (nx (tsq (snK 3 tb (env':=[(23,_),(22,_),(21,_),(1,_),(3,_),(5,_),(18,_)]) rfl (sy (.tup [.agg (pfC (((X9 d z ss 100).1))),.rd (Zeq (((X9 d z ss 100).2.1))),.int ((X9 d z ss 100).2.2)]) (fun h=>Zbj (ZdM hJ d z ss 100 (by exact hw) (by exact hG) (by exact hfl.1) (by exact hfl.2) dz) Zo6 rfl (Zm hS _ h.keep h.x) (h.x.1) (Za (h.get 2 rfl) (Za (h.get 1 rfl) (Za (h.get 0 rfl) (Za (Rel.of_lit (Go.Value.int Go.IntKind.i64 100)) Zd)))) (jo hJ h.x)) ?_))))
  refine snK 4 tb (env':=[(27,_),(26,_),(25,_),(20,_),(24,_),(23,_),(22,_),(21,_),(1,_),(3,_),(5,_),(18,_)]) rfl (X1 (cs:=pfC (((X9 d z ss 100).1))) ZjG rfl rfl rfl (lb rfl) rfl rfl rfl dz (m:=2) rfl rfl (fun a w h=>Zm hS _ h.keep h.x _ nlr) (fun a w h w' hk'=>Yn hJ _ _ hk' h.x) ?_)
  refine snK 2 tb (env':=[(9,_),(8,_),(7,_),(27,_),(26,_),(25,_),(20,_),(24,_),(23,_),(22,_),(21,_),(1,_),(3,_),(5,_),(18,_)]) rfl (seK [0,1,2,4,11,12] [_,_,_,_,_,_] rfl ?_)
  refine nx (ln 1 fun hl1=>?_)
  refine Zh (qso tb hJ [2,4,5,1001] [_,_] [_,_,_,_] ?_)
  refine cj 3 (fun hb2=>?_) fun hb2=>?_
  ·
   try simp at hb2
   refine ZK tb hJ [1001] [.bool true,_] [0] [_] rfl ⟨iFo hS hJ (Zdq hJ  (by exact hG)) ZoS,trivial⟩ ?_
   exact tRo 0 (hE:=rfl)
  ·
   try simp at hb2
   have hmd:=ZnG (d:=d) (z:=z) (ss:=ss) oz hb2
   refine Zc (nx (Zh (ZK tb hJ [0,1,2,1001,1002,1003] [_,_,.int (((((X9 d z ss 100).1))).length:Nat),_] [2] [_,_,_,_,_,_] rfl ⟨Ym Z1,trivial⟩ ?_)))
   refine ln 3 fun hl2=>?_
   refine Ze (lpo (ι:=Nat) (fun q=>(q≤(X9 d z ss 100).1.length)) (fun _=>[]) (fun q=>[(34,.int (q:Nat))]) (fun q=>(X9 d z ss 100).1.length-q) [0,1,2,4,5] [_,_,_,_] 0 (show(0≤(X9 d z ss 100).1.length)from Nat.zero_le _) ?_)
   rintro q hF
   have f1_1:q≤(X9 d z ss 100).1.length:=hF
   refine qso tb hJ [0,1,2,3,4,1000] [_] [_,_,_,_,_,_] ?_
   refine cjS 5 (fun hb3=>?_) fun hb3=>?_
   ·
    try simp at hb3
    have hcs:Zc1 (jbG d z (X9 d z ss 100).1) q=[]:=Zr7 hmd.2.1 (show q< (X9 d z ss 100).1.length by omega)
    refine Zc (nx (Zh (Ze (qso tb hJ [0,1,2,3,4,1001] [_,_] [_,_,_,_,_,_] ?_))))
    refine ZK tb hJ [0,1,2,3,4,1006,1008,1009] [_,_,_,_,.tup [.rd (Zeq ((Zc1 (jbG d z (((X9 d z ss 100).1))) q))),.int 0],_,_,_,_,_] [4] [_,_,_,_,_,_,_,_] rfl ⟨iFo hS hJ (Zhn hJ d z (((X9 d z ss 100).1)) q (by exact hw) (by exact hG) (by exact hmd.1) (by exact hql) (by exact hfl.2) oz) Zo5,trivial⟩ ?_
    refine ln 5 fun hl3=>?_
    refine ZK tb hJ [0,1,2,3,4,1006] [_,_,_,_,.int (((Zc1 (jbG d z (((X9 d z ss 100).1))) q)).length:Nat),_,_] [4] [_,_,_,_,_,_] rfl ⟨Ym X3,trivial⟩ ?_
    refine cj 5 (fun hb4=>?_) fun hb4=>?_
    ·
     exact False.elim (by simp[hcs]at hb4)
    ·
     refine Zc (nx (YR tb hJ [0,1,2,3,1001] [.int (q+1:Nat),_] [0] [_,_,_,_,_] rfl ⟨YN,trivial⟩ ?_))
     exact Xf (q+1) [0,1,2,3,4] (show((q+1)≤(X9 d z ss 100).1.length)from by omega)
   ·
    try simp at hb3
    refine Zu (nx (tsq (snK 3 tb (env':=[(56,_),(55,_),(54,_),(7,_),(1,_),(3,_),(33,_),(34,_),(35,_)]) rfl (sy (.tup [.agg (pfC (((((X9 d z ss 100).1))))),.rd (Zeq ([]:List Chg)),.int 0]) (fun h=>Zbj (ZiS hJ d z (((X9 d z ss 100).1)) 100 (by exact hw) (by exact hG) (by exact hql) (by exact hfl.2) dz (by exact hmd.2.2)) Zo6 rfl (Zm hS _ h.keep h.x) (h.x.1) (Za (h.get 2 rfl) (Za (h.get 1 rfl) (Za (h.get 0 rfl) (Za (Rel.of_lit (Go.Value.int Go.IntKind.i64 100)) Zd)))) (jo hJ h.x)) ?_))))
    refine snK 4 tb (env':=[(60,_),(59,_),(58,_),(53,_),(57,_),(56,_),(55,_),(54,_),(7,_),(1,_),(3,_),(33,_),(34,_),(35,_)]) rfl (X1 (cs:=pfC (((((X9 d z ss 100).1))))) ZjG rfl rfl rfl (lb rfl) rfl rfl rfl dz (m:=2) rfl rfl (fun a w h=>Zm hS _ h.keep h.x _ nlr) (fun a w h w' hk'=>Yn hJ _ _ hk' h.x) ?_)
    refine snK 2 tb (env':=[(9,_),(14,_),(13,_),(60,_),(59,_),(58,_),(53,_),(57,_),(56,_),(55,_),(54,_),(7,_),(1,_),(3,_),(33,_),(34,_),(35,_)]) rfl (seK [0,1,2,11] [_,_,_,_] rfl ?_)
    refine nx (ZK tb hJ [1015] [_,_,_,_,.int (([]:List Chg).length:Nat),_,_,_,_,_,.bool true,_,_,.bool true,_,_] [4,10,13] [_] rfl ⟨Ym X3,iFo hS hJ (Ziu hJ (((((X9 d z ss 100).1))))) Zvc,fun _ _ hk hx _ hc=>Zbj (Zdq hJ  (by have hc':(((((decide (0=(0:Int)))&& (decide (((([]:List Chg).length:Nat):Int)=(0:Int))))&&true)==true))=true:=hc;(try simp at hc');(exact hG))) ZoS rfl (Zm hS _ hk hx) (hx.1) Zd (jo hJ hx),trivial⟩ ?_)
    exact tRo 0 (hE:=eB (by first | rfl | simp))
end Go.Proofs.YtdfadihhfppjaaaGreatDoor
