/-
  CONTRACTS of the law of verdicts: its bounds, its sample, awake.
  THE VERDICTS OF ALL ASSERTIONS; what a machine and the reference's run show (plain).
  CONTRACTS: the verdicts of all assertions.
  THE LAWS VerifyProofs, VerifyTheorems return true.
-/
import Derived.Test.YtneapgbkkkjagaaGreatDoorQAE
set_option maxHeartbeats 8000000
set_option maxRecDepth 100000
namespace Go.Proofs.YtneapgbkkkjagaaGreatDoor
open Go.Proofs.Tryz (prog)
open Go.RowKit
theorem Zit:Zdf prog 59 [.string ⟨#[]⟩,.bool false,.slice none 0 0,.slice none 0 0,.slice none 0 0,.slice none 0 0,.slice none 0 0,.slice none 0 0]:=⟨fun i=>(#[(0,1),(1,1),(2,1),(3,1),(4,1),(5,1),(6,1),(7,1)]:Array (Nat×Nat))[i]?,fun j hj=>by rcases j with _ | _ | _ | _ | _ | _ | _ | _ | j<;>first | rfl | (simp at hj;omega),fun parts=>by kernel_rfl⟩
theorem Za5:ZpX prog 66:=fun ad k c p q=>by kernel_rfl
theorem Zt1:prog.underlying 3=some (.int .i64):=by kernel_rfl
theorem Zt2:prog.underlying 30=some (.int .i64):=by kernel_rfl
theorem ZmJ:(prog.fieldsOf 32).toList=[{ name:= "Code",type:=30,offset:=0,embedded:=false,tag:= "",pkgPath:= "",byteOffset:=0 }, { name:= "Step",type:=3,offset:=1,embedded:=false,tag:= "",pkgPath:= "",byteOffset:=8 }]:=by kernel_rfl
theorem ZmI:prog.underlying 32=some (.struct (prog.fieldsOf 32)):=by kernel_rfl
theorem Zhq (c:Array Value) (i:Nat) (v:Value) (h:c[i]?=some v) (w:World):(part 3 c i).run prog w= .ok v w:=by
 simp[part,Tryz.isAgg3,h]
theorem Zhr (c:Array Value) (i:Nat) (v:Value) (h:c[i]?=some v) (w:World):(part 30 c i).run prog w= .ok v w:=by
 simp[part,Tryz.isAgg30,h]
theorem eqVd:EqVd prog 32:=by
 intro a b c d w x y
 refine⟨by simp[eqGuard],by simp[eqGuard],?_⟩
 unfold Op.equal Op.maxDepth
 rw[run_equalIn_struct w 9999 32 _ _ ZmI (by kernel_rfl),ZmJ]
 have e1:=fun(c:Array Value) (v:Value) (i:Nat) (h:c[i]?=some v)=>Zhr c i v h
 have e2:=fun(c:Array Value) (v:Value) (i:Nat) (h:c[i]?=some v)=>Zhq c i v h
 have q1:(Op.equalIn 9999 30 (.int .i64 a) (.int .i64 c)).run prog w= .ok (decide (a=c)) w:=run_equalIn_int w 9998 30 .i64 .i64 a c Zt2
 have q2:(Op.equalIn 9999 3 (.int .i64 b) (.int .i64 d)).run prog w= .ok (decide (b=d)) w:=run_equalIn_int w 9998 3 .i64 .i64 b d Zt1
 simp only[Op.eqFields]
 rw[if_pos (by decide),if_pos (by decide)]
 simp only[Sem.run_bind]
 rw[e1 _ (.int .i64 a) 0 rfl w,Result.andThen_ok,e1 _ (.int .i64 c) 0 rfl w,Result.andThen_ok,q1,Result.andThen_ok]
 by_cases h1:a=c
 · simp only[h1,decide_true,Bool.not_true,Bool.false_eq_true,if_false,Sem.run_bind]
   rw[e2 _ (.int .i64 b) 1 rfl w,Result.andThen_ok,e2 _ (.int .i64 d) 1 rfl w,Result.andThen_ok,q2,Result.andThen_ok]
   by_cases h2:b=d
   · simp[h2,Sem.run_pure]
   · simp[h2,Sem.run_pure]
 · simp[h1,Sem.run_pure]
theorem Zhj {J:World→Prop} (hJ:Stab J) (h0:Hy)  :Fn prog J 28 [.agg (hyC h0)] (.bool (Zjd h0)):=by
 refine Zo (N:=7) Tryz.func28 rfl rfl (lb rfl) fun S w0 hS hJ0=>?_
 clear hJ0
 refine hqs tb hJ [1000] [.ptr (hyC h0),_] [0] [_] rfl ⟨fun _ _ hk hx hl _=>Yq rfl (hl.env 0 0 _ rfl rfl) (hS _ hk.size) (js hJ hx),trivial⟩ ?_
 refine hqs tb hJ [1001,1004] [_,_,.int (h0.text.length:Nat),_,_] [2] [_,_] rfl ⟨Z2 Zm,trivial⟩ ?_
 refine ln 0 fun hl1=>?_
 exact Ze (rtn (m:=1) rfl rfl (eB (rfl)))
theorem ZmH {J:World→Prop} (hJ:Stab J) (s:BA)  :Fn prog J 30 [.str s] (.bool (Zm5 s)):=by
 refine Zo (N:=6) Tryz.func30 rfl rfl (lb rfl) fun S w0 hS hJ0=>?_
 clear hJ0
 refine qs tb hJ [0] [_] [_] ?_
 refine hqs tb hJ [1003] [_,.int (s.size:Nat),_,_] [1] [_] rfl ⟨Zmv ZX,trivial⟩ ?_
 exact Ze (rtn (m:=0) rfl rfl (eB (rfl)))
theorem Zp9 {J:World→Prop} (hJ:Stab J) (f:Fr) (m:Int)  :Fn prog J 27 [.agg (frC f),.ptr [lI m]] (.bool (Zl5 m f)):=by
 refine Zo (N:=57) Tryz.func27 rfl rfl (lb rfl) fun S w0 hS hJ0=>?_
 clear hJ0
 refine hqs tb hJ [1,1000] [.ptr (frC f),_] [0] [_,_] rfl ⟨fun _ _ hk hx hl _=>Yq rfl (hl.env 0 0 _ rfl rfl) (hS _ hk.size) (js hJ hx),trivial⟩ ?_
 refine qs tb hJ [0,1,1000] [_] U3 ?_
 refine hqs tb hJ [1001,1052] [_,_,.int (f.proof.length:Nat),_,_,_,_,_,.int (f.text.length:Nat),_,_,_,_,_,.int (f.hyps.length:Nat),_,_,_,_,_,.int (f.dummies.length:Nat),_,_,_,_,_,.int (f.apart.length:Nat),_,_,_,_,_,.int (f.wide.length:Nat),_,_,_,_,_,_,.bool (f.hyps.any Zjd),_,_,_,_,_,.bool (f.dummies.any Zjd),_,_,_,_,.bool (f.proof.any Zm5),_,_] [2,8,14,20,26,32,39,45,50] [_,_] rfl ⟨Z2 Zm,Z2 Zm,Z2 Zx,Z2 Zx,Z2 ZL,Z2 ZL,fun _ _ hk hx hl hc=>Xq (Qm hJ f.hyps 28 [] [] Zjd (fun q'=>(Zhj hJ q').rr) (Zpv)) ZgZ rfl (nm hS hk) (hx) Zy (Za (hl.D 37 42 rfl hc) (Za (hl.D 38 43 rfl hc) Zh)) (js hJ hx),fun _ _ hk hx hl hc=>Xq (Qm hJ f.dummies 28 [] [] Zjd (fun q'=>(Zhj hJ q').rr) (Zpv)) ZgZ rfl (nm hS hk) (hx) Zy (Za (hl.D 43 48 rfl hc) (Za (hl.D 44 49 rfl hc) Zh)) (js hJ hx),fun _ _ hk hx hl hc=>Xq (YY hJ f.proof 30 [] [] Zm5 (fun q'=>(ZmH hJ q').rr) (Zv6)) Ze6 rfl (nm hS hk) (hx) Zy (Za (hl.D 49 54 rfl hc) (Za (ZaC 30) Zh)) (js hJ hx),trivial⟩ ?_
 refine ln 0 fun hl1=>?_
 exact Ze (rtn (m:=1) rfl rfl (eB (rfl)))
theorem ZtT {J:World→Prop} (hJ:Stab J) (d:Db) (n:Int) (m:Int)  :Fn prog J 6 [.agg (dbC d),.int n,.int m] (.bool (Zeq d n m)):=by
 refine Zo (N:=31) Tryz.func6 rfl rfl (lb rfl) fun S w0 hS hJ0=>?_
 clear hJ0
 refine hqs tb hJ [1,1000,1001] [.ptr (dbC d),.ptr [lI m],_] [0,1] U3 rfl ⟨fun _ _ hk hx hl _=>Yq rfl (hl.env 0 0 _ rfl rfl) (hS _ hk.size) (js hJ hx),fun _ _ hk hx hl _=>Zcl rfl (hl.env 2 2 _ rfl rfl) (hS _ hk.size) (js hJ hx),trivial⟩ ?_
 refine hqs tb hJ [1001,1024] [_,_,.int (d.frames.length:Nat),_,_,_,_,_,.int (d.consts.length:Nat),_,_,_,_,_,.int (d.vars.length:Nat),_,_,_,_,_,.fn 27 [.ptr [lI m]],.bool (d.frames.any (Zl5 m)),_,_,_] [2,8,14,20,21] [_,_] rfl ⟨Z2 Xv,Z2 Zm,Z2 Zm,fun _ _ _ hx hl _=>XR (caps:=[(.tmp 5)]) rfl (Za (hl.env 2 5 _ rfl rfl) Zh) hx,fun _ _ hk hx hl hc=>Xq (Zex hJ d.frames 27 [.ptr [lI m]] [] (Zl5 m) (fun q'=>(Zp9 hJ q' m).rr) (Zv7)) Zv8 rfl (nm hS hk) (hx) Zy (Za (hl.D 19 26 rfl hc) (Za (hl.D 20 27 rfl hc) Zh)) (js hJ hx),trivial⟩ ?_
 refine ln 0 fun hl1=>?_
 exact Ze (rtn (m:=1) rfl rfl (eB (rfl)))
theorem Zp8 {J:World→Prop} (hJ:Stab J) (p:List BA)  :Fn prog J 32 [.rd (Zg p)] (.agg (dbC (Y2 p))):=by
 refine Zo (N:=26) Tryz.func32 rfl rfl (lb rfl) fun S w0 hS hJ0=>?_
 refine tw Z1 ?_
 refine ln 0 fun hl1=>?_
 refine tsq ?_
 refine Z4 ZiI hJ rfl rfl rfl (lb rfl) fun b1=>?_
 refine seK [0,1] [_,_] rfl ?_
 refine nx (tsq ?_)
 refine sq (.rd (Zg ([Zws,phT]:List BA))) rfl rfl (lb rfl) (fun a _ h=>XB (k:=2) (us:=[a.eval (.const (.string { data:= #[119,102,102] })),a.eval (.const (.string { data:= #[112,104] }))]) Zd XX rfl (by simp) (Zk (Rel.of_lit (.string { data:= #[119,102,102] }) (lb rfl)) (Zk (Rel.of_lit (.string { data:= #[112,104] }) (lb rfl)) ZJ)) rfl (by decide) (by decide) (Zp hS _ h.keep h.x _ (Nat.le_refl _)) (jo hJ h.x)) ?_
 refine sq (.agg (hyC (ZiS))) rfl rfl (lb rfl) (fun a _ h=>Xr (us:=[a.eval (.const (.string { data:= #[119,112,104] })),a.eval (.const (.bool true)),a.eval (.tmp 6)]) Zf4 rfl (by simp) (Zk (Rel.of_lit (.string { data:= #[119,112,104] }) (lb rfl)) (Zk (Rel.of_lit (.bool true)) (Zk (h.get 0 rfl) ZJ))) rfl h.x) ?_
 refine sq (.rd (Zg ([Zws,psT]:List BA))) rfl rfl (lb rfl) (fun a _ h=>XB (k:=2) (us:=[a.eval (.const (.string { data:= #[119,102,102] })),a.eval (.const (.string { data:= #[112,115] }))]) Zd XX rfl (by simp) (Zk (Rel.of_lit (.string { data:= #[119,102,102] }) (lb rfl)) (Zk (Rel.of_lit (.string { data:= #[112,115] }) (lb rfl)) ZJ)) rfl (by decide) (by decide) (Zp hS _ h.keep h.x _ (Nat.le_refl _)) (jo hJ h.x)) ?_
 refine sq (.agg (hyC (ZiR))) rfl rfl (lb rfl) (fun a _ h=>Xr (us:=[a.eval (.const (.string { data:= #[119,112,115] })),a.eval (.const (.bool true)),a.eval (.tmp 8)]) Zf4 rfl (by simp) (Zk (Rel.of_lit (.string { data:= #[119,112,115] }) (lb rfl)) (Zk (Rel.of_lit (.bool true)) (Zk (h.get 0 rfl) ZJ))) rfl h.x) ?_
 refine Z4 YJ hJ rfl rfl rfl (lb rfl) fun b2=>?_
 refine Z4 YJ hJ rfl rfl rfl (lb rfl) fun b3=>?_
 refine kw pm1 ?_
 refine ZD (b:=b2) (off:=0) (es:=U3) (news:=U3) hJ hJ0 YL rfl rfl rfl (lb rfl) rfl (fun a w h=>⟨(h.get 1 rfl),(h.get 4 rfl)⟩) ?_
 refine kw pm1 ?_
 refine ZD (b:=b3) (off:=0) (es:=U3) (news:=U3) hJ hJ0 YL rfl rfl rfl (lb rfl) rfl (fun a w h=>⟨(h.get 0 rfl),(h.get 2 rfl)⟩) ?_
 refine seK [0,1,3,5,6,7] U6 rfl ?_
 refine nx (ln 2 fun hl2=>?_)
 refine ln 3 fun hl3=>?_
 refine ZG tb hJ [0,1,4,5,1000,1001] [.rd (Zg (smTx)),_] [0] U6 rfl ⟨fun a _ hk hx _ _=>XB (k:=10) (us:=[a.eval (.const (.string { data:= #[124,45] })),a.eval (.const (.string { data:= #[40] })),a.eval (.const (.string { data:= #[112,104] })),a.eval (.const (.string { data:= #[45,62] })),a.eval (.const (.string { data:= #[40] })),a.eval (.const (.string { data:= #[112,115] })),a.eval (.const (.string { data:= #[45,62] })),a.eval (.const (.string { data:= #[112,104] })),a.eval (.const (.string { data:= #[41] })),a.eval (.const (.string { data:= #[41] }))]) Zd XX rfl (by simp) (Zk (Rel.of_lit (.string { data:= #[124,45] }) (lb rfl)) (Zk (Rel.of_lit (.string { data:= #[40] }) (lb rfl)) (Zk (Rel.of_lit (.string { data:= #[112,104] }) (lb rfl)) (Zk (Rel.of_lit (.string { data:= #[45,62] }) (lb rfl)) (Zk (Rel.of_lit (.string { data:= #[40] }) (lb rfl)) (Zk (Rel.of_lit (.string { data:= #[112,115] }) (lb rfl)) (Zk (Rel.of_lit (.string { data:= #[45,62] }) (lb rfl)) (Zk (Rel.of_lit (.string { data:= #[112,104] }) (lb rfl)) (Zk (Rel.of_lit (.string { data:= #[41] }) (lb rfl)) (Zk (Rel.of_lit (.string { data:= #[41] }) (lb rfl)) ZJ)))))))))) rfl (by decide) (by decide) (Zp hS _ hk hx _ (Nat.le_refl _)) (jo hJ hx),trivial⟩ ?_
 refine ln 4 fun hl4=>?_
 refine tsq ?_
 refine sq (.rd (Zg ([Zws,tuT,opT,clT,arT]:List BA))) rfl rfl (lb rfl) (fun a _ h=>XB (k:=5) (us:=[a.eval (.const (.string { data:= #[119,102,102] })),a.eval (.const (.string { data:= #[124,45] })),a.eval (.const (.string { data:= #[40] })),a.eval (.const (.string { data:= #[41] })),a.eval (.const (.string { data:= #[45,62] }))]) Zd XX rfl (by simp) (Zk (Rel.of_lit (.string { data:= #[119,102,102] }) (lb rfl)) (Zk (Rel.of_lit (.string { data:= #[124,45] }) (lb rfl)) (Zk (Rel.of_lit (.string { data:= #[40] }) (lb rfl)) (Zk (Rel.of_lit (.string { data:= #[41] }) (lb rfl)) (Zk (Rel.of_lit (.string { data:= #[45,62] }) (lb rfl)) ZJ))))) rfl (by decide) (by decide) (Zp hS _ h.keep h.x _ (Nat.le_refl _)) (jo hJ h.x)) ?_
 refine sq (.rd (Zg ([phT,psT]:List BA))) rfl rfl (lb rfl) (fun a _ h=>XB (k:=2) (us:=[a.eval (.const (.string { data:= #[112,104] })),a.eval (.const (.string { data:= #[112,115] }))]) Zd XX rfl (by simp) (Zk (Rel.of_lit (.string { data:= #[112,104] }) (lb rfl)) (Zk (Rel.of_lit (.string { data:= #[112,115] }) (lb rfl)) ZJ)) rfl (by decide) (by decide) (Zp hS _ h.keep h.x _ (Nat.le_refl _)) (jo hJ h.x)) ?_
 refine sy (.agg (hyC (ZiS))) (fun h=>YP (ds:=[lS ((ZiS).label),lB ((ZiS).floating),Zg ((ZiS).text)]) XU rfl (Zi h.x (mo 1 rfl)) (h.get 3 rfl) rfl rfl h.x) ?_
 refine sy (.agg (hyC (ZiR))) (fun h=>YP (ds:=[lS ((ZiR).label),lB ((ZiR).floating),Zg ((ZiR).text)]) XU rfl (Zi h.x (mo 0 rfl)) (h.get 3 rfl) rfl rfl h.x) ?_
 refine sq (.rd (Xm ([ZiS,ZiR]))) rfl rfl (lb rfl) (fun a _ h=>Zke (z:= #[.string ⟨#[]⟩,.bool false,.slice none 0 0]) (cs:=[hyC (ZiS),hyC (ZiR)]) (vs:=[a.eval (.tmp 13),a.eval (.tmp 14)]) Zq (fun w=>by kernel_rfl) rfl (by simp) (Za (h.get 1 rfl) (Za (h.get 0 rfl) Zh)) (of_decide_eq_true rfl) rfl (by decide) (by decide) (by decide) (Zp hS _ h.keep h.x _ (Nat.le_refl _)) (jo hJ h.x)) ?_
 refine snK 1 tb rfl ?_
 refine sq (.agg (frC (Zwu))) rfl rfl (lb rfl) (fun a _ h=>Yh (ps:=[(0,a.eval (.const (.string { data:= #[97,120,45,49] }))),(2,a.eval (.tmp 15)),(4,a.eval (.tmp 16))]) (us:=[a.eval (.const (.string { data:= #[97,120,45,49] })),.bool false,a.eval (.tmp 15),.slice none 0 0,a.eval (.tmp 16),.slice none 0 0,.slice none 0 0,.slice none 0 0]) Zit rfl (by simp) (Zcy (lb rfl) rfl (Zcy (lb rfl) (Rel.oneC (h.get 1 rfl)) (Zcy (lb rfl) (Rel.oneC (h.get 0 rfl)) Zdd))) rfl (Zk (Rel.of_lit (.string { data:= #[97,120,45,49] }) (lb rfl)) (YB (.lit _ True.intro) (Zk (h.get 1 rfl) (YB (.nil _ _ (Nat.zero_le _)) (Zk (h.get 0 rfl) (YB (.nil _ _ (Nat.zero_le _)) (YB (.nil _ _ (Nat.zero_le _)) (YB (.nil _ _ (Nat.zero_le _)) ZJ)))))))) h.x) ?_
 refine sy (.agg (hyC (ZiS))) (fun h=>YP (ds:=[lS ((ZiS).label),lB ((ZiS).floating),Zg ((ZiS).text)]) XU rfl (Zi h.x (mo 1 rfl)) (h.get 8 rfl) rfl rfl h.x) ?_
 refine sy (.agg (hyC (ZiR))) (fun h=>YP (ds:=[lS ((ZiR).label),lB ((ZiR).floating),Zg ((ZiR).text)]) XU rfl (Zi h.x (mo 0 rfl)) (h.get 8 rfl) rfl rfl h.x) ?_
 refine sq (.rd (Xm ([ZiS,ZiR]))) rfl rfl (lb rfl) (fun a _ h=>Zke (z:= #[.string ⟨#[]⟩,.bool false,.slice none 0 0]) (cs:=[hyC (ZiS),hyC (ZiR)]) (vs:=[a.eval (.tmp 18),a.eval (.tmp 19)]) Zq (fun w=>by kernel_rfl) rfl (by simp) (Za (h.get 1 rfl) (Za (h.get 0 rfl) Zh)) (of_decide_eq_true rfl) rfl (by decide) (by decide) (by decide) (Zp hS _ h.keep h.x _ (Nat.le_refl _)) (jo hJ h.x)) ?_
 refine snK 2 tb rfl ?_
 refine sq (.agg (frC (Zwt p))) rfl rfl (lb rfl) (fun a _ h=>Yh (ps:=[(0,a.eval (.const (.string { data:= #[116,104] }))),(1,a.eval (.const (.bool true))),(2,a.eval (.tmp 20)),(4,a.eval (.tmp 21)),(7,a.eval (.tmp 22))]) (us:=[a.eval (.const (.string { data:= #[116,104] })),a.eval (.const (.bool true)),a.eval (.tmp 20),.slice none 0 0,a.eval (.tmp 21),.slice none 0 0,.slice none 0 0,a.eval (.tmp 22)]) Zit rfl (by simp) (Zcy (lb rfl) rfl (Zcy (lb rfl) rfl (Zcy (lb rfl) (Rel.oneC (h.get 2 rfl)) (Zcy (lb rfl) (Rel.oneC (h.get 1 rfl)) (Zcy (lb rfl) (Rel.oneC (h.get 0 rfl)) Zdd))))) rfl (Zk (Rel.of_lit (.string { data:= #[116,104] }) (lb rfl)) (Zk (Rel.of_lit (.bool true)) (Zk (h.get 2 rfl) (YB (.nil _ _ (Nat.zero_le _)) (Zk (h.get 1 rfl) (YB (.nil _ _ (Nat.zero_le _)) (YB (.nil _ _ (Nat.zero_le _)) (Zk (h.get 0 rfl) ZJ)))))))) h.x) ?_
 refine sq (.rd (ZfP ([Zwu,(Zwt p)]))) rfl rfl (lb rfl) (fun a _ h=>Zke (z:= #[.string ⟨#[]⟩,.bool false,.slice none 0 0,.slice none 0 0,.slice none 0 0,.slice none 0 0,.slice none 0 0,.slice none 0 0]) (cs:=[frC (Zwu),frC (Zwt p)]) (vs:=[a.eval (.tmp 17),a.eval (.tmp 23)]) ZS (fun w=>by kernel_rfl) rfl (by simp) (Za (h.get 6 rfl) (Za (h.get 0 rfl) Zh)) (of_decide_eq_true rfl) rfl (by decide) (by decide) (by decide) (Zp hS _ h.keep h.x _ (Nat.le_refl _)) (jo hJ h.x)) ?_
 refine sq (.agg (dbC (Y2 p))) rfl rfl (lb rfl) (fun a _ h=>Xr (us:=[a.eval (.tmp 11),a.eval (.tmp 12),a.eval (.tmp 24)]) Zmr rfl (by simp) (Zk (h.get 13 rfl) (Zk (h.get 12 rfl) (Zk (h.get 0 rfl) ZJ))) rfl h.x) ?_
 refine kw pm2 ?_
 refine ZD (b:=b1) (off:=0) (es:=U3) (news:=U3) hJ hJ0 Znf rfl rfl rfl (lb rfl) rfl (fun a w h=>⟨(h.get 17 rfl),(h.get 0 rfl)⟩) ?_
 refine seK [1,5,10,13,14,17] U6 rfl ?_
 refine nx (ln 0 fun hl5=>?_)
 refine ln 1 fun hl6=>?_
 refine ln 3 fun hl7=>?_
 refine ln 4 fun hl8=>?_
 exact Ze (fun a w h=>X3 (m:=5) rfl Zee h rfl rfl (show(_:List CD)=[Zg ((Y2 p).consts),Zg ((Y2 p).vars),ZfP ((Y2 p).frames)]from rfl))
theorem ZmG {J:World→Prop} (hJ:Stab J)  (hG:ZaN J):Fn prog J 9 [] (.bool true):=by
 refine Zo (N:=42) Tryz.func9 rfl rfl (lb rfl) fun S w0 hS hJ0=>?_
 refine tw Z1 ?_
 refine qso tb hJ [] [_] [] ?_
 refine Zf (Zf (Yu tb hJ [1000,1003,1006,1009,1012,1015,1016,1017] [.rd (Zg ([Zdg,Zge,Zbu]:List BA)),.agg (vdC (⟨0,0⟩:Int×Int)),.agg (exC (⟨([Zdg,Zge,Zbu]:List BA),(⟨0,0⟩:Int×Int)⟩:Exm)),.rd (Zg ([Zdg,Zbu]:List BA)),.agg (vdC (⟨(23:Int),(1:Int)⟩:Int×Int)),.agg (exC (⟨([Zdg,Zbu]:List BA),(⟨(23:Int),(1:Int)⟩:Int×Int)⟩:Exm)),.rd (Zg ([opT,Zbu,clT,(⟨#[65,66,67]⟩:BA)]:List BA)),.agg (vdC (⟨0,0⟩:Int×Int)),.agg (exC (⟨([opT,Zbu,clT,(⟨#[65,66,67]⟩:BA)]:List BA),(⟨0,0⟩:Int×Int)⟩:Exm)),.rd (Zg ([opT,clT,(⟨#[65,66,68]⟩:BA)]:List BA)),.agg (vdC (⟨(21:Int),0⟩:Int×Int)),.agg (exC (⟨([opT,clT,(⟨#[65,66,68]⟩:BA)]:List BA),(⟨(21:Int),0⟩:Int×Int)⟩:Exm)),.rd (Zg ([Zge,Zdg,Zbu]:List BA)),.agg (vdC (⟨(28:Int),(3:Int)⟩:Int×Int)),.agg (exC (⟨([Zge,Zdg,Zbu]:List BA),(⟨(28:Int),(3:Int)⟩:Int×Int)⟩:Exm)),.rd (exsC ([(⟨([Zdg,Zge,Zbu]:List BA),(⟨0,0⟩:Int×Int)⟩:Exm),(⟨([Zdg,Zbu]:List BA),(⟨(23:Int),(1:Int)⟩:Int×Int)⟩:Exm),(⟨([opT,Zbu,clT,(⟨#[65,66,67]⟩:BA)]:List BA),(⟨0,0⟩:Int×Int)⟩:Exm),(⟨([opT,clT,(⟨#[65,66,68]⟩:BA)]:List BA),(⟨(21:Int),0⟩:Int×Int)⟩:Exm),(⟨([Zge,Zdg,Zbu]:List BA),(⟨(28:Int),(3:Int)⟩:Int×Int)⟩:Exm)])),.int (([(⟨([Zdg,Zge,Zbu]:List BA),(⟨0,0⟩:Int×Int)⟩:Exm),(⟨([Zdg,Zbu]:List BA),(⟨(23:Int),(1:Int)⟩:Int×Int)⟩:Exm),(⟨([opT,Zbu,clT,(⟨#[65,66,67]⟩:BA)]:List BA),(⟨0,0⟩:Int×Int)⟩:Exm),(⟨([opT,clT,(⟨#[65,66,68]⟩:BA)]:List BA),(⟨(21:Int),0⟩:Int×Int)⟩:Exm),(⟨([Zge,Zdg,Zbu]:List BA),(⟨(28:Int),(3:Int)⟩:Int×Int)⟩:Exm)]).length:Nat),_] [0,1,2,3,4,5,6,7,8,9,10,11,12,13,14,15,16] U8 rfl ⟨fun a _ hk hx _ _=>XB (k:=3) (us:=[a.eval (.const (.string { data:= #[119,112,104] })),a.eval (.const (.string { data:= #[119,112,115] })),a.eval (.const (.string { data:= #[97,120,45,49] }))]) Zd XX rfl (by simp) (Zk (Rel.of_lit (.string { data:= #[119,112,104] }) (lb rfl)) (Zk (Rel.of_lit (.string { data:= #[119,112,115] }) (lb rfl)) (Zk (Rel.of_lit (.string { data:= #[97,120,45,49] }) (lb rfl)) ZJ))) rfl (by decide) (by decide) (Zp hS _ hk hx _ (Nat.le_refl _)) (jo hJ hx),fun _ _ _ hx _ _=>Yh (ps:=[]) (us:=[.int .i64 0,.int .i64 0]) QX rfl (by simp) Zdd rfl (YB (.lit _ True.intro) (YB (.lit _ True.intro) ZJ)) hx,fun _ _ _ hx hl _=>ZbH (xs:=([Zdg,Zge,Zbu]:List BA)) Za5 rfl (hl.D 0 5 rfl rfl) (hl.D 1 6 rfl rfl) hx,fun a _ hk hx _ _=>XB (k:=2) (us:=[a.eval (.const (.string { data:= #[119,112,104] })),a.eval (.const (.string { data:= #[97,120,45,49] }))]) Zd XX rfl (by simp) (Zk (Rel.of_lit (.string { data:= #[119,112,104] }) (lb rfl)) (Zk (Rel.of_lit (.string { data:= #[97,120,45,49] }) (lb rfl)) ZJ)) rfl (by decide) (by decide) (Zp hS _ hk hx _ (Nat.le_refl _)) (jo hJ hx),fun a _ _ hx _ _=>Xr (us:=[a.eval (.const (.int .i64 23)),a.eval (.const (.int .i64 1))]) Zaj rfl (by simp) (Zk (Rel.of_lit (.int .i64 23)) (Zk (Rel.of_lit (.int .i64 1)) ZJ)) rfl hx,fun _ _ _ hx hl _=>ZbH (xs:=([Zdg,Zbu]:List BA)) Za5 rfl (hl.D 3 8 rfl rfl) (hl.D 4 9 rfl rfl) hx,fun a _ hk hx _ _=>XB (k:=4) (us:=[a.eval (.const (.string { data:= #[40] })),a.eval (.const (.string { data:= #[97,120,45,49] })),a.eval (.const (.string { data:= #[41] })),a.eval (.const (.string { data:= #[65,66,67] }))]) Zd XX rfl (by simp) (Zk (Rel.of_lit (.string { data:= #[40] }) (lb rfl)) (Zk (Rel.of_lit (.string { data:= #[97,120,45,49] }) (lb rfl)) (Zk (Rel.of_lit (.string { data:= #[41] }) (lb rfl)) (Zk (Rel.of_lit (.string { data:= #[65,66,67] }) (lb rfl)) ZJ)))) rfl (by decide) (by decide) (Zp hS _ hk hx _ (Nat.le_refl _)) (jo hJ hx),fun _ _ _ hx _ _=>Yh (ps:=[]) (us:=[.int .i64 0,.int .i64 0]) QX rfl (by simp) Zdd rfl (YB (.lit _ True.intro) (YB (.lit _ True.intro) ZJ)) hx,fun _ _ _ hx hl _=>ZbH (xs:=([opT,Zbu,clT,(⟨#[65,66,67]⟩:BA)]:List BA)) Za5 rfl (hl.D 6 11 rfl rfl) (hl.D 7 12 rfl rfl) hx,fun a _ hk hx _ _=>XB (k:=3) (us:=[a.eval (.const (.string { data:= #[40] })),a.eval (.const (.string { data:= #[41] })),a.eval (.const (.string { data:= #[65,66,68] }))]) Zd XX rfl (by simp) (Zk (Rel.of_lit (.string { data:= #[40] }) (lb rfl)) (Zk (Rel.of_lit (.string { data:= #[41] }) (lb rfl)) (Zk (Rel.of_lit (.string { data:= #[65,66,68] }) (lb rfl)) ZJ))) rfl (by decide) (by decide) (Zp hS _ hk hx _ (Nat.le_refl _)) (jo hJ hx),fun a _ _ hx _ _=>Yh (ps:=[(0,a.eval (.const (.int .i64 21)))]) (us:=[a.eval (.const (.int .i64 21)),.int .i64 0]) QX rfl (by simp) (Zcy (lb rfl) rfl Zdd) rfl (Zk (Rel.of_lit (.int .i64 21)) (YB (.lit _ True.intro) ZJ)) hx,fun _ _ _ hx hl _=>ZbH (xs:=([opT,clT,(⟨#[65,66,68]⟩:BA)]:List BA)) Za5 rfl (hl.D 9 14 rfl rfl) (hl.D 10 15 rfl rfl) hx,fun a _ hk hx _ _=>XB (k:=3) (us:=[a.eval (.const (.string { data:= #[119,112,115] })),a.eval (.const (.string { data:= #[119,112,104] })),a.eval (.const (.string { data:= #[97,120,45,49] }))]) Zd XX rfl (by simp) (Zk (Rel.of_lit (.string { data:= #[119,112,115] }) (lb rfl)) (Zk (Rel.of_lit (.string { data:= #[119,112,104] }) (lb rfl)) (Zk (Rel.of_lit (.string { data:= #[97,120,45,49] }) (lb rfl)) ZJ))) rfl (by decide) (by decide) (Zp hS _ hk hx _ (Nat.le_refl _)) (jo hJ hx),fun a _ _ hx _ _=>Xr (us:=[a.eval (.const (.int .i64 28)),a.eval (.const (.int .i64 3))]) Zaj rfl (by simp) (Zk (Rel.of_lit (.int .i64 28)) (Zk (Rel.of_lit (.int .i64 3)) ZJ)) rfl hx,fun _ _ _ hx hl _=>ZbH (xs:=([Zge,Zdg,Zbu]:List BA)) Za5 rfl (hl.D 12 17 rfl rfl) (hl.D 13 18 rfl rfl) hx,fun a w hk hx hl _=>Zke (z:= #[.slice none 0 0,.int .i64 0,.int .i64 0]) (cs:=[exC (⟨([Zdg,Zge,Zbu]:List BA),(⟨0,0⟩:Int×Int)⟩:Exm),exC (⟨([Zdg,Zbu]:List BA),(⟨(23:Int),(1:Int)⟩:Int×Int)⟩:Exm),exC (⟨([opT,Zbu,clT,(⟨#[65,66,67]⟩:BA)]:List BA),(⟨0,0⟩:Int×Int)⟩:Exm),exC (⟨([opT,clT,(⟨#[65,66,68]⟩:BA)]:List BA),(⟨(21:Int),0⟩:Int×Int)⟩:Exm),exC (⟨([Zge,Zdg,Zbu]:List BA),(⟨(28:Int),(3:Int)⟩:Int×Int)⟩:Exm)]) (vs:=[a.eval (.tmp 7),a.eval (.tmp 10),a.eval (.tmp 13),a.eval (.tmp 16),a.eval (.tmp 19)]) ZdO (fun w=>by kernel_rfl) rfl (by simp) (Za (hl.D 2 7 rfl rfl) (Za (hl.D 5 10 rfl rfl) (Za (hl.D 8 13 rfl rfl) (Za (hl.D 11 16 rfl rfl) (Za (hl.D 14 19 rfl rfl) Zh))))) (of_decide_eq_true rfl) rfl (by decide) (by decide) (by decide) (Zp hS _ hk hx _ (Nat.le_refl _)) (jo hJ hx),Z2 Zlm,trivial⟩ ?_))
 refine kw (sa 5 rfl (show(.rd (exsC ([(⟨([Zdg,Zge,Zbu]:List BA),(⟨0,0⟩:Int×Int)⟩:Exm),(⟨([Zdg,Zbu]:List BA),(⟨(23:Int),(1:Int)⟩:Int×Int)⟩:Exm),(⟨([opT,Zbu,clT,(⟨#[65,66,67]⟩:BA)]:List BA),(⟨0,0⟩:Int×Int)⟩:Exm),(⟨([opT,clT,(⟨#[65,66,68]⟩:BA)]:List BA),(⟨(21:Int),0⟩:Int×Int)⟩:Exm),(⟨([Zge,Zdg,Zbu]:List BA),(⟨(28:Int),(3:Int)⟩:Int×Int)⟩:Exm)])):AV)= .rd (exsC exsD)from rfl)) ?_
 refine kw (sa 6 rfl (show(.int (([(⟨([Zdg,Zge,Zbu]:List BA),(⟨0,0⟩:Int×Int)⟩:Exm),(⟨([Zdg,Zbu]:List BA),(⟨(23:Int),(1:Int)⟩:Int×Int)⟩:Exm),(⟨([opT,Zbu,clT,(⟨#[65,66,67]⟩:BA)]:List BA),(⟨0,0⟩:Int×Int)⟩:Exm),(⟨([opT,clT,(⟨#[65,66,68]⟩:BA)]:List BA),(⟨(21:Int),0⟩:Int×Int)⟩:Exm),(⟨([Zge,Zdg,Zbu]:List BA),(⟨(28:Int),(3:Int)⟩:Int×Int)⟩:Exm)]).length:Nat):AV)= .int (exsD.length:Nat)from rfl)) ?_
 refine nx (ln 0 fun hl1=>?_)
 refine ln 1 fun hl2=>?_
 refine ln 2 fun hl3=>?_
 refine ln 3 fun hl4=>?_
 refine ln 4 fun hl5=>?_
 refine ln 5 fun hl6=>?_
 refine Zc (lpo (ι:=Nat) (fun k=>(k≤exsD.length)) (fun _=>[]) (fun k=>[(22,.int (k:Nat))]) (fun k=>exsD.length-k) [5,6,7] [_,_] 0 (show(0≤exsD.length)from Nat.zero_le _) ?_)
 rintro k hF
 have f1_1:k≤exsD.length:=hF
 refine qso tb hJ [0,1,2,1000] [_] U4 ?_
 refine cjS 3 (fun hb1=>?_) fun hb1=>?_
 try simp at hb1
 refine Zb (nx (Zf (Zc (tsq ?_))))
 refine sy (.ptr (exC (ge exsD k))) (fun h=>ZO (i:=(k:Int)) ZdO rfl (h.get 0 rfl) (h.get 2 rfl) (Int.natCast_nonneg _) (ZU (xs:=exsD) (k:=k) sfz) rfl h.x) ?_
 refine sy (.agg (exC (ge exsD k))) (fun h=>Zao Zs1 rfl (h.get 0 rfl) (Nat.le_refl _) h.x) ?_
 refine XZ (cs:=exC (ge exsD k)) Zqa rfl rfl rfl (lb rfl) rfl rfl rfl (by decide) (m:=0) rfl rfl (fun a w h=>Zp hS _ h.keep h.x _ (Nat.le_refl _)) (fun a w h w' hk'=>Yz hJ _ _ hk' h.x) ?_
 refine seK [0,3,4,5] U4 rfl ?_
 refine nx (tsq ?_)
 refine sy (.ptr (exC (ge exsD k))) (fun h=>ZQ Zmd rfl (h.get 0 rfl) h.x) ?_
 refine snK 1 tb rfl ?_
 refine sy (.agg (dbC (Y2 ((ge exsD k).proof)))) (fun h=>Zbw (Zp8 hJ ((ge exsD k).proof)) Zv4 rfl (Zp hS _ h.keep h.x) (h.x.1) (Za (h.get 0 rfl) Zh) (jo hJ h.x)) ?_
 refine sy (.tup [.agg (vdC ((XF (Y2 ((ge exsD k).proof)) (1:Int)).1)),.int ((XF (Y2 ((ge exsD k).proof)) (1:Int)).2)]) (fun h=>Zbw (ZhK hJ (Y2 ((ge exsD k).proof)) (1:Int) (by exact sam_hw _) (by exact hG) (by exact sam_pl (by omega))) Zpy rfl (Zp hS _ h.keep h.x) (h.x.1) (Za (h.get 0 rfl) (Za (Rel.of_lit (.int .i64 1)) Zh)) (jo hJ h.x)) ?_
 refine snK 3 tb rfl ?_
 refine XZ (cs:=vdC ((XF (Y2 ((ge exsD k).proof)) (1:Int)).1)) Zgg rfl rfl rfl (lb rfl) rfl rfl rfl (by decide) (m:=1) rfl rfl (fun a w h=>Zp hS _ h.keep h.x _ (Nat.le_refl _)) (fun a w h w' hk'=>Yz hJ _ _ hk' h.x) ?_
 refine snK 1 tb rfl ?_
 refine seK [0,1,7,9,10,11,12] U7 rfl ?_
 refine nx (ln 2 fun hl7=>?_)
 refine ZG tb hJ [4,5,6,1007] [_,_,_,_,.ptr [lI ((ge exsD k).v.1),lI ((ge exsD k).v.2)],_,.bool (!(decide (((XF (Y2 ((ge exsD k).proof)) (1:Int)).1).1=((ge exsD k).v.1))&&decide (((XF (Y2 ((ge exsD k).proof)) (1:Int)).1).2=((ge exsD k).v.2)))),_] [4,6] U4 rfl ⟨fun _ _ _ hx hl _=>ZQ Zmc rfl (hl.env 3 2 _ rfl rfl) hx,fun _ _ _ hx hl hc=>Ztj eqVd rfl (hl.D 3 36 rfl hc) (hl.D 5 38 rfl hc) hx,trivial⟩ ?_
 refine cj 3 (fun hb2=>?_) fun hb2=>?_
 try simp at hb2
 exact False.elim (by have h9:=Zuf (k:=k) (by omega);simp[h9]at hb2)
 try simp at hb2
 refine Zb (nx (Yu tb hJ [0,1,1001] [.int (k+1:Nat),_] [0] U3 rfl ⟨Ya,trivial⟩ ?_))
 exact YH (k+1) [0,1,2] (show((k+1)≤exsD.length)from by omega)
 try simp at hb1
 refine Zt (nx (qso tb hJ [1000] [_] [_] ?_))
 exact Ze (Xe (m:=0) rfl rfl rfl)
end Go.Proofs.YtneapgbkkkjagaaGreatDoor
namespace Go.Proofs.YtneapgbkkkjagaaGreatDoor
def Zmt (l:List (Int×Int)):CD:=.sl (l.map vdC)
def Zp3 (d:Db) (k:Nat):List (Int×Int):=(List.range k).map (Zdi d)
theorem Zdc (d:Db) (k:Nat):Zp3 d (k+1)=Zp3 d k++[Zdi d k]:=by simp[Zp3,List.range_succ]
theorem Zle (d:Db) (k:Nat):(Zp3 d k).length=k:=by simp[Zp3]
def ZaM (d:Db):List (Int×Int)×Int:=if QK d=0 then(Zp3 d d.frames.length,0)else([],QK d)
theorem Zs9 {d:Db} {k:Nat} (hc:QK d=0) (hk:k<d.frames.length):XF d (k:Int)=(Zdi d k,0):=by
 have h:X6 d (k:Int)=0:=by
  unfold X6
  rw[if_neg (by simpa using hc),if_neg (by omega)]
 rw[XF,if_pos h,Int.toNat_natCast]
theorem Zqk {d:Db} {n m:Int} (h:Zeq d n m=true):∀ g∈d.frames,g.apart.length≤100000:=fun g hg=>by
 simp only[Zeq,Bool.and_eq_true,Bool.not_eq_true',List.any_eq_false]at h
 have h1:=h.2 g hg
 simp only[Zl5,Bool.or_eq_true,not_or,decide_eq_true_eq,Bool.not_eq_true]at h1
 have:=h1.1.1.1.1.2
 omega
section
variable {fs:List Fr} {vars:List BA} {f:Fr} {xs:List Itm} {m:Ms} {s:Rs} {k:Nat}
end
end Go.Proofs.YtneapgbkkkjagaaGreatDoor
set_option maxHeartbeats 8000000
set_option maxRecDepth 100000
namespace Go.Proofs.YtneapgbkkkjagaaGreatDoor
open Go.Proofs.Tryz (prog)
open Go.RowKit
theorem QV:Yv prog 37 32 2:=⟨by kernel_rfl,fun w=>by kernel_rfl⟩
theorem Zpx:Zl prog 13:=Zs Tryz.func13 rfl rfl
theorem Zmz:Zcw prog 32:=⟨.agg #[.int .i64 0,.int .i64 0],fun w=>by kernel_rfl⟩
theorem ZiA:Zgc prog 37 32 2 16:=Zp2 (.agg #[.int .i64 0,.int .i64 0]) (by kernel_rfl) (by kernel_rfl) rfl (by decide) (fun w=>by kernel_rfl)
theorem c_AllV {J:World→Prop} (hJ:Stab J) (d:Db) (hw:∀ i,i<d.frames.length→(ge d.frames i).wide.length*32≤140737488351232) (hap:∀ f∈d.frames,f.apart.length≤100000) (hpl:∀ f∈d.frames,f.proof.length≤100000∧ZaR f.proof≤1000000000):Fn prog J 15 [.agg (dbC d)] (.tup [.rd (Zmt ((ZaM d).1)),.int ((ZaM d).2)]):=by
 refine Zo (N:=33) Tryz.func15 rfl rfl (lb rfl) fun S w0 hS hJ0=>?_
 refine tw Z1 ?_
 refine ZG tb hJ [1000] [.ptr (dbC d),_,_] [0] [_] rfl ⟨fun _ _ hk hx hl _=>Yq rfl (hl.env 0 0 _ rfl rfl) (Zp hS _ hk hx _ (Nat.le_refl _)) (jo hJ hx),trivial⟩ ?_
 refine Zf (ZG tb hJ [0,1002] [_,.int (QK d),_] [1] [_,_] rfl ⟨iFo hS hJ (ZpH hJ d (by exact hw)) Zps,trivial⟩ ?_)
 refine qso tb hJ [0,1,1001] [_,_] U3 ?_
 refine cj 2 (fun hb1=>?_) fun hb1=>?_
 try simp at hb1
 have ec:¬ QK d=0:=by simpa using hb1
 refine qso tb hJ [1001,1002] U3 [_,_] ?_
 refine tw (fun h=>Z3 h (m:=0) (s:=2) rfl) ?_
 exact Ze (fun a w h=>YM (m:=0) (k:=1) rfl (ZP h) rfl rfl (congrArg (fun z=>AV.rd (Zmt z)) (show([]:List (Int×Int))=((ZaM d).1)from by first | (simp[ZaM,ec];done) | (rw[ZaM,if_pos ec,e5];done) | simp[ZaM,ec,e5])) (eI (by first | (simp[ZaM,ec];done) | (rw[ZaM,if_pos ec,e5];done) | simp[ZaM,ec,e5])))
 try simp at hb1
 have ec:QK d=0:=by simpa using hb1
 refine Zb (nx (tsq ?_))
 refine Xp QV hJ rfl rfl rfl (lb rfl) fun v1=>?_
 refine snK 1 tb rfl ?_
 refine seK [0,2] [_,_] rfl ?_
 refine nx (Zf (qso tb hJ [0,1,1000] [_] U3 ?_))
 refine Zc (lpo (ι:=Nat×Value×(List (Int×Int))) (fun(k,_,out)=>(k≤d.frames.length)∧(out=Zp3 d k)) (fun(_,v,out)=>[OB.row v 32 2 (out.map vdC)]) (fun(k,v,_)=>[(6,.int (k:Nat)),(5,.lit v)]) (fun(k,_,_)=>d.frames.length-k) [1,2,0] [_] (0,v1,([]:List (Int×Int))) ⟨Nat.zero_le _,rfl⟩ ?_)
 rintro⟨k,v,out⟩ ⟨f1_1,f1_2⟩
 refine Zf (ZG tb hJ [0,1,2,1002,1004] [_,_,_,.int (d.frames.length:Nat),_] [3] U5 rfl ⟨Z2 Xv,trivial⟩ ?_)
 refine ln 3 fun hl1=>?_
 refine cj 4 (fun hb2=>?_) fun hb2=>?_
 try simp at hb2
 have hol:out.length≤400:=by rw[f1_2,Zle];have:=Zju ec;omega
 have et:=Zs9 ec hb2
 refine Zb (nx (Zf (Zc (tsq ?_))))
 refine snK 2 tb rfl ?_
 refine sy (.tup [.agg (vdC ((XF d (k:Int)).1)),.int ((XF d (k:Int)).2)]) (fun h=>Zbw (Zir hJ d (k:Int) (by exact hw) (by exact hap) (by exact hpl)) Zpx rfl (Zp hS _ h.keep h.x) (h.x.1) (Za (h.get 1 rfl) (Za (h.get 0 rfl) Zh)) (jo hJ h.x)) ?_
 refine snK 3 tb rfl ?_
 refine Z4 Zac hJ rfl rfl rfl (lb rfl) fun b2=>?_
 refine ZD (b:=b2) (off:=0) (es:=[_,_]) (news:=[_,_]) hJ hJ0 Y4 rfl rfl rfl (lb rfl) rfl (fun a w h=>⟨(h.get 0 rfl),(h.get 2 rfl)⟩) ?_
 refine snK 1 tb rfl ?_
 refine seK [1,8,9,10] U4 rfl ?_
 refine nx (ZE (snK 1 tb rfl ?_))
 refine sy (.agg (vdC ((XF d (k:Int)).1))) (fun h=>YP (ds:=[lI (((XF d (k:Int)).1).1),lI (((XF d (k:Int)).1).2)]) Qs rfl (Zi h.x (mo 0 rfl)) (h.get 1 rfl) rfl rfl h.x) ?_
 refine sy (.rd (Zmt ([((XF d (k:Int)).1)]))) (fun h=>Y7 QV Zmz (by decide) rfl rfl (h.get 0 rfl) (Zp hS _ h.keep h.x _ (Nat.le_refl _)) (jo hJ h.x)) ?_
 refine kw pm1 ?_
 refine ZR (f:=vdC) (m:=2) (s:=28) out ([((XF d (k:Int)).1)]) (fun _=>rfl) ZiA hJ hJ0 rfl rfl rfl (lb rfl) rfl rfl (fun a w h=>(h.get 0 rfl)) (by simp;omega) (by simp;omega) fun v3=>?_
 refine snK 1 tb rfl ?_
 refine seK [0,2,6,7] U4 rfl ?_
 refine nx (ln 1 fun hl2=>?_)
 refine Yu tb hJ [0,2,1002] [_,.int (k+1:Nat),_] [1] U3 rfl ⟨Ya,trivial⟩ ?_
 refine kw pm1 ?_
 refine kw ZM ?_
 exact YH (k+1,v3,out++([((XF d (k:Int)).1)])) [1,2,0] ⟨by omega,by first | (rw[Zdc,f1_2,et];done) | rw[Zdc,f1_2]⟩
 try simp at hb2
 have e5:out=Zp3 d d.frames.length:=by rw[f1_2,show k=d.frames.length by omega]
 refine Zt (nx (qso tb hJ [1001,1002] U3 [_,_] ?_))
 refine tw (fun h=>ZN hS h (m:=0) (s:=2) rfl) ?_
 exact Ze (fun a w h=>YM (m:=0) (k:=1) rfl (ZP h) rfl rfl (congrArg (fun z=>AV.rd (Zmt z)) (show out=((ZaM d).1)from by first | (simp[ZaM,ec];done) | (rw[ZaM,if_pos ec,e5];done) | simp[ZaM,ec,e5])) (eI (by first | (simp[ZaM,ec];done) | (rw[ZaM,if_pos ec,e5];done) | simp[ZaM,ec,e5])))
theorem p_AllV {J:World→Prop} (hJ:Stab J) (d:Db) (hw:∀ f∈d.frames,f.wide.length*32≤140737488351232) (hG:ZaN J) (hpl:∀ g∈d.frames,g.proof.length≤100000∧ZaR g.proof≤1000000000):Fn prog J 14 [.agg (dbC d)] (.tup [.rd (Zmt ((ZaM d).1)),.int ((ZaM d).2)]):=by
 refine Zo (N:=26) Tryz.func14 rfl rfl (lb rfl) fun S w0 hS hJ0=>?_
 refine tw Z1 ?_
 refine ZG tb hJ [1000] [.ptr (dbC d),_,_] [0] [_] rfl ⟨fun _ _ hk hx hl _=>Yq rfl (hl.env 0 0 _ rfl rfl) (Zp hS _ hk hx _ (Nat.le_refl _)) (jo hJ hx),trivial⟩ ?_
 refine Zf (ZG tb hJ [0,1002] [_,.int (QK d),_] [1] [_,_] rfl ⟨iFo hS hJ (Zn3 hJ d sfz sfz) Zpt,trivial⟩ ?_)
 refine qso tb hJ [0,1,1001] [_,_] U3 ?_
 refine cj 2 (fun hb1=>?_) fun hb1=>?_
 try simp at hb1
 have ec:¬ QK d=0:=by simpa using hb1
 refine qso tb hJ [1001,1002] U3 [_,_] ?_
 refine tw (fun h=>Z3 h (m:=0) (s:=2) rfl) ?_
 exact Ze (fun a w h=>YM (m:=0) (k:=1) rfl (ZP h) rfl rfl (congrArg (fun z=>AV.rd (Zmt z)) (show([]:List (Int×Int))=((ZaM d).1)from by first | (simp[ZaM,ec];done) | (rw[ZaM,if_pos ec,e5];done) | simp[ZaM,ec,e5])) (eI (by first | (simp[ZaM,ec];done) | (rw[ZaM,if_pos ec,e5];done) | simp[ZaM,ec,e5])))
 try simp at hb1
 have ec:QK d=0:=by simpa using hb1
 refine Zb (nx (qso tb hJ [0,1000] [_] [_,_] ?_))
 refine Zf (ZG tb hJ [0,1,1001,1002,1003] [_,_,.int (d.frames.length:Nat),_] [2] U5 rfl ⟨Z2 Xv,trivial⟩ ?_)
 refine ln 2 fun hl1=>?_
 refine Zc (tw (YV 32 2 hJ) ?_)
 refine lpo (ι:=Nat×Value×(List (Int×Int))) (fun(k,_,out)=>(k≤d.frames.length)∧(out=Zp3 d k)) (fun(_,v,out)=>[OB.row v 32 2 (out.map vdC)]) (fun(k,v,_)=>[(15,.int (k:Nat)),(5,.lit v)]) (fun(k,_,_)=>d.frames.length-k) [0,3,4,1] [_,_] (0,(.slice none 0 0),([]:List (Int×Int))) ⟨Nat.zero_le _,rfl⟩ ?_
 rintro⟨k,v,out⟩ ⟨f1_1,f1_2⟩
 refine qso tb hJ [0,1,2,3,1000] [_] U5 ?_
 refine cjS 4 (fun hb2=>?_) fun hb2=>?_
 try simp at hb2
 have hol:out.length≤400:=by rw[f1_2,Zle];have:=Zju ec;omega
 have et:=Zs9 ec hb2
 refine Zb (nx (Zf (Zc (qso tb hJ [0,1,2,3,1001] [_,_] U5 ?_))))
 refine ZE (snK 3 tb rfl ?_)
 refine sy (.agg (vdC (Zdi d k))) (fun h=>Zbw (ZhD hJ d k (by exact hb2) (by exact ec) (by exact hw) (by exact hpl)) Zpu rfl (Zp hS _ h.keep h.x) (h.x.1) (Za (h.get 1 rfl) (Za (h.get 0 rfl) Zh)) (jo hJ h.x)) ?_
 refine sy (.rd (Zmt ([(Zdi d k)]))) (fun h=>Y7 QV Zmz (by decide) rfl rfl (h.get 0 rfl) (Zp hS _ h.keep h.x _ (Nat.le_refl _)) (jo hJ h.x)) ?_
 refine ZR (f:=vdC) (m:=4) (s:=18) out ([(Zdi d k)]) (fun _=>rfl) ZiA hJ hJ0 rfl rfl rfl (lb rfl) rfl rfl (fun a w h=>(h.get 0 rfl)) (by simp;omega) (by simp;omega) fun v1=>?_
 refine snK 1 tb rfl ?_
 refine seK [0,2,7,8,9] U5 rfl ?_
 refine nx (ln 1 fun hl2=>?_)
 refine Yu tb hJ [0,2,3,1001] [.int (k+1:Nat),_] [0] U4 rfl ⟨Ya,trivial⟩ ?_
 exact YH (k+1,v1,out++([(Zdi d k)])) [1,2,3,0] ⟨by omega,by first | (rw[Zdc,f1_2,et];done) | rw[Zdc,f1_2]⟩
 try simp at hb2
 have e5:out=Zp3 d d.frames.length:=by rw[f1_2,show k=d.frames.length by omega]
 refine Zt (nx (qso tb hJ [1001,1002] U3 [_,_] ?_))
 refine tw (fun h=>ZN hS h (m:=0) (s:=2) rfl) ?_
 exact Ze (fun a w h=>YM (m:=0) (k:=1) rfl (ZP h) rfl rfl (congrArg (fun z=>AV.rd (Zmt z)) (show out=((ZaM d).1)from by first | (simp[ZaM,ec];done) | (rw[ZaM,if_pos ec,e5];done) | simp[ZaM,ec,e5])) (eI (by first | (simp[ZaM,ec];done) | (rw[ZaM,if_pos ec,e5];done) | simp[ZaM,ec,e5])))
theorem call_6:Zl prog 6:=Zs Tryz.func6 rfl rfl
theorem ZtF:Zl prog 9:=Zs Tryz.func9 rfl rfl
theorem Zdl:prog.underlying 37=some (.slice 32):=by kernel_rfl
theorem Zwc:Zl prog 14:=Zs Tryz.func14 rfl rfl
theorem Zwb:Zl prog 15:=Zs Tryz.func15 rfl rfl
theorem Zwa:Zl prog 16:=Zs Tryz.func16 rfl rfl
theorem Zn2 {J:World→Prop} (hJ:Stab J) (xs:List (Int×Int)) (ys:List (Int×Int))  :Fn prog J 16 [.rd (Zmt xs),.rd (Zmt ys)] (.bool (decide (xs=ys))):=by
 refine Zo (N:=26) Tryz.func16 rfl rfl (lb rfl) fun S w0 hS hJ0=>?_
 clear hJ0
 refine ln 0 fun hl1=>?_
 refine ln 1 fun hl2=>?_
 refine qs tb hJ [0,1] [_] [_,_] ?_
 refine Zf (hqs tb hJ [0,1,1004] [_,.int (xs.length:Nat),_,.int (ys.length:Nat),_] [1,3] U3 rfl ⟨Z2 Zdl,Z2 Zdl,trivial⟩ ?_)
 refine cj 2 (fun hb1=>?_) fun hb1=>?_
 try simp at hb1
 refine qs tb hJ [1000] [_] [_] ?_
 exact Ze (rtn (m:=0) rfl rfl (eB (by first | (have:=Za3 (xs:=xs) (ys:=ys) (by omega) (fun j hj=>f1_2 j (by omega));simp[this];done) | (symm;rw[decide_eq_false_iff_not];intro e;subst e;simp_all;done))))
 try simp at hb1
 refine Zb (nx (Zf (hqs tb hJ [0,1,1001,1002] [_,.int (xs.length:Nat),_] [1] U4 rfl ⟨Z2 Zdl,trivial⟩ ?_)))
 refine Zc (lp (ι:=Nat) (fun k=>(k≤xs.length)∧(∀ j,j<k→ge xs j=ge ys j)) (fun k=>[(13,.int (k:Nat))]) (fun k=>xs.length-k) [0,1,2,3] U3 0 ⟨Nat.zero_le _,fun j hj=>by omega⟩ ?_)
 rintro k ⟨f1_1,f1_2⟩
 refine qs tb hJ [0,1,2,3,1000] [_] U5 ?_
 refine cjS 4 (fun hb2=>?_) fun hb2=>?_
 try simp at hb2
 refine Zb (nx (Zf (Zc (qs tb hJ [0,1,2,3,1001] [_,_] U5 ?_))))
 refine hqs tb hJ [0,1,2,3,1008] [_,_,.ptr (vdC (ge xs k)),_,_,_,.ptr (vdC (ge ys k)),_,.bool (!(decide ((ge xs k).1=(ge ys k).1)&&decide ((ge xs k).2=(ge ys k).2)))] [2,6,8] U5 rfl ⟨iIx QV,iIx QV,fun _ _ _ hx hl _=>Ztj eqVd rfl (hl.D 3 19 rfl rfl) (hl.D 7 23 rfl rfl) hx,trivial⟩ ?_
 refine cj 4 (fun hb3=>?_) fun hb3=>?_
 try simp at hb3
 refine qs tb hJ [1000] [_] [_] ?_
 exact Ze (rtn (m:=0) rfl rfl (eB (by first | (have:=Za3 (xs:=xs) (ys:=ys) (by omega) (fun j hj=>f1_2 j (by omega));simp[this];done) | (symm;rw[decide_eq_false_iff_not];intro e;subst e;simp_all;done))))
 try simp at hb3
 refine Zb (nx (hqp tb hJ [0,1,2,1001] [.int (k+1:Nat),_] [0] U4 rfl ⟨Ya,trivial⟩ ?_))
 exact lpE (k+1) [0,1,2,3] ⟨by omega,ZK f1_2 (Prod.ext hb3.1 hb3.2)⟩
 try simp at hb2
 refine Zt (nx (qs tb hJ [1000] [_] [_] ?_))
 exact Ze (rtn (m:=0) rfl rfl (eB (by first | (have:=Za3 (xs:=xs) (ys:=ys) (by omega) (fun j hj=>f1_2 j (by omega));simp[this];done) | (symm;rw[decide_eq_false_iff_not];intro e;subst e;simp_all;done))))
theorem ZhZ {J:World→Prop} (hJ:Stab J) (d:Db) (z:Int) (hw:∀ f∈d.frames,f.wide.length*32≤140737488351232) (hG:ZaN J):Fn prog J 4 [.agg (dbC d),.int z] (.bool true):=by
 refine Zo (N:=60) Tryz.func4 rfl rfl (lb rfl) fun S w0 hS hJ0=>?_
 refine tw Z1 ?_
 refine ZG tb hJ [1,1000] [.ptr (dbC d),_] [0] [_,_] rfl ⟨fun _ _ hk hx hl _=>Yq rfl (hl.env 0 0 _ rfl rfl) (Zp hS _ hk hx _ (Nat.le_refl _)) (jo hJ hx),trivial⟩ ?_
 refine Zf (ZG tb hJ [0,1,1002] [_,.bool (Zeq d (30:Int) (300:Int)),_] [1] U3 rfl ⟨iFo hS hJ (ZtT hJ d (30:Int) (300:Int)) call_6,trivial⟩ ?_)
 refine cj 2 (fun hb1=>?_) fun hb1=>?_
 refine ZG tb hJ [1001] [.bool true,_] [0] [_] rfl ⟨iFo hS hJ (ZmG hJ  (by exact hG)) ZtF,trivial⟩ ?_
 exact Ze (Xe (m:=0) rfl rfl rfl)
 have e1:Zeq d 30 300=true:=by simpa using hb1
 have hap:=Zqk e1
 have hpl:=Zqj e1 (by omega)
 refine Zb (nx (tsq ?_))
 refine snK 2 tb rfl ?_
 refine sy (.tup [.agg (vdC ((XF d z).1)),.int ((XF d z).2)]) (fun h=>Zbw (ZhK hJ d z (by exact hw) (by exact hG) (by exact hpl)) Zpy rfl (Zp hS _ h.keep h.x) (h.x.1) (Za (h.get 1 rfl) (Za (h.get 0 rfl) Zh)) (jo hJ h.x)) ?_
 refine snK 3 tb rfl ?_
 refine XZ (cs:=vdC ((XF d z).1)) Zgg rfl rfl rfl (lb rfl) rfl rfl rfl (by decide) (m:=1) rfl rfl (fun a w h=>Zp hS _ h.keep h.x _ (Nat.le_refl _)) (fun a w h w' hk'=>Yz hJ _ _ hk' h.x) ?_
 refine snK 1 tb rfl ?_
 refine seK [0,1,8,9] U4 rfl ?_
 refine nx (tsq ?_)
 refine snK 2 tb rfl ?_
 refine sy (.tup [.agg (vdC ((XF d z).1)),.int ((XF d z).2)]) (fun h=>Zbw (Zir hJ d z (by exact fun i hi=>hw _ (Zv hi)) (by exact hap) (by exact hpl)) Zpx rfl (Zp hS _ h.keep h.x) (h.x.1) (Za (h.get 1 rfl) (Za (h.get 0 rfl) Zh)) (jo hJ h.x)) ?_
 refine snK 3 tb rfl ?_
 refine XZ (cs:=vdC ((XF d z).1)) Zgg rfl rfl rfl (lb rfl) rfl rfl rfl (by decide) (m:=1) rfl rfl (fun a w h=>Zp hS _ h.keep h.x _ (Nat.le_refl _)) (fun a w h w' hk'=>Yz hJ _ _ hk' h.x) ?_
 refine snK 1 tb rfl ?_
 refine seK [0,1,8,9,11] U5 rfl ?_
 refine nx (ZG tb hJ (r5 [1003,1005,1006]) [_,.tup [.rd (Zmt ((ZaM d).1)),.int ((ZaM d).2)],_,_,_,_,_] [1] U8 rfl ⟨iFo hS hJ (p_AllV hJ d (by exact hw) (by exact hG) (by exact hpl)) Zwc,trivial⟩ ?_)
 refine ln 5 fun hl1=>?_
 refine ZG tb hJ [0,1,2,3,6,7,1005,1006] [_,.tup [.rd (Zmt ((ZaM d).1)),.int ((ZaM d).2)],_,_,_,_,_] [1] U8 rfl ⟨iFo hS hJ (c_AllV hJ d (by exact fun i hi=>hw _ (Zv hi)) (by exact hap) (by exact hpl)) Zwb,trivial⟩ ?_
 refine ZG tb hJ [1021] [_,_,.bool (decide (((XF d z).1).1=((XF d z).1).1)&&decide (((XF d z).1).2=((XF d z).1).2)),_,_,_,_,_,_,_,_,.bool (decide (((ZaM d).1)=((ZaM d).1))),_,_,_,_,_,_,_,.bool true,_,_] [2,11,19] [_] rfl ⟨fun _ _ _ hx hl _=>r_eqlV eqVd rfl (hl.D 0 39 rfl rfl) (hl.D 1 40 rfl rfl) hx,iFo hS hJ (Zn2 hJ ((ZaM d).1) ((ZaM d).1)) Zwa,fun _ _ hk hx _ hc=>Zbw (ZmG hJ  (by have hc':(((((decide (((XF d z).1).1=((XF d z).1).1)&&decide (((XF d z).1).2=((XF d z).1).2))&& (decide ((XF d z).2=(XF d z).2)))&& (decide (((ZaM d).1)=((ZaM d).1))))&& (decide ((ZaM d).2=(ZaM d).2)))==true)=true:=hc;(try simp at hc');(exact hG))) ZtF rfl (Zp hS _ hk hx) (hx.1) Zh (jo hJ hx),trivial⟩ ?_
 exact Ze (Xe (m:=0) rfl rfl (eB (by simp)))
end Go.Proofs.YtneapgbkkkjagaaGreatDoor
